import Derived.WalkKit
import Derived.WalkSpells
import Derived.WalkLawsBesides
import Derived.Deep.RegionHeld3
import Derived.Deep.LoopGhost
import Derived.BigQuiet
import Derived.Laws.EntriesVeiled
import Derived.Deep.DeepMust
import Derived.Deep.QuietTactic
import Derived.Test.YtlpmfkpefoegeacGreatDoorProg
import Derived.Deep.RegionHeld
namespace Go.Proofs.YtlpmfkpefoegeacGreatDoor
set_option maxRecDepth 99999
set_option maxHeartbeats 0
set_option linter.all false
open Go.RowKit
theorem ae:type_of% @if_neg:=@if_neg
theorem ah:type_of% @if_pos:=@if_pos
theorem aS:type_of% @List.getElem?_eq_getElem:=@List.getElem?_eq_getElem
theorem bn:type_of% @List.length_cons:=@List.length_cons
theorem bA:type_of% @List.length_append:=@List.length_append
theorem bC:type_of% @Go.RowKit.Below.heap_setCell:=@Go.RowKit.Below.heap_setCell
theorem bF:type_of% @Go.World.size_alloc:=@Go.World.size_alloc
theorem bH:type_of% @Go.RowKit.Below.setCell:=@Go.RowKit.Below.setCell
theorem bZ:type_of% @List.getElem_mem:=@List.getElem_mem
theorem cK:type_of% @Go.bodyPost_ret:=@Go.bodyPost_ret
theorem cZ:type_of% @Option.some.injEq:=@Option.some.injEq
theorem dB:type_of% @Int.toNat_natCast:=@Int.toNat_natCast
theorem dD:type_of% @Nat.zero_le:=@Nat.zero_le
theorem dL:type_of% @not_not_intro:=@not_not_intro
theorem dM:type_of% @Nat.le_trans:=@Nat.le_trans
theorem dS:type_of% @List.length_take:=@List.length_take
theorem dW:type_of% @List.length_singleton:=@List.length_singleton
theorem eu:type_of% @Int.eq_ofNat_of_zero_le:=@Int.eq_ofNat_of_zero_le
theorem eX:type_of% @Go.Value.slice.injEq:=@Go.Value.slice.injEq
theorem fC:type_of% @List.length_nil:=@List.length_nil
theorem fF:type_of% @List.take_succ_eq_append_getElem:=@List.take_succ_eq_append_getElem
theorem fG:type_of% @Prod.mk.injEq:=@Prod.mk.injEq
theorem fH:type_of% @true_and:=@true_and
theorem gy:type_of% @List.mem_append:=@List.mem_append
theorem gJ:type_of% @Go.RowKit.Below.refl:=@Go.RowKit.Below.refl
theorem gQ:type_of% @List.mem_map:=@List.mem_map
theorem ig:type_of% @Go.World.size_drew:=@Go.World.size_drew
theorem iF:type_of% @List.mem_singleton:=@List.mem_singleton
theorem iG:type_of% @List.mem_cons:=@List.mem_cons
theorem iO:type_of% @List.getElem?_eq_some_iff:=@List.getElem?_eq_some_iff
theorem jq:type_of% @List.length_map:=@List.length_map
theorem jU:type_of% @List.take_of_length_le:=@List.take_of_length_le
theorem jV:type_of% @Bool.false_ne_true:=@Bool.false_ne_true
theorem jW:type_of% @List.take_length:=@List.take_length
theorem kI:type_of% @Bool.and_eq_true:=@Bool.and_eq_true
theorem kJ:type_of% @decide_eq_true:=@decide_eq_true
theorem kK:type_of% @List.mem_range:=@List.mem_range
theorem kL:type_of% @Nat.zero_add:=@Nat.zero_add
theorem lV:type_of% @List.ext_getElem:=@List.ext_getElem
theorem mE:type_of% @List.cons_append:=@List.cons_append
theorem mF:type_of% @List.map_append:=@List.map_append
theorem mX:type_of% @Go.World.block_lt_of_cell?:=@Go.World.block_lt_of_cell?
theorem mY:type_of% @List.mem_cons_self:=@List.mem_cons_self
theorem mZ:type_of% @Go.World.size_setCell:=@Go.World.size_setCell
theorem ng:type_of% @List.take_zero:=@List.take_zero
theorem nU:type_of% @List.mem_cons_of_mem:=@List.mem_cons_of_mem
theorem nV:type_of% @Option.map_some:=@Option.map_some
theorem nW:type_of% @List.append_nil:=@List.append_nil
theorem nX:type_of% @Nat.add_mul:=@Nat.add_mul
theorem pE:type_of% @Array.getElem?_toList:=@Array.getElem?_toList
theorem pF:type_of% @decide_eq_true_eq:=@decide_eq_true_eq
theorem qw:type_of% @Option.getD_some:=@Option.getD_some
theorem qx:type_of% @List.all_eq_true:=@List.all_eq_true
theorem qy:type_of% @List.map_cons:=@List.map_cons
theorem qz:type_of% @Nat.add_zero:=@Nat.add_zero
theorem qA:type_of% @Int.le_refl:=@Int.le_refl
theorem rF:type_of% @Array.getElem?_eq_getElem:=@Array.getElem?_eq_getElem
theorem rG:type_of% @beq_iff_eq:=@beq_iff_eq
theorem tV:type_of% @List.getElem?_append_left:=@List.getElem?_append_left
theorem tX:type_of% @List.mem_iff_getElem:=@List.mem_iff_getElem
theorem tY:type_of% @beq_eq_false_iff_ne:=@beq_eq_false_iff_ne
theorem tZ:type_of% @Bool.false_eq_true:=@Bool.false_eq_true
theorem ug:type_of% @and_true:=@and_true
theorem vw:type_of% @List.getElem?_append_right:=@List.getElem?_append_right
theorem vz:type_of% @List.getElem?_take_of_lt:=@List.getElem?_take_of_lt
theorem vB:type_of% @List.getElem?_map:=@List.getElem?_map
theorem vC:type_of% @List.length_set:=@List.length_set
theorem vD:type_of% @or_false:=@or_false
theorem xm:type_of% @List.getElem?_cons_zero:=@List.getElem?_cons_zero
theorem xn:type_of% @List.nil_append:=@List.nil_append
theorem yx:type_of% @List.getElem_cons_zero:=@List.getElem_cons_zero
theorem yz:type_of% @List.length_replicate:=@List.length_replicate
theorem yA:type_of% @List.take_succ_cons:=@List.take_succ_cons
theorem yB:type_of% @List.flatMap_cons:=@List.flatMap_cons
theorem yC:type_of% @List.not_mem_nil:=@List.not_mem_nil
theorem yD:type_of% @Bool.or_eq_true:=@Bool.or_eq_true
theorem yE:type_of% @List.drop_zero:=@List.drop_zero
theorem yF:type_of% @Nat.mul_one:=@Nat.mul_one
theorem Ao:type_of% @Array.getElem?_eq_some_iff:=@Array.getElem?_eq_some_iff
theorem Ap:type_of% @Nat.pos_iff_ne_zero:=@Nat.pos_iff_ne_zero
theorem Aq:type_of% @List.set_cons_succ:=@List.set_cons_succ
theorem Ar:type_of% @List.map_singleton:=@List.map_singleton
theorem Au:type_of% @List.append_assoc:=@List.append_assoc
theorem Av:type_of% @List.length_drop:=@List.length_drop
theorem Aw:type_of% @List.map_nil:=@List.map_nil
theorem Ay:type_of% @dif_pos:=@dif_pos
theorem Cn:type_of% @List.eq_nil_of_length_eq_zero:=@List.eq_nil_of_length_eq_zero
theorem Co:type_of% @List.setIfInBounds_toArray:=@List.setIfInBounds_toArray
theorem Cq:type_of% @Classical.byContradiction:=@Classical.byContradiction
theorem Cr:type_of% @Array.getElem?_eq_none:=@Array.getElem?_eq_none
theorem Cs:type_of% @Nat.mul_le_mul_right:=@Nat.mul_le_mul_right
theorem Ct:type_of% @List.length_reverse:=@List.length_reverse
theorem Cu:type_of% @List.set_cons_zero:=@List.set_cons_zero
theorem Cv:type_of% @List.getElem_set:=@List.getElem_set
theorem Cw:type_of% @Go.IntWalk.i64_in:=@Go.IntWalk.i64_in
theorem Cx:type_of% @Go.bodyPost_end:=@Go.bodyPost_end
theorem Eo:type_of% @List.getElem_append_left:=@List.getElem_append_left
theorem Ep:type_of% @List.getElem?_eq_none:=@List.getElem?_eq_none
theorem Er:type_of% @ByteArray.size_append:=@ByteArray.size_append
theorem Es:type_of% @List.getElem_of_mem:=@List.getElem_of_mem
theorem Et:type_of% @Nat.lt_of_lt_of_le:=@Nat.lt_of_lt_of_le
theorem Eu:type_of% @Nat.min_eq_right:=@Nat.min_eq_right
theorem Ew:type_of% @List.isEmpty_iff:=@List.isEmpty_iff
theorem Ex:type_of% @List.cons.injEq:=@List.cons.injEq
theorem Ey:type_of% @Go.Addr.mk.injEq:=@Go.Addr.mk.injEq
theorem Ez:type_of% @Go.getD_set_ne:=@Go.getD_set_ne
theorem EA:type_of% @Ne.symm:=@Ne.symm
theorem GZ:type_of% @Array.getElem?_setIfInBounds_self_of_lt:=@Array.getElem?_setIfInBounds_self_of_lt
theorem G5:type_of% @Array.getElem?_setIfInBounds_ne:=@Array.getElem?_setIfInBounds_ne
theorem G6:type_of% @List.length_eq_zero_iff:=@List.length_eq_zero_iff
theorem G7:type_of% @List.getElem_cons_succ:=@List.getElem_cons_succ
theorem G8:type_of% @List.take_append_drop:=@List.take_append_drop
theorem G9:type_of% @List.mem_of_mem_drop:=@List.mem_of_mem_drop
theorem Ha:type_of% @Go.ByteArray.toList_eq:=@Go.ByteArray.toList_eq
theorem He:type_of% @List.foldl_cons:=@List.foldl_cons
theorem Hf:type_of% @Nat.zero_mul:=@Nat.zero_mul
theorem Hg:type_of% @Int.add_comm:=@Int.add_comm
theorem Hl:type_of% @Iff.rfl:=@Iff.rfl
theorem Lj:type_of% @Array.getD_eq_getD_getElem?:=@Array.getD_eq_getD_getElem?
theorem Ll:type_of% @List.getElem_append_right:=@List.getElem_append_right
theorem Lm:type_of% @List.reverse_reverse:=@List.reverse_reverse
theorem Lp:type_of% @not_true_eq_false:=@not_true_eq_false
theorem Lr:type_of% @List.length_range:=@List.length_range
theorem Ls:type_of% @List.getElem_map:=@List.getElem_map
theorem Lt:type_of% @UInt8.toNat_inj:=@UInt8.toNat_inj
theorem Lu:type_of% @Nat.not_lt_zero:=@Nat.not_lt_zero
theorem Lv:type_of% @Nat.min_eq_left:=@Nat.min_eq_left
theorem Lx:type_of% @Go.RowKit.Below.heap_alloc:=@Go.RowKit.Below.heap_alloc
theorem LA:type_of% @Go.Act.put_comm:=@Go.Act.put_comm
theorem LC:type_of% @bne_iff_ne:=@bne_iff_ne
theorem LD:type_of% @Go.RowKit.Below.alloc:=@Go.RowKit.Below.alloc
theorem LH:type_of% @Go.RowKit.Below.drew:=@Go.RowKit.Below.drew
theorem P9:type_of% @List.getElem?_replicate:=@List.getElem?_replicate
theorem Qa:type_of% @List.getElem?_set_self:=@List.getElem?_set_self
theorem Qb:type_of% @List.mem_of_mem_take:=@List.mem_of_mem_take
theorem Qc:type_of% @List.mem_of_getElem?:=@List.mem_of_getElem?
theorem Qd:type_of% @List.getElem?_set_ne:=@List.getElem?_set_ne
theorem Qe:type_of% @List.getElem_modify:=@List.getElem_modify
theorem Qf:type_of% @decide_eq_true_iff:=@decide_eq_true_iff
theorem Qg:type_of% @List.pairwise_cons:=@List.pairwise_cons
theorem Qh:type_of% @Array.any_eq_true':=@Array.any_eq_true'
theorem Qi:type_of% @List.size_toArray:=@List.size_toArray
theorem Qj:type_of% @List.foldl_append:=@List.foldl_append
theorem Qk:type_of% @Classical.not_not:=@Classical.not_not
theorem Ql:type_of% @Nat.lt_succ_self:=@Nat.lt_succ_self
theorem Qm:type_of% @List.mem_reverse:=@List.mem_reverse
theorem Qn:type_of% @Int.natCast_zero:=@Int.natCast_zero
theorem Qo:type_of% @List.take_left':=@List.take_left'
theorem Qp:type_of% @List.map_map:=@List.map_map
theorem Qq:type_of% @Go.wpOp_mono:=@Go.wpOp_mono
theorem Xu:type_of% @List.take_append_of_le_length:=@List.take_append_of_le_length
theorem Xv:type_of% @List.exists_cons_of_ne_nil:=@List.exists_cons_of_ne_nil
theorem Xw:type_of% @Array.toList_setIfInBounds:=@Array.toList_setIfInBounds
theorem Xx:type_of% @ByteArray.data_append:=@ByteArray.data_append
theorem Xy:type_of% @List.getElem_toArray:=@List.getElem_toArray
theorem Xz:type_of% @List.takeWhile_cons:=@List.takeWhile_cons
theorem XA:type_of% @List.replicate_succ:=@List.replicate_succ
theorem XB:type_of% @List.map_congr_left:=@List.map_congr_left
theorem XC:type_of% @List.length_pos_iff:=@List.length_pos_iff
theorem XD:type_of% @List.getElem_mapIdx:=@List.getElem_mapIdx
theorem XE:type_of% @List.getElem?_range:=@List.getElem?_range
theorem XF:type_of% @List.drop_succ_cons:=@List.drop_succ_cons
theorem XG:type_of% @List.dropWhile_cons:=@List.dropWhile_cons
theorem XH:type_of% @Int.min_eq_right:=@Int.min_eq_right
theorem XI:type_of% @Int.max_eq_right:=@Int.max_eq_right
theorem XJ:type_of% @Option.some.inj:=@Option.some.inj
theorem XK:type_of% @List.range_succ:=@List.range_succ
theorem XL:type_of% @Int.min_eq_left:=@Int.min_eq_left
theorem XM:type_of% @Int.max_eq_left:=@Int.max_eq_left
theorem XN:type_of% @List.take_take:=@List.take_take
theorem XO:type_of% @Nat.add_assoc:=@Nat.add_assoc
theorem XP:type_of% @ByteArray.ext:=@ByteArray.ext
theorem XQ:type_of% @Go.wp_region_any:=@Go.wp_region_any
theorem XR:type_of% @Nat.sub_zero:=@Nat.sub_zero
theorem XT:type_of% @List.set_set:=@List.set_set
theorem XU:type_of% @Int.add_zero:=@Int.add_zero
theorem aga:type_of% @Array.getElem?_replicate:=@Array.getElem?_replicate
theorem agb:type_of% @decide_eq_false_iff_not:=@decide_eq_false_iff_not
theorem agc:type_of% @Option.map_eq_some_iff:=@Option.map_eq_some_iff
theorem agd:type_of% @List.takeWhile_sublist:=@List.takeWhile_sublist
theorem age:type_of% @List.range_succ_eq_map:=@List.range_succ_eq_map
theorem agf:type_of% @List.filter_eq_nil_iff:=@List.filter_eq_nil_iff
theorem agh:type_of% @Array.toList_replicate:=@Array.toList_replicate
theorem agi:type_of% @List.mem_append_left:=@List.mem_append_left
theorem agj:type_of% @Array.replicate_zero:=@Array.replicate_zero
theorem agk:type_of% @Array.replicate_succ:=@Array.replicate_succ
theorem agl:type_of% @Nat.mul_le_mul_left:=@Nat.mul_le_mul_left
theorem agm:type_of% @List.append_toArray:=@List.append_toArray
theorem agn:type_of% @Function.comp_apply:=@Function.comp_apply
theorem agp:type_of% @Array.length_toList:=@Array.length_toList
theorem agq:type_of% @Int.lt_or_eq_of_le:=@Int.lt_or_eq_of_le
theorem agr:type_of% @Array.ext_getElem?:=@Array.ext_getElem?
theorem ags:type_of% @Nat.lt_of_succ_le:=@Nat.lt_of_succ_le
theorem agt:type_of% @List.reverse_cons:=@List.reverse_cons
theorem agu:type_of% @List.push_toArray:=@List.push_toArray
theorem agv:type_of% @List.nodup_append:=@List.nodup_append
theorem agw:type_of% @List.flatten_cons:=@List.flatten_cons
theorem agx:type_of% @List.ext_getElem?:=@List.ext_getElem?
theorem agy:type_of% @Int.lt_trichotomy:=@Int.lt_trichotomy
theorem agz:type_of% @Decidable.not_not:=@Decidable.not_not
theorem agA:type_of% @List.prefix_refl:=@List.prefix_refl
theorem agB:type_of% @List.map_toArray:=@List.map_toArray
theorem agC:type_of% @Array.toList_inj:=@Array.toList_inj
theorem agD:type_of% @Go.Result.andThen_ok:=@Go.Result.andThen_ok
theorem agE:type_of% @List.mem_filter:=@List.mem_filter
theorem agF:type_of% @List.idxOf_cons:=@List.idxOf_cons
theorem agG:type_of% @List.head?_cons:=@List.head?_cons
theorem arJ:type_of% @Array.all_eq_true_iff_forall_mem:=@Array.all_eq_true_iff_forall_mem
theorem arK:type_of% @List.dropLast_concat_getLast:=@List.dropLast_concat_getLast
theorem arL:type_of% @List.idxOf_lt_length_of_mem:=@List.idxOf_lt_length_of_mem
def Hd(p:Prop):Prop:=p
theorem Hd.o{p:Prop}(h:Hd p):p:=h
theorem Hd.out{p:Prop}(h:Hd p):p:=h
theorem zh{p:Prop}(h:p):Hd p:=h
theorem zI{α:Type _}{a b:α}(h:some a=some b):a=b:=XJ h
theorem zN(n:Nat):(0:Int)<=(n:Int):=Int.natCast_nonneg n
theorem zL(n:Nat):n<=n:=Nat.le_refl n
theorem zB(n:Nat)(w:World):Below n w w:=gJ n w
def au(n:Int):Prop:= -9223372036854775808<=n/\n<=9223372036854775807
theorem au.Qr{n:Int}(h:(Lit.int .i64 n).wf=true):au n:=by simpa[Lit.wf,IntKind.min,IntKind.max,IntKind.signed,IntKind.bits,au]using h
theorem dz(w:World)(b o b' o':Nat)(v:Value):(w.setCell ⟨b,o,none⟩ v).cell? ⟨b',o',none⟩=if b=b'/\o=o'/\(w.cell? ⟨b,o,none⟩).isSome=true then some v else w.cell? ⟨b',o',none⟩:=by
 by_cases h:b=b'/\o=o';·obtain⟨rfl,rfl⟩:=h;cases hc:w.cell? ⟨b,o,none⟩with
  |none=>simp only[Option.isSome_none,tZ,and_false,if_false];simp only[World.cell?,World.setCell,Array.getElem?_modify]at hc ⊢;cases hh:w.heap[b]? with|none=>simp|some x=>cases x<;>simp_all
  |some u=>simp only[Option.isSome_some,and_self,if_true];exact World.cell?_setCell_same _ _ _ hc
 ·rw[ae (fun⟨h1,h2,_⟩=>h ⟨h1,h2⟩)];exact World.cell?_setCell_other _ _ _ _ (by intro e;simp only[Ey]at e;exact h ⟨e.1,e.2.1⟩)
theorem agH{W w1:World}(hb:Below W.heap.size W w1):(∀b o,b<W.heap.size->w1.cell? ⟨b,o,none⟩=W.cell? ⟨b,o,none⟩)/\(∀b o,b<W.heap.size->w1.frozen? ⟨b,o,none⟩=W.frozen? ⟨b,o,none⟩):=⟨fun b o h=>hb.cell (p:=⟨b,o,none⟩) h,fun b o h=>hb.frozen (p:=⟨b,o,none⟩) h⟩
theorem bc{w w1:World}(hb:Below w.heap.size w w1){b o:Nat}{v:Value}(h:w.cell? ⟨b,o,none⟩=some v):w1.cell? ⟨b,o,none⟩=some v:=by rw[hb.cell (p:=⟨b,o,none⟩) (mX w ⟨b,o,none⟩ h)];exact h
structure ag (A : Nat → Prop) (w w' : World) : Prop where
  size : w.heap.size ≤ w'.heap.size
  block : ∀ b, b < w.heap.size → A b → w'.heap[b]? = w.heap[b]?
theorem ag.refl(A:Nat->Prop)(w:World):ag A w w:=⟨zL _,fun _ _ _=>rfl⟩
theorem ag.trans{A:Nat->Prop}{a b c:World}(h:ag A a b)(k:ag A b c):ag A a c:=⟨dM h.size k.size,fun i hi ha=>(k.block i (Et hi h.size) ha).trans (h.block i hi ha)⟩
theorem ag.mono{A A':Nat->Prop}{w w':World}(h:ag A w w')(hA:∀b,b<w.heap.size->A' b->A b):ag A' w w':=⟨h.size,fun b hb ha=>h.block b hb (hA b hb ha)⟩
theorem ag.ob{A:Nat->Prop}{w w':World}(h:Below w.heap.size w w'):ag A w w':=⟨h.size,fun b hb _=>h.block b hb⟩
theorem ag.alloc(A:Nat->Prop)(w:World)(o:Obj):ag A w (w.alloc o):=⟨by simp,fun b hb _=>Lx w o b hb⟩
theorem ag.drew(A:Nat->Prop)(w:World):ag A w w.drew:=⟨zL _,fun _ _ _=>rfl⟩
theorem ag.setCell(A:Nat->Prop)(w:World)(p:Addr)(u:Value)(hp:¬A p.block):ag A w (w.setCell p u):=⟨by simp,fun b _ ha=>bC w p u b (by rintro rfl;exact hp ha)⟩
theorem ag.grown{A:Nat->Prop}{w w':World}{row:Option Nat}(h:w.grownBy w' row)(hr:∀b,A b->row≠some b):ag A w w':=⟨h.size,fun b hb ha=>h.block b hb (fun e=>hr b ha e.symm)⟩
theorem ag.cell{A:Nat->Prop}{w w':World}(h:ag A w w'){b o:Nat}{v:Value}(ha:A b)(hc:w.cell? ⟨b,o,none⟩=some v):w'.cell? ⟨b,o,none⟩=some v:=by have hb:b<w.heap.size:=mX w ⟨b,o,none⟩ hc;rw[<-hc];exact World.cell?_of_block (h.block b hb ha)
theorem aW{w:World}{g:Nat}{E:TypeId}{v0 v1 v2 v3:Value}(h:w.heap[g]?=some (.cells #[v0,v1,v2,v3] E (0,0))):w.cell? ⟨g,0,none⟩=some v0/\w.cell? ⟨g,1,none⟩=some v1/\w.cell? ⟨g,2,none⟩=some v2/\w.cell? ⟨g,3,none⟩=some v3/\(∀o,w.frozen? ⟨g,o,none⟩=false):=by refine⟨?_,?_,?_,?_,fun o=>?_⟩<;>simp[World.cell?,World.frozen?,h]
theorem bI{w:World}{g:Nat}{E:TypeId}{c:Array Value}(h:w.heap[g]?=some (.cells c E (0,0)))(o:Nat)(u:Value):(w.setCell ⟨g,o,none⟩ u).heap[g]?=some (.cells (c.setIfInBounds o u) E (0,0)):=by simp[World.setCell,Array.getElem?_modify,h]
theorem aD{w:World}{g:Nat}{o:Obj}(h:w.heap[g]?=some o):g<w.heap.size:=(Ao.1 h).1
theorem aX{w:World}{g:Nat}{o:Obj}(h:w.heap[g]?=some o)(o':Obj):(w.alloc o').heap[g]?=some o:=(Lx w o' g (aD h)).trans h
theorem aL{w w':World}{g:Nat}{o:Obj}(h:w.heap[g]?=some o)(hb:Below w.heap.size w w'):w'.heap[g]?=some o:=(hb.block g (aD h)).trans h
theorem dE{A:Nat->Prop}{w w':World}{g:Nat}{o:Obj}(h:w.heap[g]?=some o)(hk:ag A w w')(hA:A g):w'.heap[g]?=some o:=(hk.block g (aD h) hA).trans h
theorem bV(w:World)(o:Obj):(w.alloc o).heap[w.heap.size]?=some o:=heap_alloc_new w o
theorem mG(w:World)(A B:Obj):((w.alloc A).alloc B).heap[w.heap.size]?=some A/\((w.alloc A).alloc B).heap[w.heap.size+1]?=some B:=by refine⟨aX (bV _ _) _,?_⟩;have :=bV (w.alloc A) B;simpa using this
theorem Qs(w:World)(A B C:Obj):(((w.alloc A).alloc B).alloc C).heap[w.heap.size]?=some A/\(((w.alloc A).alloc B).alloc C).heap[w.heap.size+1]?=some B/\(((w.alloc A).alloc B).alloc C).heap[w.heap.size+1+1]?=some C:=by refine⟨aX (mG w A B).1 _,aX (mG w A B).2 _,?_⟩;have :=bV ((w.alloc A).alloc B) C;simpa using this
theorem dw{w:World}{g:Nat}{E:TypeId}{c:Array Value}{fr:Nat×Nat}(h:w.heap[g]?=some (.cells c E fr))(o:Nat):w.cell? ⟨g,o,none⟩=c[o]?:=cell_of_row w g o c E fr h
def ni(w:World)(b off:Nat)(vs:List Value):Prop:=∀j v,vs[j]?=some v->w.cell? ⟨b,off+j,none⟩=some v
theorem ni.keeps{A:Nat->Prop}{w w':World}{b off:Nat}{vs:List Value}(hA:A b)(h:ni w b off vs)(hk:ag A w w'):ni w' b off vs:=fun j v hj=>hk.cell hA (h j v hj)
def Cy(A:Nat->Prop)(len:Nat)(v:Value)(b off:Nat):Prop:=len<=1048576/\((len=0/\∃a cap,v= .slice a 0 cap/\cap<=maxLen)\/(0<len/\A b/\∃cap,v= .slice (some ⟨b,off,none⟩) len cap/\len<=cap/\cap<=maxLen))
theorem Cy.mono{A A':Nat->Prop}{len:Nat}{v:Value}{b off:Nat}(h:Cy A len v b off)(hA:A b->A' b):Cy A' len v b off:=by
 obtain⟨h1,h|⟨h2,h3,h4⟩⟩:=h;·exact⟨h1,.inl h⟩
 ·exact⟨h1,.inr ⟨h2,hA h3,h4⟩⟩
theorem Cy.val{A:Nat->Prop}{len:Nat}{v:Value}{b off:Nat}(h:Cy A len v b off):∃a cap,v= .slice a len cap/\len<=cap/\cap<=maxLen/\(0<len->a=some ⟨b,off,none⟩):=by
 obtain⟨_,⟨rfl,a,cap,rfl,hc⟩|⟨_,_,cap,rfl,hc,hm⟩⟩:=h;·exact⟨a,cap,rfl,dD _,hc,fun h=>absurd h (Nat.lt_irrefl _)⟩
 ·exact⟨_,cap,rfl,hc,hm,fun _=>rfl⟩
section
variable {α : Type}
def kM(A:Nat->Prop)(w:World)(size:Nat)(R:(Nat->Prop)->World->α->List Value->Prop)(xs:List α)(b off:Nat):Prop:=∀i x,xs[i]?=some x->∃vs,vs.length=size/\R A w x vs/\ni w b (off+i*size) vs
def aj(size:Nat)(R:(Nat->Prop)->World->α->List Value->Prop)(A:Nat->Prop)(w:World)(xs:List α)(v:Value):Prop:=∃b off,Cy A xs.length v b off/\kM A w size R xs b off
def gz(R:(Nat->Prop)->World->α->List Value->Prop):Prop:=(∀A w w' x vs,R A w x vs->ag A w w'->R A w' x vs)/\(∀(A A':Nat->Prop)w x vs,R A w x vs->(∀b,b<w.heap.size->A b->A' b)->R A' w x vs)/\(∀A w x vs,R A w x vs->∀u∈vs,u.oneCell'=true)
theorem kM.keeps{A:Nat->Prop}{w w':World}{size:Nat}{R:(Nat->Prop)->World->α->List Value->Prop}{xs:List α}{b off:Nat}(hR:gz R)(hA:xs≠[]->A b)(h:kM A w size R xs b off)(hk:ag A w w'):kM A w' size R xs b off:=by intro i x hx;obtain⟨vs,hl,hr,hrow⟩:=h i x hx;exact⟨vs,hl,hR.1 A w w' x vs hr hk,hrow.keeps (hA (by rintro rfl;simp at hx)) hk⟩
theorem aj.keeps{A:Nat->Prop}{w w':World}{size:Nat}{R:(Nat->Prop)->World->α->List Value->Prop}{xs:List α}{v:Value}(hR:gz R)(h:aj size R A w xs v)(hk:ag A w w'):aj size R A w' xs v:=by
 obtain⟨b,off,hs,he⟩:=h;refine⟨b,off,hs,he.keeps hR (fun hne=>?_) hk⟩;obtain⟨_,⟨h0,_⟩|⟨_,hA,_⟩⟩:=hs;·exact absurd (Cn h0) hne
 ·exact hA
theorem kM.block_lt{A:Nat->Prop}{w:World}{size:Nat}{R:(Nat->Prop)->World->α->List Value->Prop}{xs:List α}{b off:Nat}(hs:0<size)(h:kM A w size R xs b off)(hx:xs≠[]):b<w.heap.size:=by match xs,hx with|x::r,_=>obtain⟨vs,hl,_,hrow⟩:=h 0 x rfl;have h0:vs[0]?=some (vs[0]'(by omega)):=aS (by omega);exact mX w _ (hrow 0 _ h0)
theorem aj.mono{A A':Nat->Prop}{w:World}{size:Nat}{R:(Nat->Prop)->World->α->List Value->Prop}{xs:List α}{v:Value}(hR:gz R)(hsz:0<size)(h:aj size R A w xs v)(hA:∀b,b<w.heap.size->A b->A' b):aj size R A' w xs v:=by
 obtain⟨b,off,hs,he⟩:=h;refine⟨b,off,?_,fun i x hx=>?_⟩
 ·by_cases hx:xs=[]
  ·obtain⟨h1,h2|⟨h2,_⟩⟩:=hs;·exact⟨h1,.inl h2⟩
   ·subst hx;simp at h2
  ·exact hs.mono (hA b (he.block_lt hsz hx))
 ·obtain⟨vs,hl,hr,hrow⟩:=he i x hx;exact⟨vs,hl,hR.2.1 A A' w x vs hr hA,hrow⟩
theorem aj.at{A:Nat->Prop}{w:World}{size:Nat}{R:(Nat->Prop)->World->α->List Value->Prop}{xs:List α}{v:Value}(h:aj size R A w xs v):∃a cap b off,v= .slice a xs.length cap/\xs.length<=cap/\cap<=maxLen/\xs.length<=1048576/\(0<xs.length->a=some ⟨b,off,none⟩/\A b)/\kM A w size R xs b off:=by
 obtain⟨b,off,hs,he⟩:=h;obtain⟨a,cap,hv,h1,h2,h3⟩:=hs.val;refine⟨a,cap,b,off,hv,h1,h2,hs.1,fun h0=>⟨h3 h0,?_⟩,he⟩;obtain⟨_,⟨h0',_⟩|⟨_,hA,_⟩⟩:=hs;·omega
 ·exact hA
theorem aj.nil(size:Nat)(R:(Nat->Prop)->World->α->List Value->Prop)(A:Nat->Prop)(w:World):aj size R A w [] (.slice none 0 0):=⟨0,0,⟨by simp,.inl ⟨rfl,none,0,rfl,by simp[maxLen]⟩⟩,fun i x hx=>by simp at hx⟩
end
def Pure(w:World)(R:Value->World->Prop)(e:Ending)(w':World):Prop:=∃v,e= .returned v/\Below w.heap.size w w'/\R v w'
def New(w:World)(b:Nat):Prop:=w.heap.size<=b
structure Ch (M : Nat → Prop) (w w' : World) : Prop where
  os : w'.os = w.os
  tape : w'.tape = w.tape
  output : w'.output = w.output
  size : w.heap.size ≤ w'.heap.size
  block : ∀ k, k < w.heap.size → ¬ M k → w'.heap[k]? = w.heap[k]?
theorem Ch.refl(M:Nat->Prop)(w:World):Ch M w w:=⟨rfl,rfl,rfl,zL _,fun _ _ _=>rfl⟩
theorem Ch.of_below{M:Nat->Prop}{w w':World}(h:Below w.heap.size w w'):Ch M w w':=⟨h.os,h.tape,h.output,h.size,fun k hk _=>h.block k hk⟩
theorem Ch.below{M:Nat->Prop}{w w':World}(h:Ch M w w')(hM:∀k,k<w.heap.size->¬M k):Below w.heap.size w w':=⟨h.os,h.tape,h.output,h.size,fun k hk=>h.block k hk (hM k hk)⟩
theorem Ch.trans{M M':Nat->Prop}{a b c:World}(h:Ch M a b)(k:Ch M' b c)(hM:∀x,M' x->M x\/a.heap.size<=x):Ch M a c:=⟨k.os.trans h.os,k.tape.trans h.tape,k.output.trans h.output,dM h.size k.size,fun i hi hn=>(k.block i (Et hi h.size) (fun hm=>by rcases hM i hm with h1|h1;exact hn h1;omega)).trans (h.block i hi hn)⟩
theorem Ch.mono{M M':Nat->Prop}{w w':World}(h:Ch M w w')(hM:∀x,x<w.heap.size->M x->M' x):Ch M' w w':=⟨h.os,h.tape,h.output,h.size,fun i hi hn=>h.block i hi fun hm=>hn (hM i hi hm)⟩
theorem Ch.tb{M:Nat->Prop}{a b c:World}(h:Ch M a b)(k:Below b.heap.size b c):Ch M a c:=h.trans (Ch.of_below (M:=fun _=>False) k) (fun _ h=>h.elim)
theorem Ch.alloc{M:Nat->Prop}{a b:World}(h:Ch M a b)(o:Obj):Ch M a (b.alloc o):=h.tb ((zB _ _).alloc (zL _) o)
theorem Ch.drew{M:Nat->Prop}{a b:World}(h:Ch M a b):Ch M a b.drew:=h.tb (zB _ _).drew
theorem Ch.setCell{M:Nat->Prop}{a b:World}(h:Ch M a b){p:Addr}(hp:M p.block\/a.heap.size<=p.block)(u:Value):Ch M a (b.setCell p u):=h.trans (M':=fun x=>x=p.block) ⟨rfl,rfl,rfl,by simp,fun k _ hk=>bC b p u k hk⟩ (by rintro x rfl;exact hp)
theorem Ch.keeps{M A:Nat->Prop}{w w':World}(h:Ch M w w')(hA:∀b,b<w.heap.size->A b->¬M b):ag A w w':=⟨h.size,fun b hb ha=>h.block b hb (hA b hb ha)⟩
theorem Ch.grown{M:Nat->Prop}{a b c:World}{row:Option Nat}(h:Ch M a b)(g:b.grownBy c row)(hr:∀k,row=some k->M k\/a.heap.size<=k):Ch M a c:=h.trans (M':=fun x=>row=some x) ⟨g.os,g.tape,g.output,g.size,fun k hk hn=>g.block k hk (fun e=>hn e.symm)⟩ (fun x hx=>hr x hx)
def ownB:Value->Option Nat| .slice (some a) _ cap=>if cap=0 then none else some a.block|_=>none
def Own(w:World)(base:Nat)(E:TypeId)(size:Nat)(v:Value)(n:Nat)(xs:List Value):Prop:=xs.length=n*size/\((n=0/\∃a,v= .slice a 0 0)\/∃g cap cur,v= .slice (some ⟨g,0,none⟩) n cap/\0<cap/\base<=g/\w.heap[g]?=some (.cells cur E (0,0))/\n<=cap/\cap<=maxLen/\cur.size=cap*size/\cur.toList.take (n*size)=xs)
section
variable {w : World} {base : Nat} {E : TypeId} {size : Nat} {v : Value} {n : Nat} {xs : List Value}
theorem Own.nil(w:World)(base:Nat)(E:TypeId)(size:Nat):Own w base E size (.slice none 0 0) 0 []:=⟨by simp,.inl ⟨rfl,none,rfl⟩⟩
theorem Own.lt(h:Own w base E size v n xs):∀k,ownB v=some k->base<=k/\k<w.heap.size:=by
 intro k hk;rcases h.2 with⟨rfl,a,rfl⟩|⟨g,cap,cur,rfl,hc,hb,hg,_⟩;·cases a<;>simp[ownB]at hk
 ·simp[ownB,Ap.1 hc]at hk;subst hk;exact⟨hb,(Ao.1 hg).1⟩
theorem Own.kept{w':World}(h:Own w base E size v n xs)(hk:∀k,ownB v=some k->w'.heap[k]?=w.heap[k]?):Own w' base E size v n xs:=by
 refine⟨h.1,?_⟩;rcases h.2 with hn|⟨g,cap,cur,rfl,hc,hb,hgg,rest⟩;·exact .inl hn
 ·refine .inr ⟨g,cap,cur,rfl,hc,hb,?_,rest⟩;rw[hk g (by simp[ownB,Ap.1 hc])];exact hgg
theorem Own.keeps{A:Nat->Prop}{w':World}(h:Own w base E size v n xs)(hk:ag A w w')(hA:∀k,ownB v=some k->A k):Own w' base E size v n xs:=h.kept fun k e=>hk.block k (h.lt k e).2 (hA k e)
theorem Own.below{w':World}(h:Own w base E size v n xs)(hk:Below w.heap.size w w'):Own w' base E size v n xs:=h.kept fun k e=>hk.block k (h.lt k e).2
theorem Own.val(h:Own w base E size v n xs):∃a cap,v= .slice a n cap/\cap<=maxLen:=by
 rcases h.2 with⟨rfl,a,rfl⟩|⟨g',cap',cur,rfl,_,_,hgg,_,hm,_⟩;·exact⟨a,0,rfl,by simp[maxLen]⟩
 ·exact⟨_,cap',rfl,hm⟩
theorem Own.cells(h:Own w base E size v n xs){g cap:Nat}(hg:v= .slice (some ⟨g,0,none⟩) n cap)(hc:0<cap):∀j u,xs[j]?=some u->w.cell? ⟨g,j,none⟩=some u:=by
 intro j u hu;rcases h.2 with⟨rfl,a,rfl⟩|⟨g',cap',cur,rfl,_,_,hgg,_,_,_,htake⟩;·have :=h.1;simp at this;subst this;simp at hu
 ·simp at hg;obtain⟨rfl,rfl⟩:=hg;rw[cell_of_row w g' j cur E (0,0) hgg];rw[<-htake,List.getElem?_take]at hu;split at hu;·simpa using hu
  ·cases hu
end
theorem agI{P:Program}(w:World)(base:Nat)(t ty e:TypeId)(i:TypeInfo)(z:Value)(size bytes:Nat)(ht:P.underlying t=some (.slice e))(hi:P.info? e=some i)(hz:i.zero=some z)(hsize:i.size=size)(hby:i.bytes=bytes)(hzs:z.cells.size=size)(v:Value)(n:Nat)(xs:List Value)(hown:Own w base e size v n xs)(a:Addr)(m c:Nat)(news:List Value)(hl:news.length=m*size)(hnews:∀j u,news[j]?=some u->w.cell? (a.add j)=some u)(h1:∀u∈news,u.oneCell'=true)(h63:n+m<=maxLen)(hbytes:(n+m)*bytes<=140737488355328)(hbase:base<=w.heap.size):∃v' w',(Builtin.append_ #[t,t] ty #[v,.slice (some a) m c]).run P w= .ok v' w'/\Own w' base e size v' (n+m) (xs++news)/\w.grownBy w' (ownB v)/\(ownB v'=ownB v\/∀k,ownB v'=some k->w.heap.size<=k):=by
 subst hsize;subst hby;have hsmall:n+m<=9223372036854775807:=by simp only[maxLen]at h63;omega
 have hlen:(xs++news).length=(n+m)*i.size:=by rw[bA,hown.1,hl,nX]
 have grown:∀(old:Nat),old<n+m->∀(row:Option Nat),Own (w.drew.alloc (.cells (xs.toArray++news.toArray++Builtin.zeroCells z.cells (grownCap w (n+m) old e - (n+m))) e)) base e i.size (.slice (some ⟨w.heap.size,0,none⟩) (n+m) (grownCap w (n+m) old e)) (n+m) (xs++news)/\w.grownBy (w.drew.alloc (.cells (xs.toArray++news.toArray++Builtin.zeroCells z.cells (grownCap w (n+m) old e - (n+m))) e)) row/\∀k,ownB (.slice (some ⟨w.heap.size,0,none⟩) (n+m) (grownCap w (n+m) old e))=some k->w.heap.size<=k:=by
  intro old ho row;have hge:=grownCap_ge w (n+m) old e;have hcm:grownCap w (n+m) old e<=maxLen:=grownCap_le_maxLen w (n+m) old e h63;refine⟨⟨hlen,.inr ⟨w.heap.size,_,_,rfl,by omega,hbase,heap_alloc_new w.drew _,hge,hcm,?_,?_⟩⟩,⟨rfl,rfl,rfl,by simp,fun k hk _=>Lx w.drew _ k hk⟩,?_⟩;·simp only[Array.size_append,Qi,size_zeroCells,hzs,hown.1,hl,<-nX];congr 1;omega
  ·simp only[Array.toList_append,Au];rw[<-Au,<-hlen];exact List.take_left
  ·intro k hk;simp only[ownB]at hk;split at hk;·cases hk
   ·simp only[cZ]at hk;omega
 rcases hown.2 with⟨rfl,ba,rfl⟩|⟨g,cap,cur,rfl,hcp,hbg,hg,hnc,hcm,hcs,htake⟩
 ·have hx:xs=[]:=Cn (by simpa using hown.1);subst hx;by_cases hm:m=0;·subst hm;have hn:news=[]:=Cn (by simpa using hl);subst hn;refine⟨.slice ba 0 0,w,?_,⟨by simp,.inl ⟨rfl,ba,rfl⟩⟩,⟨rfl,rfl,rfl,zL _,fun _ _ _=>rfl⟩,.inl rfl⟩;cases ba<;>simp[Builtin.append_,run_underlying ht,sizeOf,typeInfo,hi,Builtin.lenOf,Builtin.firstCells,loadCells,loadCellsFrom,storeCells]
  ·have hgr:=grown 0 (by omega) (ownB (.slice ba 0 0));cases ba with|none=>have hr:=run_append_nil (P:=P) w t ty e i z ht hi hz a m c news hl hnews (by omega) (by omega) (by have hb:=hbytes;simp only[kL]at hb;omega);simp only[kL,xn,Array.empty_append]at hgr ⊢;exact⟨_,_,hr,hgr.1,hgr.2.1,.inr hgr.2.2⟩|some b0=>have hr:=run_append_grow (P:=P) w t ty e i z ht hi hz b0 0 0 [] (by simp) (by simp) a m c news hl hnews (by omega) (by omega) (growslice_fits (by omega) hbytes);simp only[kL,xn,Array.empty_append]at hgr hr ⊢;exact⟨_,_,hr,hgr.1,hgr.2.1,.inr hgr.2.2⟩
 ·have bX:∀k,ownB (.slice (some ⟨g,0,none⟩) k cap)=some g:=fun k=>by simp[ownB,Ap.1 hcp]
  by_cases hroom:n+m<=cap
  ·have hfit:n*i.size+news.length<=cur.size:=by rw[hl,hcs,<-nX];exact Cs _ hroom
   have hr:=run_append_room (P:=P) w t ty e i ht hi g n cap cur hg a m c news hl hnews h1 hroom hfit;refine⟨_,_,hr,⟨hlen,.inr ⟨g,cap,_,rfl,hcp,hbg,setRow_heap w g cur _ e _ hg,hroom,hcm,?_,?_⟩⟩,⟨rfl,rfl,rfl,by simp,fun k _ hk=>setRow_other w g k _ (fun e=>hk (by rw[bX,e]))⟩,.inl (by rw[bX,bX])⟩;·simp only[Qi,bA,dS,Av,agp];omega
   ·rw[htake,<-hlen];exact List.take_left
  ·have holds:∀j u,xs[j]?=some u->w.cell? ((⟨g,0,none⟩:Addr).add j)=some u:=by
    intro j u hu;have hadd:(⟨g,0,none⟩:Addr).add j=⟨g,j,none⟩:=by unfold Addr.add;split<;>simp_all
    rw[hadd];exact hown.cells rfl hcp j u hu
   have hr:=run_append_grow (P:=P) w t ty e i z ht hi hz ⟨g,0,none⟩ n cap xs hown.1 holds a m c news hl hnews (by omega) (by omega) (growslice_fits (by omega) hbytes);have hgr:=grown cap (by omega) (ownB (.slice (some ⟨g,0,none⟩) n cap));exact⟨_,_,hr,hgr.1,hgr.2.1,.inr hgr.2.2⟩
section
variable {α : Type}
def aI(w:World)(base:Nat)(E:TypeId)(size:Nat)(R:(Nat->Prop)->World->α->List Value->Prop)(A:Nat->Prop)(xs:List α)(v:Value):Prop:=∃vals:List (List Value),vals.length=xs.length/\Own w base E size v xs.length vals.flatten/\∀(i:Nat)x(vs:List Value),xs[i]?=some x->vals[i]?=some vs->vs.length=size/\R (fun b=>A b/\ownB v≠some b) w x vs
theorem aI.nil(w:World)(base:Nat)(E:TypeId)(size:Nat)(R:(Nat->Prop)->World->α->List Value->Prop)(A:Nat->Prop):aI w base E size R A [] (.slice none 0 0):=⟨[],rfl,Own.nil w base E size,fun i x vs hx=>by simp at hx⟩
theorem aI.keeps{w w':World}{base:Nat}{E:TypeId}{size:Nat}{R:(Nat->Prop)->World->α->List Value->Prop}{A B:Nat->Prop}{xs:List α}{v:Value}(hR:gz R)(h:aI w base E size R A xs v)(hk:ag B w w')(hA:∀b,A b->B b)(hB:∀k,ownB v=some k->B k):aI w' base E size R A xs v:=by obtain⟨vals,hl,ho,he⟩:=h;refine⟨vals,hl,ho.keeps hk hB,fun i x vs hx hv=>?_⟩;obtain⟨h1,h2⟩:=he i x vs hx hv;exact⟨h1,hR.1 _ w w' x vs h2 (hk.mono fun b _ hb=>hA b hb.1)⟩
theorem aI.mono{w:World}{base:Nat}{E:TypeId}{size:Nat}{R:(Nat->Prop)->World->α->List Value->Prop}{A A':Nat->Prop}{xs:List α}{v:Value}(hR:gz R)(h:aI w base E size R A xs v)(hA:∀b,b<w.heap.size->A b->A' b):aI w base E size R A' xs v:=by obtain⟨vals,hl,ho,he⟩:=h;refine⟨vals,hl,ho,fun i x vs hx hv=>?_⟩;obtain⟨h1,h2⟩:=he i x vs hx hv;exact⟨h1,hR.2.1 _ _ _ _ _ h2 fun b hb hb'=>⟨hA b hb hb'.1,hb'.2⟩⟩
theorem aI.below{w w':World}{base:Nat}{E:TypeId}{size:Nat}{R:(Nat->Prop)->World->α->List Value->Prop}{A:Nat->Prop}{xs:List α}{v:Value}(hR:gz R)(h:aI w base E size R A xs v)(hk:Below w.heap.size w w'):aI w' base E size R A xs v:=h.keeps hR (ag.ob (A:=fun _=>True) hk) (fun _ _=>trivial) (fun _ _=>trivial)
theorem aI.alloc{w:World}{base:Nat}{E:TypeId}{size:Nat}{R:(Nat->Prop)->World->α->List Value->Prop}{A:Nat->Prop}{xs:List α}{v:Value}(hR:gz R)(h:aI w base E size R A xs v)(o:Obj):aI (w.alloc o) base E size R A xs v:=h.keeps hR (ag.alloc (fun _=>True) w o) (fun _ _=>trivial) (fun _ _=>trivial)
theorem aI.lt{w:World}{base:Nat}{E:TypeId}{size:Nat}{R:(Nat->Prop)->World->α->List Value->Prop}{A:Nat->Prop}{xs:List α}{v:Value}(h:aI w base E size R A xs v):∀k,ownB v=some k->base<=k/\k<w.heap.size:=by obtain⟨vals,hl,ho,he⟩:=h;exact ho.lt
theorem aI.val{w:World}{base:Nat}{E:TypeId}{size:Nat}{R:(Nat->Prop)->World->α->List Value->Prop}{A:Nat->Prop}{xs:List α}{v:Value}(h:aI w base E size R A xs v):∃a cap,v= .slice a xs.length cap/\cap<=maxLen:=by obtain⟨vals,hl,ho,he⟩:=h;exact ho.val
theorem XV{size:Nat}:∀(vals:List (List Value)),(∀(i:Nat)(vs:List Value),vals[i]?=some vs->vs.length=size)->vals.flatten.length=vals.length*size|[],_=>by simp|v::r,h=>by rw[agw,bA,XV r (fun i vs hi=>h (i+1) vs (by simpa using hi)),h 0 v rfl,bn,nX];omega
theorem Hm{size:Nat}:∀(vals:List (List Value)),(∀(i:Nat)(vs:List Value),vals[i]?=some vs->vs.length=size)->∀(i j:Nat)(vs:List Value),vals[i]?=some vs->j<size->vals.flatten[i*size+j]?=vs[j]?|[],_,i,j,vs,hi,_=>by simp at hi|v::r,h,0,j,vs,hi,hj=>by simp at hi;subst hi;have :=h 0 v rfl;rw[agw,Hf,kL,tV (by omega)]|v::r,h,i+1,j,vs,hi,hj=>by have h0:=h 0 v rfl;rw[agw,vw (by rw[h0,nX];omega),h0,show(i+1)*size+j - size=i*size+j by rw[nX];omega];exact Hm r (fun i vs hi=>h (i+1) vs (by simpa using hi)) i j vs (by simpa using hi) hj
theorem aI.sl{w:World}{base:Nat}{E:TypeId}{size:Nat}{R:(Nat->Prop)->World->α->List Value->Prop}{A:Nat->Prop}{xs:List α}{v:Value}(hR:gz R)(h:aI w base E size R A xs v)(hlen:xs.length<=1048576)(hA:∀b,base<=b->A b):aj size R A w xs v:=by
 obtain⟨vals,hl,ho,he⟩:=h;have hsz:∀(i:Nat)(vs:List Value),vals[i]?=some vs->vs.length=size:=fun i vs hv=>by
  have hi:i<xs.length:=by have :=(iO.1 hv).1;omega
  exact(he i _ vs (aS hi) hv).1
 rcases ho.2 with⟨h0,a,rfl⟩|⟨g,cap,cur,rfl,hc,hb,hg,hnc,hcm,hcs,htake⟩;·have :xs=[]:=Cn h0;subst this;exact⟨0,0,⟨by simp,.inl ⟨rfl,a,0,rfl,by simp[maxLen]⟩⟩,fun i x hx=>by simp at hx⟩
 ·by_cases h0:xs.length=0;·have :xs=[]:=Cn h0;subst this;exact⟨0,0,⟨by simp,.inl ⟨rfl,_,cap,rfl,hcm⟩⟩,fun i x hx=>by simp at hx⟩
  refine⟨g,0,⟨hlen,.inr ⟨by omega,hA g hb,cap,rfl,hnc,hcm⟩⟩,fun i x hx=>?_⟩;have hi:i<vals.length:=by have :=(iO.1 hx).1;omega
  have hv:=aS hi;obtain⟨h1,h2⟩:=he i x _ hx hv;refine⟨vals[i],h1,hR.2.1 _ _ w x _ h2 (fun b _ hb=>hb.1),fun j u hj=>?_⟩;have hjl:j<size:=by have :=(iO.1 hj).1;omega
  rw[kL];exact ho.cells rfl hc _ u (by rw[Hm vals hsz i j _ hv hjl];exact hj)
theorem aI.sl'{w:World}{base:Nat}{E:TypeId}{size:Nat}{R:(Nat->Prop)->World->α->List Value->Prop}{A:Nat->Prop}{xs:List α}{v:Value}(hR:gz R)(h:aI w base E size R A xs v)(hlen:xs.length<=1048576)(hA:∀b,ownB v=some b->A b):aj size R A w xs v:=by
 obtain⟨vals,hl,ho,he⟩:=h;have hsz:∀(i:Nat)(vs:List Value),vals[i]?=some vs->vs.length=size:=fun i vs hv=>by
  have hi:i<xs.length:=by have :=(iO.1 hv).1;omega
  exact(he i _ vs (aS hi) hv).1
 rcases ho.2 with⟨h0,a,rfl⟩|⟨g,cap,cur,rfl,hc,hb,hg,hnc,hcm,hcs,htake⟩;·have :xs=[]:=Cn h0;subst this;exact⟨0,0,⟨by simp,.inl ⟨rfl,a,0,rfl,by simp[maxLen]⟩⟩,fun i x hx=>by simp at hx⟩
 ·by_cases h0:xs.length=0;·have :xs=[]:=Cn h0;subst this;exact⟨0,0,⟨by simp,.inl ⟨rfl,_,cap,rfl,hcm⟩⟩,fun i x hx=>by simp at hx⟩
  refine⟨g,0,⟨hlen,.inr ⟨by omega,hA g (by simp[ownB,Ap.1 hc]),cap,rfl,hnc,hcm⟩⟩,fun i x hx=>?_⟩;have hi:i<vals.length:=by have :=(iO.1 hx).1;omega
  have hv:=aS hi;obtain⟨h1,h2⟩:=he i x _ hx hv;refine⟨vals[i],h1,hR.2.1 _ _ w x _ h2 (fun b _ hb=>hb.1),fun j u hj=>?_⟩;have hjl:j<size:=by have :=(iO.1 hj).1;omega
  rw[kL];exact ho.cells rfl hc _ u (by rw[Hm vals hsz i j _ hv hjl];exact hj)
theorem XW{P:Program}(w:World)(base:Nat)(t ty e:TypeId)(i:TypeInfo)(z:Value)(size bytes:Nat)(ht:P.underlying t=some (.slice e))(hi:P.info? e=some i)(hz:i.zero=some z)(hsize:i.size=size)(hby:i.bytes=bytes)(hzs:z.cells.size=size)(hs0:0<size){R:(Nat->Prop)->World->α->List Value->Prop}(hR:gz R){A:Nat->Prop}(v:Value)(xs:List α)(hown:aI w base e size R A xs v)(gb off c:Nat)(ys:List α)(hys:kM (fun b=>A b/\ownB v≠some b) w size R ys gb off)(h63:xs.length+ys.length<=maxLen)(hbytes:(xs.length+ys.length)*bytes<=140737488355328)(hbase:base<=w.heap.size):∃v' w',(Builtin.append_ #[t,t] ty #[v,.slice (some ⟨gb,off,none⟩) ys.length c]).run P w= .ok v' w'/\aI w' base e size R A (xs++ys) v'/\w.grownBy w' (ownB v)/\(ownB v'=ownB v\/∀k,ownB v'=some k->w.heap.size<=k):=by
 obtain⟨vals,hl,ho,he⟩:=hown;have hch:∀n,n<=ys.length->∃nv:List (List Value),nv.length=n/\∀(i:Nat)x(vs:List Value),ys[i]?=some x->nv[i]?=some vs->vs.length=size/\R (fun b=>A b/\ownB v≠some b) w x vs/\ni w gb (off+i*size) vs:=by
  intro n;induction n with
   |zero=>exact fun _=>⟨[],rfl,fun i x vs _ h=>by simp at h⟩
   |succ n ih=>
    intro hn;obtain⟨nv,h1,h2⟩:=ih (by omega);obtain⟨vs,h3,h4,h5⟩:=hys n _ (aS (by omega));refine⟨nv++[vs],by simp[h1],fun i x us hx hu=>?_⟩;by_cases hin:i<n;·rw[tV (by omega)]at hu;exact h2 i x us hx hu
    ·have :i=n:=by have :=(iO.1 hu).1;simp at this;omega
     subst this;rw[vw (by omega),h1]at hu;simp at hu;subst hu;rw[aS (by omega)]at hx;simp at hx;subst hx;exact⟨h3,h4,h5⟩
 obtain⟨nv,hnl,hn⟩:=hch ys.length (zL _);have hsz:∀(i:Nat)(vs:List Value),nv[i]?=some vs->vs.length=size:=fun i vs hv=>by
  have hi:i<ys.length:=by have :=(iO.1 hv).1;omega
  exact(hn i _ vs (aS hi) hv).1
 have hfl:=XV nv hsz;have hcell:∀j u,nv.flatten[j]?=some u->w.cell? ((⟨gb,off,none⟩:Addr).add j)=some u:=by
  intro j u hj;have hjl:j<nv.length*size:=by have :=(iO.1 hj).1;omega
  have hadd:(⟨gb,off,none⟩:Addr).add j=⟨gb,off+j,none⟩:=by unfold Addr.add;split<;>simp_all
  have hdm:j=j/size*size+j%size:=by rw[Nat.mul_comm];exact(Nat.div_add_mod j size).symm
  have hi:j/size<nv.length:=Nat.div_lt_of_lt_mul (by rw[Nat.mul_comm];exact hjl);have hv:=aS hi;have hx:ys[j/size]?=some (ys[j/size]'(by omega)):=aS (by omega);obtain⟨h1,h2,h3⟩:=hn (j/size) _ _ hx hv;rw[hdm,Hm nv hsz _ _ _ hv (Nat.mod_lt _ hs0)]at hj;have :=h3 _ u hj;rw[hadd,show off+j=off+j/size*size+j%size by omega];exact this
 have h1:∀u∈nv.flatten,u.oneCell'=true:=by intro u hu;obtain⟨vs,hvs,huv⟩:=List.mem_flatten.1 hu;obtain⟨i,hi,rfl⟩:=tX.1 hvs;have hv:=aS hi;have hx:ys[i]?=some (ys[i]'(by omega)):=aS (by omega);exact hR.2.2 _ _ _ _ (hn i _ _ hx hv).2.1 u huv
 obtain⟨v',w',hrun,hown',hg,hb⟩:=agI w base t ty e i z size bytes ht hi hz hsize hby hzs v xs.length _ ho ⟨gb,off,none⟩ ys.length c nv.flatten (by rw[hfl,hnl]) hcell h1 h63 hbytes hbase;refine⟨v',w',hrun,⟨vals++nv,by simp[hl,hnl],?_,?_⟩,hg,hb⟩;·simpa using hown'
 ·have hkeep:∀x vs,R (fun b=>A b/\ownB v≠some b) w x vs->R (fun b=>A b/\ownB v'≠some b) w' x vs:=by
   intro x vs hr;have h2:R (fun b=>(A b/\ownB v'≠some b)/\ownB v≠some b) w x vs:=by
    refine hR.2.1 _ _ w x vs hr fun b hbl hb'=>⟨⟨hb'.1,?_⟩,hb'.2⟩;rcases hb with hb|hb;·rw[hb];exact hb'.2
    ·intro e;have :=hb b e;omega
   have h3:=hR.1 _ w w' x vs h2 (ag.grown hg fun b hb'=>hb'.2);exact hR.2.1 _ _ w' x vs h3 fun b _ hb'=>hb'.1
  intro i x vs hx hv;by_cases hi':i<xs.length;·rw[tV (by omega)]at hx hv;obtain⟨h1,h2⟩:=he i x vs hx hv;exact⟨h1,hkeep _ _ h2⟩
  ·rw[vw (by omega)]at hx hv;rw[hl]at hv;obtain⟨h1,h2,_⟩:=hn _ x vs hx hv;exact⟨h1,hkeep _ _ h2⟩
end
def mH(P:Program)(t e:TypeId)(size bytes:Nat):Prop:=(∃i z,P.underlying t=some (.slice e)/\P.info? e=some i/\i.zero=some z/\i.size=size/\i.bytes=bytes/\z.cells.size=size)/\0<size/\bytes<=256
theorem mH.mk'{P:Program}{t e:TypeId}{size bytes:Nat}{z:Value}(ht:P.underlying t=some (.slice e))(hi:(P.info? e).map (fun i=>(i.zero,i.size,i.bytes))=some (some z,size,bytes))(hz:z.cells.size=size)(h0:0<size)(hb:bytes<=256):mH P t e size bytes:=by obtain⟨i0,hi0,h1,h2,h3⟩:=info_parts hi;exact⟨⟨i0,z,ht,hi0,h1,h2,h3,hz⟩,h0,hb⟩
structure iX (w w' : World) (v v' : Value) : Prop where
  grown : w.grownBy w' (ownB v)
  block : ownB v' = ownB v ∨ ∀ k, ownB v' = some k → w.heap.size ≤ k
theorem iX.below{B:Nat}{w0 w w':World}{v v':Value}(h:iX w w' v v')(hb:Below B w0 w)(hB:B<=w.heap.size)(hv:∀k,ownB v=some k->B<=k):Below B w0 w':=hb.grown h.grown hB hv
theorem iX.ch{M:Nat->Prop}{w0 w w':World}{v v':Value}(h:iX w w' v v')(hb:Ch M w0 w)(hv:∀k,ownB v=some k->M k\/w0.heap.size<=k):Ch M w0 w':=hb.grown h.grown hv
theorem iX.size{w w':World}{v v':Value}(h:iX w w' v v'):w.heap.size<=w'.heap.size:=h.grown.size
theorem iX.keeps{A:Nat->Prop}{w w':World}{v v':Value}(h:iX w w' v v')(hA:∀b,A b->ownB v≠some b):ag A w w':=ag.grown h.grown hA
section
variable {α : Type}
theorem LJ{A:Nat->Prop}{w:World}{size:Nat}{R:(Nat->Prop)->World->α->List Value->Prop}(hR:gz R){x:α}{vs:List Value}(E:TypeId)(hl:vs.length=size)(h:R A w x vs):kM A (w.alloc (.cells vs.toArray E)) size R [x] w.heap.size 0:=by intro i y hy;cases i with|succ i=>simp at hy|zero=>simp at hy;subst hy;refine⟨vs,hl,hR.1 _ _ _ _ _ h (ag.alloc _ _ _),fun j u hj=>?_⟩;simp only[Hf,kL,World.cell?_alloc_new];simpa using hj
theorem rH{P:Program}{w:World}{o:Oper}{a:Act}{K:Act->World->Prop}{Q:Exit->Act->World->Prop}(s x:Operand)(t:TypeId)(ho:o.op= .call {callee:= .builtin .append,args:=#[s,x],argTypes:=#[t,t]})(base:Nat)(e:TypeId)(size bytes:Nat)(hty:mH P t e size bytes){R:(Nat->Prop)->World->α->List Value->Prop}(hR:gz R){A:Nat->Prop}(v:Value)(xs:List α)(hs:a.eval s=v)(hown:aI w base e size R A xs v)(y:α)(vs:List Value)(hx:a.eval x= .slice (some ⟨w.heap.size,0,none⟩) 1 1)(hvl:vs.length=size)(hvs:R (fun b=>A b/\ownB v≠some b) w y vs)(hlen:xs.length<4194304/\base<=w.heap.size)(h:∀v' w',aI w' base e size R A (xs++[y]) v'->iX (w.alloc (.cells vs.toArray e)) w' v v'->K (a.put o.dst v') w'):o.wp P a (w.alloc (.cells vs.toArray e)) K Q:=by obtain⟨⟨i,z,ht,hi,hz,h1,h2,h3⟩,h0,hb⟩:=hty;have hmul:(xs.length+[y].length)*bytes<=(xs.length+[y].length)*256:=agl _ hb;obtain⟨v',w',hr,k1,k2,k3⟩:=XW (P:=P) (w.alloc (.cells vs.toArray e)) base t o.type e i z size bytes ht hi hz h1 h2 h3 h0 hR v xs (hown.alloc hR _) w.heap.size 0 1 [y] (LJ hR e hvl hvs) (by simp only[maxLen,dW];omega) (by simp only[dW]at hmul ⊢;omega) (by simp only[bF];omega);unfold Oper.wp execOp;simp only[ho,resolve,invoke,builtin,Sem.run_bind,Sem.run_pure,agD,agB,qy,Aw,hs,hx];rw[show([y]:List α).length=1 from rfl]at hr;rw[hr];exact h v' w' k1 ⟨k2,k3⟩
theorem iH{P:Program}{w:World}{ops:Array Oper}{rest:List Oper}{o:Oper}{a:Act}{Q:Exit->Act->World->Prop}(hgd:o.guard=none)(s x:Operand)(t:TypeId)(ho:o.op= .call {callee:= .builtin .append,args:=#[s,x],argTypes:=#[t,t]})(base:Nat)(e:TypeId)(size bytes:Nat)(hty:mH P t e size bytes){R:(Nat->Prop)->World->α->List Value->Prop}(hR:gz R){A:Nat->Prop}(v:Value)(xs:List α)(hs:a.eval s=v)(hown:aI w base e size R A xs v)(y:α)(vs:List Value)(hx:a.eval x= .slice (some ⟨w.heap.size,0,none⟩) 1 1)(hvl:vs.length=size)(hvs:R (fun b=>A b/\ownB v≠some b) w y vs)(hlen:xs.length<4194304/\base<=w.heap.size)(h:∀v' w',aI w' base e size R A (xs++[y]) v'->iX (w.alloc (.cells vs.toArray e)) w' v v'->wpList P ops Q rest (a.put o.dst v') w'):wpList P ops Q (o::rest) a (w.alloc (.cells vs.toArray e)):=wpList_plain hgd fun _ hK=>rH s x t ho base e size bytes hty hR v xs hs hown y vs hx hvl hvs hlen fun v' w' k1 k2=>hK _ _ (h v' w' k1 k2)
theorem XX{w wc w1:World}{base:Nat}{E:TypeId}{size:Nat}{S:(Nat->Prop)->World->α->List Value->Prop}{β:Type}{T:(Nat->Prop)->World->β->List Value->Prop}{A:Nat->Prop}{xs:List β}{v:Value}(hS:gz S){y:α}{vs:List Value}(hown:aI w base E size T A xs v)(hw:w.heap.size<=wc.heap.size)(hA:∀b,wc.heap.size<=b->A b)(h:S (New wc) w1 y vs):S (fun b=>A b/\ownB v≠some b) w1 y vs:=hS.2.1 _ _ _ _ _ h fun b _ hn=>⟨hA b hn,fun e=>by have h1:=(hown.lt b e).2;unfold New at hn;omega⟩
end
inductive Tm where
  | mk (kind n : Int) (s : ByteArray) (args : List Tm)
  deriving Inhabited
namespace Tm
def kind:Tm->Int|mk k _ _ _=>k
def n:Tm->Int|mk _ n _ _=>n
def s:Tm->ByteArray|mk _ _ s _=>s
def args:Tm->List Tm|mk _ _ _ l=>l
theorem induct{P:Tm->Prop}(h:∀k n s l,(∀t∈l,P t)->P (mk k n s l)):∀t,P t:=by intro t;refine Tm.rec (motive_1:=P) (motive_2:=fun l=>∀t∈l,P t) (fun k n s l ih=>h k n s l ih) (fun t ht=>by cases ht) (fun x r hx hr t ht=>?_) t;cases ht with|head=>exact hx|tail _ hm=>exact hr t hm
mutual
def rep (A : Nat → Prop) (w : World) : Tm → List Value → Prop
  | mk k n s l, vs => au k ∧ au n ∧ s.size ≤ 1048576 ∧ ∃ v b off, vs = [.int .i64 k, .int .i64 n, .string s, v] ∧ Cy A l.length v b off ∧ Ho A w l b off
def Ho (A : Nat → Prop) (w : World) : List Tm → Nat → Nat → Prop
  | [], _, _ => True
  | t :: r, b, off => (∃ vs, rep A w t vs ∧ ni w b off vs) ∧ Ho A w r b (off + 4)
end
theorem agK{A:Nat->Prop}{w:World}{t:Tm}{vs:List Value}(h:rep A w t vs):vs.length=4:=by cases t;simp only[rep]at h;obtain⟨_,_,_,v,b,off,rfl,_⟩:=h;rfl
theorem agL{A:Nat->Prop}{w:World}(l:List Tm):∀(b off:Nat),Ho A w l b off↔kM A w 4 rep l b off:=by
 induction l with
  |nil=>intro b off;simp[Ho,kM]
  |cons t r ih=>
   intro b off;simp only[Ho,ih];constructor;·rintro⟨⟨vs,h1,h2⟩,h3⟩i x hx;cases i with|zero=>simp at hx;subst hx;exact⟨vs,agK h1,h1,by simpa using h2⟩|succ i=>obtain⟨us,h4,h5,h6⟩:=h3 i x (by simpa using hx);exact⟨us,h4,h5,by rw[show off+(i+1)*4=off+4+i*4 by omega];exact h6⟩
   ·intro h;refine⟨?_,fun i x hx=>?_⟩;·obtain⟨vs,_,h1,h2⟩:=h 0 t rfl;exact⟨vs,h1,by simpa using h2⟩
    ·obtain⟨vs,h1,h2,h3⟩:=h (i+1) x (by simpa using hx);exact⟨vs,h1,h2,by rw[show off+4+i*4=off+(i+1)*4 by omega];exact h3⟩
theorem gT{A:Nat->Prop}{w:World}{k n:Int}{s:ByteArray}{l:List Tm}{vs:List Value}:rep A w (mk k n s l) vs↔au k/\au n/\s.size<=1048576/\∃v,vs=[.int .i64 k,.int .i64 n,.string s,v]/\aj 4 rep A w l v:=by
 simp only[rep,agL,aj];constructor;·rintro⟨h1,h2,h3,v,b,off,rfl,h4,h5⟩;exact⟨h1,h2,h3,v,rfl,b,off,h4,h5⟩
 ·rintro⟨h1,h2,h3,v,rfl,b,off,h4,h5⟩;exact⟨h1,h2,h3,v,b,off,rfl,h4,h5⟩
theorem aA:gz rep:=by
 refine⟨fun A w w' t=>?_,fun A A' w t=>?_,fun A w t vs h=>?_⟩
 ·induction t using induct with
   |h k n s l ih=>
    intro vs h hk;rw[gT]at h ⊢;obtain⟨h1,h2,h3,v,rfl,b,off,h4,h5⟩:=h;refine⟨h1,h2,h3,v,rfl,b,off,h4,fun i x hx=>?_⟩;obtain⟨us,h6,h7,h8⟩:=h5 i x hx;have hA:A b:=by
     obtain⟨_,⟨h0,_⟩|⟨_,hA,_⟩⟩:=h4;·have :=(iO.1 hx).1;omega
     ·exact hA
    exact⟨us,h6,ih x (Qc hx) us h7 hk,h8.keeps hA hk⟩
 ·induction t using induct with
   |h k n s l ih=>
    intro vs h hk;rw[gT]at h ⊢;obtain⟨h1,h2,h3,v,rfl,b,off,h4,h5⟩:=h;refine⟨h1,h2,h3,v,rfl,b,off,?_,fun i x hx=>?_⟩
    ·by_cases hl:l=[]
     ·subst hl;obtain⟨h6,h7|⟨h7,_⟩⟩:=h4;·exact⟨h6,.inl h7⟩
      ·simp at h7
     ·exact h4.mono (hk b (h5.block_lt (by omega) hl))
    ·obtain⟨us,h6,h7,h8⟩:=h5 i x hx;exact⟨us,h6,ih x (Qc hx) us h7 hk,h8⟩
 ·cases t with|mk k n s l=>rw[gT]at h;obtain⟨_,_,_,v,rfl,b,off,h4,_⟩:=h;obtain⟨a,cap,rfl,_⟩:=h4.val;simp[Value.oneCell']
theorem nk{A:Nat->Prop}{w:World}{t:Tm}{vs:List Value}(h:rep A w t vs):∃a cap,vs=[.int .i64 t.kind,.int .i64 t.n,.string t.s,.slice a t.args.length cap]/\au t.kind/\au t.n/\t.s.size<=1048576/\t.args.length<=cap/\cap<=maxLen/\t.args.length<=1048576/\aj 4 rep A w t.args (.slice a t.args.length cap):=by cases t with|mk k n s l=>rw[gT]at h;obtain⟨h1,h2,h3,v,rfl,h4⟩:=h;obtain⟨a,cap,b,off,rfl,h5,h6,h7,_,_⟩:=h4.at;exact⟨a,cap,rfl,h1,h2,h3,h5,h6,h7,h4⟩
end Tm
theorem XY{w:World}{b off:Nat}{v0 v1 v2 v3:Value}(h:ni w b off [v0,v1,v2,v3]):w.cell? ⟨b,off,none⟩=some v0/\w.cell? ⟨b,off+1,none⟩=some v1/\w.cell? ⟨b,off+2,none⟩=some v2/\w.cell? ⟨b,off+3,none⟩=some v3:=⟨h 0 _ rfl,h 1 _ rfl,h 2 _ rfl,h 3 _ rfl⟩
theorem pG{A:Nat->Prop}{w wr:World}{l:List Tm}{b off:Nat}(he:kM A w 4 Tm.rep l b off)(hA:A b)(hk:ag A w wr){k:Nat}(hlt:k<l.length):∃a cap,wr.cell? ⟨b,off+k*4,none⟩=some (.int .i64 l[k].kind)/\wr.cell? ⟨b,off+k*4+1,none⟩=some (.int .i64 l[k].n)/\wr.cell? ⟨b,off+k*4+2,none⟩=some (.string l[k].s)/\wr.cell? ⟨b,off+k*4+3,none⟩=some (.slice a l[k].args.length cap)/\Tm.rep A wr l[k] [.int .i64 l[k].kind,.int .i64 l[k].n,.string l[k].s,.slice a l[k].args.length cap]:=by obtain⟨vs,hvl,Hq,hrow⟩:=he k _ (aS hlt);have Qt:=Tm.aA.1 _ _ wr _ _ Hq hk;have hrow':=ni.keeps hA hrow hk;obtain⟨sa,sc,rfl, -⟩:=Tm.nk Hq;obtain⟨c0,c1,c2,c3⟩:=XY hrow';exact⟨sa,sc,c0,c1,c2,c3,Qt⟩
abbrev iP:=aj 4 Tm.rep
theorem iP.keeps{A:Nat->Prop}{w w':World}{l:List Tm}{v:Value}(h:iP A w l v)(hk:ag A w w'):iP A w' l v:=aj.keeps Tm.aA h hk
theorem iP.below{A:Nat->Prop}{w w':World}{l:List Tm}{v:Value}(h:iP A w l v)(hk:Below w.heap.size w w'):iP A w' l v:=aj.keeps Tm.aA h (ag.ob hk)
abbrev Str:=List UInt8
def bs(l:Str):ByteArray:=⟨l.toArray⟩
def Az(c:UInt8):Bool:=c==32||c==10||c==9||c==13
def vE(c:UInt8):Bool:=decide (97<=c.toNat)&&decide (c.toNat<=122)
def yG(c:UInt8):Bool:=decide (65<=c.toNat)&&decide (c.toNat<=90)
def jX(c:UInt8):Bool:=decide (48<=c.toNat)&&decide (c.toNat<=57)
def Cz(s:Str):Nat:=(s.takeWhile vE).length
def rJ(s:Str):Nat:=(s.takeWhile jX).length
def bQ(s:Str):Str:=s.dropWhile Az
def uh:Tm:= .mk 0 0 ⟨#[]⟩ []
structure Rd where
  s : Str
  vars : List Str
  bad : Bool
def Rd.space(r:Rd):Rd:={r with s:=bQ r.s}
def Rd.kill(r:Rd):Rd:={r with bad:=true}
def Rd.at_(sign:Str)(r:Rd):Bool×Rd:=if sign <+: bQ r.s then(true,{r with s:=(bQ r.s).drop sign.length})else(false,r.space)
def dn:Str->Nat|[]=>0|c::r=>if vE c||yG c then 1+Cz r else 0
def dN:Str->Nat|[]=>0|c::r=>if c=45 then 1+rJ r else rJ (c::r)
def Ht(d:Str):Int:=d.foldl (fun(n:Int)(c:UInt8)=>10*n+((c.toNat:Int) - 48)) 0
def digitsOf(t:Str):Str:=if t.head?=some 45 then t.tail else t
def EB(t:Str):Option Int:=if digitsOf t=[]\/(digitsOf t).length>13\/((digitsOf t).head?=some 48/\t≠[48])then none else if Ht (digitsOf t)>1099511627776 then none else some (if digitsOf t=t then Ht (digitsOf t)else - Ht (digitsOf t))
def CB(vars:List Str)(w:Str):Int×List Str:=if w∈vars then((vars.idxOf w:Nat),vars)else((vars.length:Nat),vars++[w])
def iI(f:Rd->Tm×Rd):Nat->List Tm->Rd->List Tm×Rd|0,l,r=>(l,r)|k+1,l,r=>if(f r).2.bad then(l++[(f r).1],(f r).2)else if((f r).2.at_ [44]).1 then iI f k (l++[(f r).1]) ((f r).2.at_ [44]).2 else(l++[(f r).1],((f r).2.at_ [44]).2)
def AA(f:Rd->Tm×Rd)(w:Str)(r:Rd):Tm×Rd:=if(r.at_ [40]).1=false then(.mk 1 0 (bs w) [],(r.at_ [40]).2)else let l:=iI f ((r.at_ [40]).2.s.length+1) [] (r.at_ [40]).2;(.mk 3 0 (bs w) l.1,if(l.2.at_ [41]).1 then(l.2.at_ [41]).2 else(l.2.at_ [41]).2.kill)
def AB(f:Rd->Tm×Rd)(c:UInt8)(rest:Str)(vars:List Str):Tm×Rd:=if yG c then(.mk 0 (CB vars ((c::rest).take (dn (c::rest)))).1 ⟨#[]⟩ [],⟨(c::rest).drop (dn (c::rest)),(CB vars ((c::rest).take (dn (c::rest)))).2,false⟩)else if c=33 then(.mk 1 0 (bs [33]) [],⟨rest,vars,false⟩)else if c=45\/jX c=true then match EB ((c::rest).take (dN (c::rest)))with|some k=>(.mk 2 k ⟨#[]⟩ [],⟨(c::rest).drop (dN (c::rest)),vars,false⟩)|none=>(.mk 2 0 ⟨#[]⟩ [],⟨c::rest,vars,true⟩)else AA f ((c::rest).take (dn (c::rest))) ⟨(c::rest).drop (dn (c::rest)),vars,false⟩
def cz:Nat->Rd->Tm×Rd|0,r=>(uh,r.space.kill)|n+1,r=>if r.bad then(uh,r.space.kill)else match bQ r.s with|[]=>(uh,r.space.kill)|c::rest=>AB (cz n) c rest r.vars
structure Ps where
  l : List Str
  vars : List Str
  bad : Bool
def Ps.kill(p:Ps):Ps:={p with bad:=true}
def Ps.take(w:Str)(p:Ps):Bool×Ps:=match p.l with|[]=>(false,p)|x::l=>if x=w then(true,{p with l:=l})else(false,p)
def Qu:Str->Nat|[]=>0|c::r=>if vE c||yG c then 1+Cz r else if jX c||c==45 then 1+rJ r else if c=58/\r.head?=some 45 then 2 else if c=40\/c=41\/c=44\/c=46\/c=33 then 1 else 0
def Qv:Nat->Str->List Str|0,_=>[]|n+1,s=>match s with|[]=>[]|c::r=>if Az c then Qv n r else if Qu (c::r)=0 then[[]]else(c::r).take (Qu (c::r))::Qv n ((c::r).drop (Qu (c::r)))
def words(s:Str):List Str:=Qv s.length s
theorem agM{s:Str}{c:UInt8}{r:Str}(h:bQ s=c::r):Az c=false:=by
 induction s with
  |nil=>simp[bQ]at h
  |cons x s ih=>
   unfold bQ at h ih;rw[XG]at h;split at h;·exact ih h
   ·rename_i hx;simp only[Ex]at h;obtain⟨rfl, -⟩:=h;simpa using hx
theorem Hu(s:Str):bQ (bQ s)=bQ s:=by cases h:bQ s with|nil=>rfl|cons c r=>have :=agM h;unfold bQ;rw[XG,this];simp
theorem xq(s:Str):(bQ s).length<=s.length:=by unfold bQ;exact(List.dropWhile_sublist _).length_le
theorem at_len{sg:Str}(r:Rd):(r.at_ sg).2.s.length<=r.s.length/\((r.at_ sg).1=true->(r.at_ sg).2.s.length+sg.length<=r.s.length):=by
 have :=xq r.s;unfold Rd.at_;split;·rename_i hp;have :=hp.length_le;simp only[Av];exact⟨by omega,fun _=>by omega⟩
 ·exact⟨this,by simp⟩
theorem XZ{f:Rd->Tm×Rd}(hf:∀r,(f r).2.s.length<=r.s.length):∀(k:Nat)(l:List Tm)(r:Rd),(iI f k l r).2.s.length<=r.s.length
 |0,l,r=>zL _
 |k+1,l,r=>by
  rw[iI];have h1:=hf r;have h2:=(at_len (sg:=[44]) (f r).2).1;split;·exact h1
  ·split;·have :=XZ hf k (l++[(f r).1]) ((f r).2.at_ [44]).2;omega
   ·simp only;omega
theorem EC(n:Nat)(s:Str):(s.drop n).length<=s.length:=by simp
theorem agN{f:Rd->Tm×Rd}(hf:∀r,(f r).2.s.length<=r.s.length)(w:Str)(r:Rd):(AA f w r).2.s.length<=r.s.length:=by
 unfold AA;have h1:=(at_len (sg:=[40]) r).1;split;·exact h1
 ·simp only;have h2:=XZ hf ((r.at_ [40]).2.s.length+1) [] (r.at_ [40]).2;have h3:=(at_len (sg:=[41]) (iI f ((r.at_ [40]).2.s.length+1) [] (r.at_ [40]).2).2).1;split;·omega
  ·simp only[Rd.kill];omega
theorem agO{f:Rd->Tm×Rd}(hf:∀r,(f r).2.s.length<=r.s.length)(c:UInt8)(rest:Str)(vars:List Str):(AB f c rest vars).2.s.length<=rest.length+1:=by
 unfold AB;split;·have :=EC (dn (c::rest)) (c::rest);simp only[bn]at this ⊢;omega
 ·split;·simp only;omega
  ·split
   ·split;·have :=EC (dN (c::rest)) (c::rest);simp only[bn]at this ⊢;omega
    ·simp
   ·have h1:=agN hf ((c::rest).take (dn (c::rest))) ⟨(c::rest).drop (dn (c::rest)),vars,false⟩;have h2:=EC (dn (c::rest)) (c::rest);simp only[bn]at h1 h2 ⊢;omega
theorem Hw:∀(n:Nat)(r:Rd),(cz n r).2.s.length<=r.s.length
 |0,r=>xq _
 |n+1,r=>by
  have h0:=xq r.s;unfold cz;split;·exact h0
  ·split;·exact h0
   ·rename_i c rest hs;have :=agO (Hw n) c rest r.vars;rw[hs]at h0;simp only[bn]at h0;omega
inductive Qw : Tm → Prop where
  | name (k n : Int) (l : List Tm) (h : k = 1 ∨ k = 3) : Qw (.mk k n (bs []) l)
  | arg (k n : Int) (s : ByteArray) (l : List Tm) (t : Tm) (ht : t ∈ l) (h : Qw t) : Qw (.mk k n s l)
structure arM (r : Rd) (p : Ps) : Prop where
  rb : r.bad = false
  pb : p.bad = false
  vars : p.vars = r.vars
  l : p.l = words r.s
theorem Qx(c:UInt8)(r:Str):dn (c::r)=if vE c||yG c then 1+Cz r else 0:=rfl
theorem agP{c:UInt8}{rest:Str}(h:c=45\/jX c=true):dN (c::rest)=1+rJ rest:=by
 unfold dN;by_cases h':c=45;·simp only[h',if_true]
 ·have hd:jX c=true:=h.resolve_left h';simp only[h',if_false];unfold rJ;rw[Xz,hd];simp only[if_true,bn];omega
def agQ(w:World)(p:Prop)(e:Ending)(w':World):Prop:=∃r,e= .returned (.bool r)/\(r=true↔p)/\w=w'
def AJ(s:ByteArray):Prop:=s=⟨#[33]⟩\/(1<=s.size/\s.size<=8/\∀i(h:i<s.size),97<=(s[i].toNat:Int)/\(s[i].toNat:Int)<=122)
theorem LK{s s':ByteArray}(h:s.toList=s'.toList):s=s':=by rw[Ha,Ha]at h;cases s;cases s';congr 1;exact agC.1 h
theorem Ya(s:ByteArray)(w:World)(hs:s.size<=1048576):Calls Tryz.prog 151 #[.string s] w (agQ w (AJ s)):=by
 have hc:(⟨#[33]⟩:ByteArray).toList=[33]:=by decide+kernel
 by_cases h1:s.toList=(⟨#[33]⟩:ByteArray).toList
 ·have h1b:(s.toList==[33])=true:=by rw[h1,hc];rfl
  have hn:AJ s:= .inl (LK h1);have HN:=zh hn;clear hn h1 hc;go_enter Tryz.func151,Tryz.ntmps151;go_wp2_with fail;go_ret;exact⟨true,rfl,by simp[HN.o],rfl⟩
 ·have h1':¬s=⟨#[33]⟩:=fun e=>h1 (by rw[e]);have h1b:(s.toList==[33])=false:=by rw[hc]at h1;simpa using h1
  have HN:=zh h1';clear h1' h1 hc;go_enter Tryz.func151,Tryz.ntmps151;go_wp2_with fail;go_loop[8](fun i=>∃k:Nat,k<=s.size/\i= .int .i64 k/\∀j(h:j<s.size),j<k->97<=(s[j].toNat:Int)/\(s[j].toNat:Int)<=122)(fun i=>s.size - (intOf i).toNat);case atStart=>exact⟨0,dD _,rfl,fun j _ h=>by omega⟩
  case round=>
   obtain⟨k,hk,rfl,hp⟩:=hrel;have HP:=zh hp;clear hp;by_cases hlt:k<s.size
   ·by_cases g1:(s[k].toNat:Int)<97
    ·go_wp2_with fail;go_ret;refine⟨false,rfl,?_,rfl⟩;simp only[tZ,false_iff];rintro(h|⟨_,_,h⟩);·exact HN.o h
     ·have :=h k hlt;omega
    ·by_cases g2:122<(s[k].toNat:Int)
     ·go_wp2_with fail;go_ret;refine⟨false,rfl,?_,rfl⟩;simp only[tZ,false_iff];rintro(h|⟨_,_,h⟩);·exact HN.o h
      ·have :=h k hlt;omega
     ·go_wp2_with fail;go_round;case rel=>
       refine⟨k+1,by omega,by go_num,fun j h hj=>?_⟩;by_cases hjk:j=k;·subst hjk;omega
       ·exact HP.o j h (by omega)
      case measure=>simp[intOf];omega
   ·have :k=s.size:=by omega
    subst this;by_cases g1:1<=s.size
    ·go_wp2_with fail;go_ret;refine⟨decide ((s.size:Int)<=8),by simp,?_,rfl⟩;rw[Qf];constructor;·exact fun h=> .inr ⟨g1,by omega,fun i hi=>HP.o i hi hi⟩
     ·rintro(h|⟨_,h,_⟩);·exact absurd h HN.o
      ·omega
    ·have g1':decide ((1:Int)<=(s.size:Int))=false:=by simp;omega
     go_wp2_with fail;go_ret;refine⟨false,by simp,?_,rfl⟩;simp only[tZ,false_iff];rintro(h|⟨h,_,_⟩);·exact HN.o h
     ·omega
theorem AL:mH Tryz.prog 23 34 4 56:= .mk' (z:= .agg #[.int .i64 0,.int .i64 0,.string .empty,.slice none 0 0]) Tryz.underlying23 (by kernel_rfl) rfl (by omega) (by omega)
def Qy(t:Tm):Prop:=∀(A:Nat->Prop)(w:World)(vs:List Value),Tm.rep A w t vs->Calls Tryz.prog 18 #[.agg vs.toArray] w (Pure w fun v w'=>∃us,v= .agg us.toArray/\Tm.rep (New w) w' t us)
def Qz(l:List Tm):Prop:=∀(A:Nat->Prop)(w:World)(v:Value),iP A w l v->Calls Tryz.prog 10 #[v] w (Pure w fun v' w'=>iP (New w) w' l v')
theorem Yb(l:List Tm)(ih:∀t∈l,Qy t):Qz l:=by
 intro A w v hv;obtain⟨a,cap,b,off,rfl,hlc,hcm,hlb,ha,he⟩:=hv.at;have HE:=zh he;have HA:=zh ha;clear hv he ha;go_enter Tryz.func10,Tryz.ntmps10;go_wp2_with fail;go_loopw[3,8](fun v i wr=>∃k:Nat,k<=l.length/\i= .int .i64 k/\Below w.heap.size w wr/\aI wr w.heap.size 34 4 Tm.rep (New w) (l.take k) v)(fun _ i _=>l.length - (intOf i).toNat);case atStart=>exact⟨0,dD _,rfl,zB _ _,by simpa using aI.nil ..⟩
 case round=>
  obtain⟨k,hk,rfl,hb,hown⟩:=hrel;have hz:=hb.size;have HO:=zh hown;have HB:=zh hb;clear hown hb;by_cases hlt:k<l.length
  ·obtain⟨rfl,cO⟩:=HA.o (by omega);obtain⟨sa,sc,c0,c1,c2,c3,hr⟩:=pG HE.o cO (ag.ob HB.o) hlt;have HC:=zh (ih _ (bZ hlt) _ (wr.alloc _) _ (Tm.aA.1 _ _ _ _ _ hr (ag.alloc _ _ (.cells (#[.int .i64 l[k].kind,.int .i64 l[k].n,.string l[k].s,.slice sa l[k].args.length sc]:Array Value) 34))));clear hr;go_wp2_with fail;refine(HC.o).mono ?_;rintro e w1⟨v,rfl,hb1,us,rfl,hr⟩;have hsz:=hb1.size;simp only[bF]at hsz;obtain⟨sa',rM,rfl, -⟩:=Tm.nk hr;have ik:=zh ((HO.o.alloc Tm.aA _).below Tm.aA hb1);have HN:=zh (XX Tm.aA HO.o (by simp) (A:=New w) (fun b hb=>by simp[New]at hb ⊢;omega) hr);have HL:=zh (show(l.take k).length<4194304/\w.heap.size<=w1.heap.size by simp;omega);have HB1:=zh ((HB.o.alloc hz _).trans (hb1.mono (by simp;omega)));clear hr hb1 HC;go_wp2_with(at_builtin;refine iH rfl (.tmp 12) (.tmp 15) 23 rfl w.heap.size 34 4 56 AL Tm.aA u3 (l.take k) rfl ik.o l[k] [_,_,_,_] rfl rfl HN.o HL.o ?_;intro v' w2 hown2 az);go_roundw;case rel=>refine⟨k+1,by omega,by go_num,az.below (HB1.o.alloc (by omega) _) (by simp;omega) (fun b hb=>(HO.o.lt b hb).1),?_⟩;rw[fF hlt];exact hown2
   case measure=>simp[intOf];omega
  ·have :k=l.length:=by omega
   subst this;go_wp2_with fail;go_ret;have hO:=HO.o;rw[jW]at hO;exact⟨_,rfl,HB.o,hO.sl Tm.aA hlb (fun b hb=>hb)⟩
theorem gU{w w1:World}{o:Obj}(h:Below (w.alloc o).heap.size (w.alloc o) w1):Below w.heap.size w w1:=((zB _ _).alloc (zL _) o).trans (h.mono (by simp))
theorem agR(k n:Int)(s:ByteArray)(l:List Tm)(ih:Qz l):Qy (.mk k n s l):=by
 intro A w vs hv;rw[Tm.gT]at hv;obtain⟨hk,hn,hs,v,rfl,hl⟩:=hv;obtain⟨a,cap,b,off,rfl, -⟩:=hl.at;have HC:=zh (fun W(hK:ag A w W)=>ih A W _ (aj.keeps Tm.aA hl hK));clear hl;go_enter Tryz.func18,Tryz.ntmps18;go_wp2_with fail;refine(HC.o _ ((ag.alloc _ _ _).trans (ag.alloc _ _ _))).mono ?_;rintro e w1⟨v,rfl,hb1,hr⟩;obtain⟨hc,hf⟩:=agH hb1;have hcs:=dz;obtain⟨a',cap',b',off',rfl, -⟩:=hr.at;have HR:=zh hr;have HB:=zh hb1;have hz:=hb1.size;simp only[bF]at hz;clear hr hb1 HC;go_wp2_with fail;refine cK (v:= .agg #[.int .i64 k,.int .i64 n,.string s,.slice a' l.length cap']) (by simp[results,Tryz.results18,go_sem,hcs,hc]) rfl ⟨_,rfl,?_,[_,_,_,_],rfl,?_⟩;·refine bH (bH (bH (bH (bH (gU (gU HB.o)) ?_ _) ?_ _) ?_ _) ?_ _) ?_ _<;>simp
 ·rw[Tm.gT];refine⟨hk,hn,hs,_,rfl,?_⟩;have h1:=aj.mono (A':=fun b=>New w b/\b≠w.heap.size/\b≠w.heap.size+1) Tm.aA (by omega) HR.o (fun b _ hb=>by simp only[New,bF]at hb ⊢;omega);refine aj.mono Tm.aA (by omega) (aj.keeps Tm.aA h1 ?_) (fun b _ hb=>hb.1);refine ag.trans (ag.trans (ag.trans (ag.trans (ag.setCell _ _ _ _ ?_) (ag.setCell _ _ _ _ ?_)) (ag.setCell _ _ _ _ ?_)) (ag.setCell _ _ _ _ ?_)) (ag.setCell _ _ _ _ ?_)<;>simp
theorem agS:∀t,Qy t:=by intro t;induction t using Tm.induct with|h k n s l ih=>exact agR k n s l (Yb l ih)
theorem agT(l:List Tm):Qz l:=Yb l fun t _=>agS t
section
variable {P : Program} {ops : Array Oper} {Q : Exit → Act → World → Prop} {F : Nat → World → Prop}
def waits(ops:Array Oper)(i k:Nat):Bool:=((ops[i]?).map fun o=>o.after.any fun e=>Region.binds .any e&&e.on==k).getD false
def qB(P:Program)(ops:Array Oper)(F:Nat->World->Prop)(i:Nat)(o:Oper)(v:Value)(a:Act):Prop:=(Region.wanted o (yielded ops a.tmps)=true/\∀w,F i w->(execOp a.eval o).run P w= .ok (.value v) w)\/(Region.wanted o (yielded ops a.tmps)=false/\v=undef)
theorem qB.wpOp{i:Nat}{o:Oper}{v:Value}{a:Act}(hi:ops[i]?=some o)(hy:qB P ops F i o v a){K:Act->World->Prop}{w:World}(hS:F i w)(h:K (a.put o.dst v) w):wpOp P ops Q i K a w:=by
 unfold Go.wpOp;simp only[hi];rcases hy with⟨hw,hv⟩|⟨hw,rfl⟩;·simp only[hw,if_true,Oper.wp,hv w hS,Oper.upon];exact .inl h
 ·simp only[hw,tZ,if_false];exact h
theorem qB.of_same{i:Nat}{o:Oper}{v:Value}{a a':Act}(hy:qB P ops F i o v a)(he:execOp a'.eval o=execOp a.eval o)(hw:Region.wanted o (yielded ops a'.tmps)=Region.wanted o (yielded ops a.tmps)):qB P ops F i o v a':=by unfold qB at*;rw[he,hw];exact hy
theorem agU{i j:Nat}{oi oj:Oper}{v:Value}(hj:ops[j]?=some oj)(hap:oi.apart ops oj=true)(hsi:∀cs b,oi.op≠ .select cs b)(hsj:∀cs b,oj.op≠ .select cs b)(hQ:∀c a w,Q (.panic c) (a.put oi.dst v) w->Q (.panic c) a w){K:Act->World->Prop}{a:Act}{w:World}(hy:qB P ops F i oi v a)(h:wpOp P ops Q j K (a.put oi.dst v) w):wpOp P ops Q j (fun a' w'=>qB P ops F i oi v a'/\K (a'.put oi.dst v) w') a w:=by
 obtain⟨h1,h2,h3⟩:=Oper.apart_spec hap;have keep:∀(a:Act),qB P ops F i oi v a->∀u,qB P ops F i oi v (a.put oj.dst u):=fun a hy u=>hy.of_same (execOp_put oi hsi a oj.dst u h3) (wanted_put oi a oj.dst u h3);have keepD:∀d,qB P ops F i oi v {a with defers:=d::a.defers}:=fun d=>hy.of_same rfl rfl;unfold wpOp at*;simp only[hj]at*;rw[wanted_put oj a oi.dst v h1]at h;split
 ·rename_i hw;simp only[hw,if_true]at h;rcases h with h|⟨hasks,hlets⟩;case inr=>exact .inr ⟨by unfold Oper.asks at*;rw[execOp_put oj hsj a oi.dst v h1]at hasks;exact hasks,hlets⟩
  refine .inl ?_;unfold Oper.wp at*;rw[execOp_put oj hsj a oi.dst v h1]at h;generalize(execOp a.eval oj).run P w=r at*;cases r with
   |ok n w'=>
    cases n<;>simp only[Oper.upon]at h ⊢;case value u=>exact⟨keep a hy u,by rw[<-LA a v u h2];exact h⟩
    case skip=>exact⟨keep a hy _,by rw[<-LA a v undef h2];exact h⟩
    case defer d=>refine⟨keep _ (keepD d) _,?_⟩;rw[<-LA _ v undef h2,<-Act.put_defers];exact h
    case enter f args=>refine Calls.mono h fun e w'' he=>?_;cases e with|returned u=>exact⟨keep a hy u,by rw[<-LA a v u h2];exact he⟩|panicked c=>exact hQ _ _ _ he|outgrown=>exact he
    case row row args=>exact Rows.mono h fun u w'' he=>⟨keep a hy u,by rw[<-LA a v u h2];exact he⟩
   |halt x w'=>cases x<;>simp only[Oper.upon]at h ⊢;case panic u=>exact hQ _ _ _ h
 ·rename_i hw;simp only[hw]at h;exact⟨keep a hy _,by rw[<-LA a v undef h2];exact h⟩
def LP(ops:Array Oper)(F:Nat->World->Prop)(i:Nat)(w w':World):Prop:=∀k,waits ops i k=false->F k w->F k w'
def mI(P:Program)(ops:Array Oper)(Q:Exit->Act->World->Prop)(F:Nat->World->Prop):Nat->Array Bool->Act->World->Prop|0,listed,a,w=>Region.ready .any ops listed=[]/\Q .normal a w|fuel+1,listed,a,w=>(Region.ready .any ops listed=[]->Q .normal a w)/\∀i∈Region.ready .any ops listed,wpOp P ops Q i (fun a' w'=>LP ops F i w w'/\mI P ops Q F fuel (listed.setIfInBounds i true) a' w') a w
theorem QA:∀(fuel:Nat)(listed:Array Bool)(a:Act)(w:World),mI P ops Q F fuel listed a w->wpAny P .any ops Q fuel listed a w|0,_,_,_,h=>h|fuel+1,_,_,_,h=>⟨h.1,fun i hi=>Qq (fun a' w' h'=>QA fuel _ a' w' h'.2) (h.2 i hi)⟩
theorem agV{i:Nat}{oi:Oper}{v:Value}(hi:ops[i]?=some oi)(hsel:∀(j:Nat)(o:Oper)cs b,ops[j]?=some o->o.op≠ .select cs b)(hQ:∀c a w,Q (.panic c) (a.put oi.dst v) w->Q (.panic c) a w):∀(fuel:Nat)(listed:Array Bool)(a:Act)(w:World),(∀j oj,ops[j]?=some oj->j≠i->listed.getD j true=false->(∀e∈oj.after,Region.binds .any e=true->e.on≠i)->oi.apart ops oj=true)->i∈Region.ready .any ops listed->qB P ops F i oi v a->F i w->mI P ops Q F fuel (listed.setIfInBounds i true) (a.put oi.dst v) w->mI P ops Q F (fuel+1) listed a w:=by
 intro fuel;induction fuel with
  |zero=>
   intro listed a w _ hr hy hS H;refine⟨fun h=>(by rw[h]at hr;cases hr),fun j hj=>?_⟩;by_cases hji:j=i;·subst hji;exact hy.wpOp hi hS ⟨fun _ _ h=>h,H⟩
   ·have :=ready_mono hj hji;rw[H.1]at this;cases this
  |succ fuel ih=>
   intro listed a w hfree hr hy hS H;refine⟨fun h=>(by rw[h]at hr;cases hr),fun j hj=>?_⟩;by_cases hji:j=i;·subst hji;exact hy.wpOp hi hS ⟨fun _ _ h=>h,H⟩
   ·have h1:=H.2 j (ready_mono hj hji);obtain⟨hjun,oj,hoj,hall⟩:=mem_ready.1 hj;have hnot:∀e∈oj.after,Region.binds .any e=true->e.on≠i:=fun e he hb heq=>by
     have h1:=hall e he hb;have h0:=(mem_ready.1 hr).1;rw[heq]at h1;rcases Nat.lt_or_ge i listed.size with h'|h';·simp[h']at h0 h1;rw[h0]at h1;cases h1
     ·simp[Cr h']at h1
    have hwt:waits ops j i=false:=by simp only[waits,hoj,nV,qw];rw[Bool.eq_false_iff];intro hw;obtain⟨e,he,hb⟩:=Qh.1 hw;simp only[kI,rG]at hb;exact hnot e he hb.1 hb.2
    have h2:=agU hoj (hfree j oj hoj hji hjun hnot) (fun cs b=>hsel i oi cs b hi) (fun cs b=>hsel j oj cs b hoj) hQ hy h1;have hfree':∀k ok,ops[k]?=some ok->k≠i->(listed.setIfInBounds j true).getD k true=false->(∀e∈ok.after,Region.binds .any e=true->e.on≠i)->oi.apart ops ok=true:=fun k ok hk hki hun hno=>by
     refine hfree k ok hk hki ?_ hno;by_cases hjk:j=k;·subst hjk;exact hjun
     ·rw[Ez true hjk]at hun;exact hun
    refine Qq (fun a' w' h3=>⟨h3.2.1,?_⟩) h2;refine ih (listed.setIfInBounds j true) a' w' hfree' (ready_mono hr (EA hji)) h3.1 (h3.2.1 i hwt hS) ?_;rw[Array.setIfInBounds_comm _ _ hji];exact h3.2.2
theorem QB{i:Nat}{oi:Oper}{v:Value}{fuel:Nat}{listed:Array Bool}{a:Act}{w:World}(hi':ops.toList[i]?=some oi)(hs:Region.noSelect ops=true)(hf:Region.free .any ops listed i=true)(hr:(Region.ready .any ops listed).contains i=true)(hQ:∀c a w,Q (.panic c) (a.put oi.dst v) w->Q (.panic c) a w)(hy:qB P ops F i oi v a)(hS:F i w)(h:mI P ops Q F fuel (listed.setIfInBounds i true) (a.put oi.dst v) w):mI P ops Q F (fuel+1) listed a w:=have hi:ops[i]?=some oi:=by rw[<-pE];exact hi'
 agV hi (Region.noSelect_spec hs) hQ fuel listed a w (Region.free_spec hi hf) (by simpa using hr) hy hS h
theorem aM{i:Nat}{fuel:Nat}{listed:Array Bool}{a:Act}{w:World}(hr:Region.ready .any ops listed=[i])(h:wpOp P ops Q i (fun a' w'=>LP ops F i w w'/\mI P ops Q F fuel (listed.setIfInBounds i true) a' w') a w):mI P ops Q F (fuel+1) listed a w:=⟨fun h0=>(by rw[hr]at h0;cases h0),fun j hj=>(by rw[hr]at hj;simp only[iF]at hj;subst hj;exact h)⟩
theorem fU{listed:Array Bool}{a:Act}{w:World}(hr:Region.ready .any ops listed=[])(h:Q .normal a w):∀fuel,mI P ops Q F fuel listed a w|0=>⟨hr,h⟩|_+1=>⟨fun _=>h,by rw[hr];simp⟩
theorem aF{i:Nat}{o:Oper}{K:Act->World->Prop}{a:Act}{w:World}(hi':ops.toList[i]?=some o)(hg:Region.wanted o (yielded ops a.tmps)=true)(h:o.wp P a w K Q):wpOp P ops Q i K a w:=by
 have hi:ops[i]?=some o:=by rw[<-pE];exact hi'
 unfold Go.wpOp;simp only[hi,hg,if_true];exact .inl h
theorem iY{id:Nat}{a:Act}{w:World}(hm:P.follows .mixedOrders=true)(h:mI P ops Q F ops.size (Array.replicate ops.size false) a w.drew):(Code.region id ops true).wp P Q a w:=XQ hm (QA _ _ _ _ h)
end
theorem aC{P:Program}{ops:Array Oper}{Q:Exit->Act->World->Prop}{F:Nat->World->Prop}{i:Nat}{oi:Oper}{v:Value}{fuel:Nat}{listed:Array Bool}{a:Act}{w:World}(hi':ops.toList[i]?=some oi)(hy:qB P ops F i oi v a)(hS:F i w)(h:mI P ops Q F fuel (listed.setIfInBounds i true) (a.put oi.dst v) w)(hs:Region.noSelect ops=true:=by kernel_rfl)(hf:Region.free .any ops listed i=true:=by kernel_rfl)(hr:(Region.ready .any ops listed).contains i=true:=by kernel_rfl)(hQ:∀c a w,Q (.panic c) (a.put oi.dst v) w->Q (.panic c) a w:=by exact fun _ _ _ h=>h):mI P ops Q F (fuel+1) listed a w:=QB hi' hs hf hr hQ hy hS h
theorem zP:(∀(a:Act)(i:Nat)(v:Value),a.put (some i) v={a with tmps:=a.tmps.setIfInBounds i v})/\(∀(l:List Value)(i:Nat)(v:Value),l.toArray.setIfInBounds i v=(l.set i v).toArray)/\(∀(x v:Value)(l:List Value),(x::l).set 0 v=v::l)/\(∀(x v:Value)(l:List Value)(n:Nat),(x::l).set (n+1) v=x::l.set n v):=⟨fun _ _ _=>rfl,fun l i v=>Co l i v,fun _ _ _=>rfl,fun _ _ _ _=>rfl⟩
theorem zT{P:Program}{ops:Array Oper}{Q:Exit->Act->World->Prop}{F:Nat->World->Prop}(i:Nat){oi:Oper}{v:Value}{fuel:Nat}{listed:Array Bool}{a:Act}{w:World}(hS:F i w)(h:mI P ops Q F fuel (listed.setIfInBounds i true) (a.put oi.dst v) w)(hi':ops.toList[i]?=some oi:=by rfl)(hs:Region.noSelect ops=true:=by kernel_rfl)(hf:Region.free .any ops listed i=true:=by kernel_rfl)(hr:(Region.ready .any ops listed).contains i=true:=by kernel_rfl)(hQ:∀c a w,Q (.panic c) (a.put oi.dst v) w->Q (.panic c) a w:=by exact fun _ _ _ h=>h)(hg:Region.wanted oi (yielded ops a.tmps)=true:=by rfl)(hrun:∀w,F i w->(execOp a.eval oi).run P w= .ok (.value v) w:=by(intro w' hw;clear hw;go_simp<;>with_reducible rfl)):mI P ops Q F (fuel+1) listed a w:=QB hi' hs hf hr hQ (Or.inl ⟨hg,hrun⟩) hS h
namespace Tm
mutual
def ren (f : Int → Int) : Tm → Tm
  | mk k n s l => mk k (if k = 0 then f n else n) s (qC f l)
def qC (f : Int → Int) : List Tm → List Tm
  | [] => []
  | t :: r => ren f t :: qC f r
end
theorem Hy(f:Int->Int)(l:List Tm):qC f l=l.map (ren f):=by induction l with|nil=>rfl|cons t r ih=>simp[qC,ih]
end Tm
def low(n:Int):Int:=n%1099511627776
namespace Tm
mutual
def nodes : Tm → Nat
  | mk _ _ _ l => aH l + 1
def aH : List Tm → Nat
  | [] => 0
  | t :: r => nodes t + aH r
end
theorem Yc(t:Tm):0<t.nodes:=by cases t;simp[nodes]
theorem ED(l r:List Tm):aH (l++r)=aH l+aH r:=by induction l with|nil=>simp[aH]|cons t l ih=>simp only[mE,aH,ih];omega
theorem agW(l:List Tm)(j:Nat)(h:j<l.length):aH (l.take j)+nodes l[j]<=aH l:=by have h1:=ED (l.take (j+1)) (l.drop (j+1));rw[G8,fF h,ED]at h1;simp only[aH]at h1;omega
variable {σ : Type}
def num(f:σ->Int->Int×σ)(st:σ)(k n:Int):Int×σ:=if k=0 then f st n else(n,st)
mutual
def bB (f : σ → Int → Int × σ) : σ → Tm → Tm × σ
  | st, mk k n s l => (mk k (num f st k n).1 s (aV f (num f st k n).2 l).1, (aV f (num f st k n).2 l).2)
def aV (f : σ → Int → Int × σ) : σ → List Tm → List Tm × σ
  | st, [] => ([], st)
  | st, t :: r => ((bB f st t).1 :: (aV f (bB f st t).2 r).1, (aV f (bB f st t).2 r).2)
end
theorem EE(f:σ->Int->Int×σ)(l:List Tm):∀(st:σ)(t:Tm),aV f st (l++[t])=((aV f st l).1++[(bB f (aV f st l).2 t).1],(bB f (aV f st l).2 t).2):=by induction l with|nil=>intro st t;simp[aV]|cons x r ih=>intro st t;simp[aV,ih]
theorem yH(f:σ->Int->Int×σ)(l:List Tm):∀st:σ,(aV f st l).1.length=l.length:=by induction l with|nil=>intro st;simp[aV]|cons x r ih=>intro st;simp[aV,ih]
theorem agX{sz:σ->Nat}{f:σ->Int->Int×σ}(hf:∀st n,sz (f st n).2<=sz st+1):∀(t:Tm)(st:σ),sz (bB f st t).2<=sz st+t.nodes:=by
 intro t;induction t using induct with
  |h k n s l ih=>
   intro st;have hL:∀(r:List Tm),(∀t∈r,t∈l)->∀st:σ,sz (aV f st r).2<=sz st+aH r:=by intro r;induction r with|nil=>intro _ st;simp[aV,aH]|cons x r ihr=>intro hm st;simp only[aV,aH];have h1:=ih x (hm x (mY ..)) st;have h2:=ihr (fun t ht=>hm t (nU _ ht)) (bB f st x).2;omega
   simp only[bB,nodes];have h1:=hL l (fun _ h=>h) (num f st k n).2;have h2:sz (num f st k n).2<=sz st+1:=by
    unfold num;split;·exact hf st n
    ·simp
   omega
theorem agY{sz:σ->Nat}{f:σ->Int->Int×σ}(hf:∀st n,sz (f st n).2<=sz st+1)(l:List Tm):∀(st:σ),sz (aV f st l).2<=sz st+aH l:=by induction l with|nil=>intro st;simp[aV,aH]|cons x r ih=>intro st;simp only[aV,aH];have h1:=agX hf x st;have h2:=ih (bB f st x).2;omega
end Tm
structure Yd {σ : Type} (I : σ → (Nat → Prop) → World → Prop) : Prop where
  lt : ∀ st M w, I st M w → ∀ b, M b → b < w.heap.size
  keeps : ∀ st M w w', I st M w → ag M w w' → I st M w'
def agZ{σ:Type}(I:σ->(Nat->Prop)->World->Prop)(M:Nat->Prop)(w:World)(r:Tm×σ)(e:Ending)(w':World):Prop:=∃us M',e= .returned (.agg us.toArray)/\Ch M w w'/\(∀b,M' b->M b\/w.heap.size<=b)/\I r.2 M' w'/\Tm.rep (fun b=>w.heap.size<=b/\¬M' b) w' r.1 us
def Ye{σ:Type}(I:σ->(Nat->Prop)->World->Prop)(M:Nat->Prop)(w:World)(r:Int×σ)(e:Ending)(w':World):Prop:=e= .returned (.int .i64 r.1)/\au r.1/\∃M',Ch M w w'/\(∀b,M' b->M b\/w.heap.size<=b)/\I r.2 M' w'
namespace Tm
inductive Good (vars : Int) : Tm → Prop where
  | var (n : Int) (h0 : 0 ≤ n) (h1 : n < vars) : Good vars (mk 0 n .empty [])
  | atom (s : ByteArray) (h : AJ s) : Good vars (mk 1 0 s [])
  | int (n : Int) (h0 : -1099511627776 ≤ n) (h1 : n ≤ 1099511627776) : Good vars (mk 2 n .empty [])
  | comp (s : ByteArray) (l : List Tm) (h : AJ s) (h1 : ¬ s.toList = [33]) (h2 : 1 ≤ l.length) (h3 : l.length ≤ 4) (h4 : ∀ t ∈ l, Good vars t) : Good vars (mk 3 0 s l)
end Tm
theorem toList_nil{s:ByteArray}:s.toList.isEmpty=true↔s=.empty:=by
 constructor;·intro h;refine LK ?_;rw[Ew]at h;rw[h];decide+kernel
 ·rintro rfl;decide+kernel
theorem QC{α:Type}{l:List α}:((l.length:Int)==0)=true↔l=[]:=by cases l<;>simp<;>omega
namespace Tm
theorem Hz{vars n:Int}{s:ByteArray}{l:List Tm}:Good vars (mk 0 n s l)↔decide (0<=n)=true/\decide (n<vars)=true/\s.toList.isEmpty=true/\((l.length:Int)==0)=true:=by
 rw[toList_nil,QC,Qf,Qf];constructor;·intro h;cases h with|var _ h0 h1=>exact⟨h0,h1,rfl,rfl⟩
 ·rintro⟨h0,h1,rfl,rfl⟩;exact .var n h0 h1
theorem LQ{vars n:Int}{s:ByteArray}{l:List Tm}:Good vars (mk 1 n s l)↔(n==0)=true/\AJ s/\((l.length:Int)==0)=true:=by
 rw[QC,rG];constructor;·intro h;cases h with|atom _ h=>exact⟨rfl,h,rfl⟩
 ·rintro⟨rfl,h,rfl⟩;exact .atom s h
theorem H5{vars n:Int}{s:ByteArray}{l:List Tm}:Good vars (mk 2 n s l)↔decide (-1099511627776<=n)=true/\decide (n<=1099511627776)=true/\s.toList.isEmpty=true/\((l.length:Int)==0)=true:=by
 rw[toList_nil,QC,Qf,Qf];constructor;·intro h;cases h with|int _ h0 h1=>exact⟨h0,h1,rfl,rfl⟩
 ·rintro⟨h0,h1,rfl,rfl⟩;exact .int n h0 h1
theorem CE{vars n:Int}{s:ByteArray}{l:List Tm}:Good vars (mk 3 n s l)↔(n != 0)=false/\AJ s/\(s.toList==[33])=false/\decide ((l.length:Int)<1)=false/\decide (4<(l.length:Int))=false/\∀t∈l,Good vars t:=by
 rw[bne_eq_false_iff_eq,agb,agb,tY];constructor;·intro h;cases h with|comp _ _ h h1 h2 h3 h4=>exact⟨rfl,h,h1,by omega,by omega,h4⟩
 ·rintro⟨rfl,h,h1,h2,h3,h4⟩;exact .comp s l h h1 (by omega) (by omega) h4
theorem ag0{vars:Int}{t:Tm}(h:Good vars t):t.kind=0\/t.kind=1\/t.kind=2\/t.kind=3:=by cases h<;>simp[kind]
end Tm
def QD(t:Tm):Prop:=∀(vars:Int)(A:Nat->Prop)(w:World)(vs:List Value),au vars->Tm.rep A w t vs->Calls Tryz.prog 126 #[.agg vs.toArray,.int .i64 vars] w (Pure w fun v _=>∃r,v= .bool r/\(r=true↔t.Good vars))
theorem ag1(k n:Int)(s:ByteArray)(l:List Tm)(ih:∀t∈l,QD t):QD (.mk k n s l):=by
 intro vars A w vs hvars hv;rw[Tm.gT]at hv;obtain⟨hk,hn,hs,v,rfl,hl⟩:=hv;obtain⟨a,cap,b,off,rfl,hlc,hcm,hlb,ha,he⟩:=hl.at;have HE:=zh he;have HA:=zh ha;have IH:=zh ih;have HVS:=zh hvars;have HB0:=zh (show Below w.heap.size w (w.alloc (.cells #[.int .i64 k,.int .i64 n,.string s,.slice a l.length cap] 34))from gU (zB _ _));clear he ha hl ih;by_cases k0:k=0
 ·have Yf:(k==0)=true:=by simpa using k0
  subst k0;clear Yf;by_cases a0:decide (0<=n)=true
  ·by_cases a1:decide (n<vars)=true
   ·by_cases a2:s.toList.isEmpty=true
    ·by_cases a3:((l.length:Int)==0)=true;·go_enter Tryz.func126,Tryz.ntmps126;go_wp2_with fail;go_ret;refine⟨_,rfl,HB0.o,true,rfl,?_⟩;rw[Tm.Hz];simp[a0,a1,a2,a3]
     ·have a3':((l.length:Int)==0)=false:=by simpa using a3
      clear a3;go_enter Tryz.func126,Tryz.ntmps126;go_wp2_with fail;go_ret;refine⟨_,rfl,HB0.o,false,rfl,?_⟩;rw[Tm.Hz];simp[a0,a1,a2,a3']
    ·have CF:s.toList.isEmpty=false:=by simpa using a2
     clear a2;go_enter Tryz.func126,Tryz.ntmps126;go_wp2_with fail;go_ret;refine⟨_,rfl,HB0.o,false,rfl,?_⟩;rw[Tm.Hz];simp[a0,a1,CF]
   ·have a1':decide (n<vars)=false:=by simpa using a1
    clear a1;go_enter Tryz.func126,Tryz.ntmps126;go_wp2_with fail;go_ret;refine⟨_,rfl,HB0.o,false,rfl,?_⟩;rw[Tm.Hz];simp[a0,a1']
  ·have a0':decide (0<=n)=false:=by simpa using a0
   clear a0;go_enter Tryz.func126,Tryz.ntmps126;go_wp2_with fail;go_ret;refine⟨_,rfl,HB0.o,false,rfl,?_⟩;rw[Tm.Hz];simp[a0']
 ·have Yf:(k==0)=false:=by simpa using k0
  by_cases k1:k=1
  ·have k1':(k==1)=true:=by simpa using k1
   subst k1;clear k1';by_cases a0:(n==0)=true
   ·go_enter Tryz.func126,Tryz.ntmps126;go_wp2_with fail;refine(Ya s _ hs).mono ?_;rintro e w1⟨r,rfl,hr,rfl⟩;have HR:=zh hr;clear hr;cases r with
     |false=>go_wp2_with fail;have hr:=HR.o;simp only[tZ,false_iff]at hr;go_ret;refine⟨_,rfl,HB0.o,false,rfl,?_⟩;rw[Tm.LQ];simp[a0,hr]
     |true=>
      have hr:=HR.o;simp only[true_iff]at hr;have rO:=zh hr;clear hr HR;by_cases a2:((l.length:Int)==0)=true;·go_wp2_with fail;go_ret;refine⟨_,rfl,HB0.o,true,rfl,?_⟩;rw[Tm.LQ];simp[a0,rO.o,a2]
      ·have CF:((l.length:Int)==0)=false:=by simpa using a2
       clear a2;go_wp2_with fail;go_ret;refine⟨_,rfl,HB0.o,false,rfl,?_⟩;rw[Tm.LQ];simp[a0,rO.o,CF]
   ·have a0':(n==0)=false:=by simpa using a0
    clear a0;go_enter Tryz.func126,Tryz.ntmps126;go_wp2_with fail;go_ret;refine⟨_,rfl,HB0.o,false,rfl,?_⟩;rw[Tm.LQ];simp[a0']
  ·have k1':(k==1)=false:=by simpa using k1
   by_cases k2:k=2
   ·have k2':(k==2)=true:=by simpa using k2
    subst k2;clear k2';by_cases a0:decide (-1099511627776<=n)=true
    ·by_cases a1:decide (n<=1099511627776)=true
     ·by_cases a2:s.toList.isEmpty=true
      ·by_cases a3:((l.length:Int)==0)=true;·go_enter Tryz.func126,Tryz.ntmps126;go_wp2_with fail;go_ret;refine⟨_,rfl,HB0.o,true,rfl,?_⟩;rw[Tm.H5];simp[a0,a1,a2,a3]
       ·have a3':((l.length:Int)==0)=false:=by simpa using a3
        clear a3;go_enter Tryz.func126,Tryz.ntmps126;go_wp2_with fail;go_ret;refine⟨_,rfl,HB0.o,false,rfl,?_⟩;rw[Tm.H5];simp[a0,a1,a2,a3']
      ·have CF:s.toList.isEmpty=false:=by simpa using a2
       clear a2;go_enter Tryz.func126,Tryz.ntmps126;go_wp2_with fail;go_ret;refine⟨_,rfl,HB0.o,false,rfl,?_⟩;rw[Tm.H5];simp[a0,a1,CF]
     ·have a1':decide (n<=1099511627776)=false:=by simpa using a1
      clear a1;go_enter Tryz.func126,Tryz.ntmps126;go_wp2_with fail;go_ret;refine⟨_,rfl,HB0.o,false,rfl,?_⟩;rw[Tm.H5];simp[a0,a1']
    ·have a0':decide (-1099511627776<=n)=false:=by simpa using a0
     clear a0;go_enter Tryz.func126,Tryz.ntmps126;go_wp2_with fail;go_ret;refine⟨_,rfl,HB0.o,false,rfl,?_⟩;rw[Tm.H5];simp[a0']
   ·have k2':(k==2)=false:=by simpa using k2
    by_cases k3:k=3
    ·have Yg:(k==3)=true:=by simpa using k3
     subst k3;clear Yg;by_cases a0:(n != 0)=false
     ·go_enter Tryz.func126,Tryz.ntmps126;go_wp2_with fail;refine(Ya s _ hs).mono ?_;rintro e w1⟨r,rfl,hr,rfl⟩;have HR:=zh hr;clear hr;cases r with
       |false=>go_wp2_with fail;have hr:=HR.o;simp only[tZ,false_iff]at hr;go_ret;refine⟨_,rfl,HB0.o,false,rfl,?_⟩;rw[Tm.CE];simp[a0,hr]
       |true=>
        have hr:=HR.o;simp only[true_iff]at hr;have rO:=zh hr;clear hr HR;by_cases a2:(s.toList==[33])=false
        ·by_cases a3:decide ((l.length:Int)<1)=false
         ·by_cases a4:decide (4<(l.length:Int))=false
          ·go_wp2_with fail;go_loopw[99](fun q wr=>∃j:Nat,j<=l.length/\q= .int .i64 j/\Below w.heap.size w wr/\∀x(hx:x<j)(hl:j<=l.length),(l[x]'(by omega)).Good vars)(fun q _=>l.length - (intOf q).toNat);case atStart=>exact⟨0,dD _,rfl,HB0.o,fun x hx=>by omega⟩
           case round=>
            obtain⟨j,hj,rfl,hb,hp⟩:=hrel;have HB:=zh hb;have HP:=zh hp;have hz:=hb.size;clear hb hp;by_cases hlt:j<l.length
            ·obtain⟨rfl,cO⟩:=HA.o (by omega);obtain⟨sa,sc,c0,c1,c2,c3,hr⟩:=pG HE.o cO (ag.ob HB.o) hlt;have HC:=zh (IH.out _ (bZ hlt) vars _ (wr.alloc _) _ HVS.o (Tm.aA.1 _ _ _ _ _ hr (ag.alloc _ _ (.cells (#[.int .i64 l[j].kind,.int .i64 l[j].n,.string l[j].s,.slice sa l[j].args.length sc]:Array Value) 34))));clear hr;go_wp2_with fail;refine(HC.o).mono ?_;rintro e w1⟨v,rfl,hb1,r,rfl,hr⟩;have HR:=zh hr;have HB1:=zh ((HB.o.alloc hz _).trans (hb1.mono (by simp;omega)));clear hr hb1 HC c0 c1 c2 c3;cases r with
              |false=>go_wp2_with fail;go_ret;refine⟨_,rfl,HB1.o,false,rfl,?_⟩;rw[Tm.CE];have hr:=HR.o;simp only[tZ,false_iff]at hr ⊢;exact fun⟨_,_,_,_,_,h⟩=>hr (h _ (bZ hlt))
              |true=>
               go_wp2_with fail;go_roundw;case rel=>
                refine⟨j+1,by omega,by go_num,HB1.o,fun x hx _=>?_⟩;by_cases hxj:x=j;·subst hxj;simpa using HR.o
                ·exact HP.o x (by omega) hj
               case measure=>simp[intOf];omega
            ·have :j=l.length:=by omega
             subst this;go_wp2_with fail;go_ret;refine⟨_,rfl,HB.o,true,rfl,?_⟩;rw[Tm.CE];simp only[true_iff];refine⟨a0,rO.o,a2,a3,a4,fun t ht=>?_⟩;obtain⟨x,hx,rfl⟩:=tX.1 ht;exact HP.o x hx (zL _)
          ·have a4':decide (4<(l.length:Int))=true:=by simpa using a4
           clear a4;go_wp2_with fail;go_ret;refine⟨_,rfl,HB0.o,false,rfl,?_⟩;rw[Tm.CE];simp[a0,rO.o,a2,a3,a4']
         ·have a3':decide ((l.length:Int)<1)=true:=by simpa using a3
          clear a3;go_wp2_with fail;go_ret;refine⟨_,rfl,HB0.o,false,rfl,?_⟩;rw[Tm.CE];simp[a0,rO.o,a2,a3']
        ·have CF:(s.toList==[33])=true:=by simpa using a2
         clear a2;go_wp2_with fail;go_ret;refine⟨_,rfl,HB0.o,false,rfl,?_⟩;rw[Tm.CE];simp[a0,rO.o,CF]
     ·have a0':(n != 0)=true:=by simpa using a0
      clear a0;go_enter Tryz.func126,Tryz.ntmps126;go_wp2_with fail;go_ret;refine⟨_,rfl,HB0.o,false,rfl,?_⟩;rw[Tm.CE];simp[a0']
    ·have Yg:(k==3)=false:=by simpa using k3
     have K:=zh (show ¬(k=0\/k=1\/k=2\/k=3)by simp[k0,k1,k2,k3]);clear k0 k1 k2 k3;go_enter Tryz.func126,Tryz.ntmps126;go_wp2_with fail;go_ret;refine⟨_,rfl,HB0.o,false,rfl,?_⟩;simp only[tZ,false_iff];exact fun h=>K.out (by simpa[Tm.kind]using Tm.ag0 h)
theorem ag3:∀t,QD t:=by intro t;induction t using Tm.induct with|h k n s l ih=>exact ag1 k n s l ih
def QE(t:Tm):Prop:=∀(A:Nat->Prop)(w:World)(vs:List Value),t.nodes<=1099511627776->Tm.rep A w t vs->Calls Tryz.prog 127 #[.agg vs.toArray] w (Pure w fun v _=>v= .int .i64 t.nodes)
theorem ag4(k n:Int)(s:ByteArray)(l:List Tm)(ih:∀t∈l,QE t):QE (.mk k n s l):=by
 intro A w vs hnd hv;rw[Tm.gT]at hv;obtain⟨hk,hn,hs,v,rfl,hl⟩:=hv;obtain⟨a,cap,b,off,rfl,hlc,hcm,hlb,ha,he⟩:=hl.at;have HE:=zh he;have HA:=zh ha;have IH:=zh ih;simp only[Tm.nodes]at hnd;have iZ:=zh hnd;have HB0:=zh (show Below w.heap.size w (w.alloc (.cells #[.int .i64 k,.int .i64 n,.string s,.slice a l.length cap] 34))from gU (zB _ _));clear he ha hl ih hnd;go_enter Tryz.func127,Tryz.ntmps127;go_wp2_with fail;go_loopw[3,9](fun m q wr=>∃j:Nat,j<=l.length/\q= .int .i64 j/\m= .int .i64 ((1+Tm.aH (l.take j):Nat):Int)/\Below w.heap.size w wr)(fun _ q _=>l.length - (intOf q).toNat);case atStart=>exact⟨0,dD _,rfl,by simp[Tm.aH],HB0.o⟩
 case round=>
  obtain⟨j,hj,rfl,rfl,hb⟩:=hrel;have HB:=zh hb;have hz:=hb.size;clear hb;by_cases hlt:j<l.length
  ·obtain⟨rfl,cO⟩:=HA.o (by omega);obtain⟨sa,sc,c0,c1,c2,c3,hr⟩:=pG HE.o cO (ag.ob HB.o) hlt;have hn1:=Tm.agW l j hlt;have hn2:=iZ.o;have hb1:Tm.aH (l.take j)+l[j].nodes<=1099511627776:=by omega
   have HS:Hd (Tm.aH (l.take (j+1))=Tm.aH (l.take j)+l[j].nodes):=by rw[fF hlt,Tm.ED];simp[Hd,Tm.aH]
   have HC:=zh (IH.out _ (bZ hlt) _ (wr.alloc _) _ (by omega) (Tm.aA.1 _ _ _ _ _ hr (ag.alloc _ _ (.cells (#[.int .i64 l[j].kind,.int .i64 l[j].n,.string l[j].s,.slice sa l[j].args.length sc]:Array Value) 34))));clear hr hn1 hn2;go_wp2_with fail;refine(HC.o).mono ?_;rintro e w1⟨v,rfl,hb1,rfl⟩;have HB1:=zh ((HB.o.alloc hz _).trans (hb1.mono (by simp;omega)));clear hb1 HC c0 c1 c2 c3;go_wp2_with fail;go_roundw;case rel=>exact⟨j+1,by omega,by go_num,by rw[HS.o];congr 1;omega,HB1.o⟩
   case measure=>simp[intOf];omega
  ·have :j=l.length:=by omega
   subst this;go_wp2_with fail;go_ret;refine⟨_,rfl,HB.o,?_⟩;rw[jW];simp only[Tm.nodes];show Value.int .i64 _=_;congr 1;omega
theorem ag5:∀t,QE t:=by intro t;induction t using Tm.induct with|h k n s l ih=>exact ag4 k n s l ih
structure Ce where
  kind : Int
  n : Int
  s : ByteArray
  deriving DecidableEq, Inhabited
def vF{α:Type}(f:α->List Value)(ok:α->Prop)(_:Nat->Prop)(_:World)(x:α)(vs:List Value):Prop:=ok x/\vs=f x
theorem yI{α:Type}{f:α->List Value}{ok:α->Prop}(h1:∀x,∀u∈f x,u.oneCell'=true):gz (vF f ok):=⟨fun A w w' x vs h _=>h,fun A A' w x vs h _=>h,fun A w x vs h=>by obtain⟨_,rfl⟩:=h;exact h1 x⟩
def Ce.vals(c:Ce):List Value:=[.int .i64 c.kind,.int .i64 c.n,.string c.s]
def Ce.Ok(c:Ce):Prop:=au c.kind/\au c.n/\c.s.size<=1048576
def Ce.rep:(Nat->Prop)->World->Ce->List Value->Prop:=vF Ce.vals Ce.Ok
theorem Ce.aA:gz Ce.rep:=yI fun x=>by simp[Ce.vals,Value.oneCell']
def yJ(n:Int):List Value:=[.int .i64 n]
def nu:(Nat->Prop)->World->Int->List Value->Prop:=vF yJ au
theorem aQ:gz nu:=yI fun x=>by simp[yJ,Value.oneCell']
def Yh(b:Bool):List Value:=[.bool b]
abbrev pI:=aj 3 Ce.rep
abbrev fI:=aj 1 nu
structure Hp where
  cells : List Ce
  trail : List Int
  deriving DecidableEq, Inhabited
def Hp.rep(A:Nat->Prop)(w:World)(h:Hp)(vs:List Value):Prop:=∃c t,vs=[c,t]/\pI A w h.cells c/\fI A w h.trail t
theorem Hp.aA:gz Hp.rep:=by
 refine⟨fun A w w' x vs h hk=>?_,fun A A' w x vs h hA=>?_,fun A w x vs h=>?_⟩;·obtain⟨c,t,rfl,hc,ht⟩:=h;exact⟨c,t,rfl,hc.keeps Ce.aA hk,ht.keeps aQ hk⟩
 ·obtain⟨c,t,rfl,hc,ht⟩:=h;exact⟨c,t,rfl,hc.mono Ce.aA (by omega) hA,ht.mono aQ (by omega) hA⟩
 ·obtain⟨c,t,rfl,hc,ht⟩:=h;obtain⟨_,_,_,_,rfl,_⟩:=hc.at;obtain⟨_,_,_,_,rfl,_⟩:=ht.at;simp[Value.oneCell']
theorem Hp.rep.keeps{A:Nat->Prop}{w w':World}{h:Hp}{vs:List Value}(hh:Hp.rep A w h vs)(hk:ag A w w'):Hp.rep A w' h vs:=Hp.aA.1 _ _ _ _ _ hh hk
theorem Hp.rep.below{A:Nat->Prop}{w w':World}{h:Hp}{vs:List Value}(hh:Hp.rep A w h vs)(hk:Below w.heap.size w w'):Hp.rep A w' h vs:=hh.keeps (ag.ob hk)
theorem Hp.rep.mono{A A':Nat->Prop}{w:World}{h:Hp}{vs:List Value}(hh:Hp.rep A w h vs)(hA:∀b,b<w.heap.size->A b->A' b):Hp.rep A' w h vs:=Hp.aA.2.1 _ _ _ _ _ hh hA
theorem Hp.kY{A:Nat->Prop}{w:World}{h:Hp}{vs:List Value}(hh:Hp.rep A w h vs):∃a cap b aN,vs=[.slice a h.cells.length cap,.slice b h.trail.length aN]/\h.cells.length<=cap/\cap<=maxLen/\h.cells.length<=1048576/\h.trail.length<=aN/\aN<=maxLen/\h.trail.length<=1048576/\pI A w h.cells (.slice a h.cells.length cap)/\fI A w h.trail (.slice b h.trail.length aN):=by obtain⟨c,t,rfl,hc,ht⟩:=hh;obtain⟨a,cap,_,_,rfl,h1,h2,h3, -⟩:=hc.at;obtain⟨b,aN,_,_,rfl,h4,h5,h6, -⟩:=ht.at;exact⟨a,cap,b,aN,rfl,h1,h2,h3,h4,h5,h6,hc,ht⟩
theorem ag6{w:World}{b off:Nat}{v0 v1 v2:Value}(h:ni w b off [v0,v1,v2]):w.cell? ⟨b,off,none⟩=some v0/\w.cell? ⟨b,off+1,none⟩=some v1/\w.cell? ⟨b,off+2,none⟩=some v2:=⟨h 0 _ rfl,h 1 _ rfl,h 2 _ rfl⟩
theorem vG{A:Nat->Prop}{w wr:World}{l:List Ce}{b off:Nat}(he:kM A w 3 Ce.rep l b off)(hA:A b)(hk:ag A w wr){k:Nat}(hlt:k<l.length):wr.cell? ⟨b,off+k*3,none⟩=some (.int .i64 l[k].kind)/\wr.cell? ⟨b,off+k*3+1,none⟩=some (.int .i64 l[k].n)/\wr.cell? ⟨b,off+k*3+2,none⟩=some (.string l[k].s)/\au l[k].kind/\au l[k].n/\l[k].s.size<=1048576:=by obtain⟨vs,hvl,⟨⟨h1,h2,h3⟩,rfl⟩,hrow⟩:=he k _ (aS hlt);obtain⟨c0,c1,c2⟩:=ag6 (ni.keeps hA hrow hk);exact⟨c0,c1,c2,h1,h2,h3⟩
theorem AO{A:Nat->Prop}{w wr:World}{l:List Int}{b off:Nat}(he:kM A w 1 nu l b off)(hA:A b)(hk:ag A w wr){k:Nat}(hlt:k<l.length):wr.cell? ⟨b,off+k,none⟩=some (.int .i64 l[k])/\au l[k]:=by obtain⟨vs,hvl,⟨h1,rfl⟩,hrow⟩:=he k _ (aS hlt);have :=(ni.keeps hA hrow hk) 0 _ rfl;exact⟨by simpa using this,h1⟩
theorem Ce.ext'{a b:Ce}(h1:a.kind=b.kind)(h2:a.n=b.n)(h3:a.s.toList=b.s.toList):a=b:=by obtain⟨k,n,s⟩:=a;obtain⟨k',n',s'⟩:=b;simp only at h1 h2 h3;subst h1;subst h2;congr 1;exact LK h3
def Ce.fo(n i:Nat)(c:Ce):Prop:=(c.kind=0/\0<=c.n/\c.n<n/\c.s.toList=[])\/(c.kind=1/\c.n=0/\c.s.toList≠[])\/(c.kind=2/\c.s.toList=[])\/(c.kind=3/\1<=c.n/\c.n<=4/\(i:Int)+c.n<n/\c.s.toList≠[])
def gB(l:List Ce):Prop:=∀(i:Nat)(h:i<l.length),(l[i]).fo l.length i
def ag7(l:List Ce)(t:List Int):Prop:=∀(j:Nat)(h:j<t.length),∃v:Nat,t[j]=(v:Int)/\∃hv:v<l.length,(l[v]).kind=0
def Hp.Good(h:Hp):Prop:=gB h.cells/\ag7 h.cells h.trail/\h.cells.length<=65536/\h.trail.length<=65536
def cellAt(l:List Ce)(a:Int):Ce:=(l[a.toNat]?).getD default
theorem iQ{l:List Ce}{k:Nat}(h:k<l.length):cellAt l (k:Int)=l[k]:=by unfold cellAt;rw[dB,aS h];rfl
def Stop(l:List Ce)(a:Int):Prop:=(cellAt l a).kind≠0\/(cellAt l a).n=a
instance(l:List Ce)(a:Int):Decidable (Stop l a):=by unfold Stop;infer_instance
def Inb(l:List Ce)(a:Int):Prop:=0<=a/\a<l.length
instance(l:List Ce)(a:Int):Decidable (Inb l a):=by unfold Inb;infer_instance
def nz(l:List Ce):Nat->Int->Int|0,_=> -1|k+1,a=>if ¬Inb l a then -1 else if Stop l a then a else nz l k (cellAt l a).n
def look(l:List Ce)(a:Int):Int:=nz l (l.length+1) a
inductive Looks (l : List Ce) : Int → Int → Prop where
  | stop {a : Int} : Inb l a → Stop l a → Looks l a a
  | next {a x : Int} : Inb l a → ¬ Stop l a → Looks l (cellAt l a).n x → Looks l a x
theorem Looks.end_{l:List Ce}{a x:Int}(h:Looks l a x):Inb l x/\Stop l x:=by induction h with|stop h1 h2=>exact⟨h1,h2⟩|next _ _ _ ih=>exact ih
theorem Looks.lW{l:List Ce}{a x:Int}(h:Looks l a x):0<=x:=h.end_.1.1
theorem Looks.start{l:List Ce}{a x:Int}(h:Looks l a x):Inb l a:=by cases h<;>assumption
theorem Looks.H6{l:List Ce}{a x y:Int}(h:Looks l a x)(h':Looks l a y):x=y:=by induction h with
 |stop h1 h2=>cases h' with|stop=>rfl|next _ h=>exact absurd h2 h
 |next h1 h2 _ ih=>cases h' with|stop _ h=>exact absurd h h2|next _ _ h=>exact ih h
theorem Yi{l:List Ce}:∀(k:Nat)(a:Int),0<=nz l k a->Looks l a (nz l k a)
 |0,a,h=>by simp[nz]at h
 |k+1,a,h=>by
  unfold nz at h ⊢;by_cases h1:Inb l a
  ·by_cases h2:Stop l a;·simp only[h1,h2,not_true,if_false,if_true];exact .stop h1 h2
   ·simp only[h1,h2,not_true,if_false]at h ⊢;exact .next h1 h2 (Yi k _ h)
  ·simp[h1]at h
theorem QF:∀(n:Nat)(s:List Int),s.Nodup->(∀x∈s,0<=x/\x<n)->s.length<=n
 |0,s,_,h=>by cases s with|nil=>simp|cons x r=>have :=h x (by simp);omega
 |n+1,s,hn,h=>by have h1:=QF n (s.erase (n:Int)) (hn.erase _) (fun x hx=>by have h2:=(List.Nodup.mem_erase_iff hn).1 hx;have h3:=h x h2.2;omega);have h4:=@List.length_erase Int _ _ (n:Int) s;split at h4<;>omega
def Way(l:List Ce)(a:Int)(s:List Int)(b:Int):Prop:=s.Nodup/\(∀x∈s,Inb l x/\¬Stop l x/\((cellAt l x).n∈s\/(cellAt l x).n=b))/\(∀x,Looks l b x↔Looks l a x)/\(a∈s\/a=b)
theorem Way.start(l:List Ce)(a:Int):Way l a [] a:=⟨List.nodup_nil,fun x h=>by simp at h,fun x=>Hl,.inr rfl⟩
theorem Way.len{l:List Ce}{a b:Int}{s:List Int}(h:Way l a s b):s.length<=l.length:=QF _ s h.1 fun x hx=>(h.2.1 x hx).1
theorem Way.step{l:List Ce}{a b:Int}{s:List Int}(h:Way l a s b)(hb:b∉s)(h1:Inb l b)(h2:¬Stop l b):Way l a (s++[b]) (cellAt l b).n:=by
 refine⟨?_,?_,?_,?_⟩;·rw[agv];refine⟨h.1,by simp,?_⟩;intro x hx y hy e;simp at hy;subst hy;subst e;exact hb hx
 ·intro x hx;rw[gy]at hx;rcases hx with hx|hx
  ·obtain⟨k1,k2,k3⟩:=h.2.1 x hx;refine⟨k1,k2,?_⟩;rcases k3 with k3|k3;·exact .inl (by simp[k3])
   ·exact .inl (by simp[k3])
  ·simp at hx;subst hx;exact⟨h1,h2,.inr rfl⟩
 ·intro x;rw[<-h.2.2.1 x];refine⟨fun k=> .next h1 h2 k,fun k=>?_⟩;cases k with|stop _ k=>exact absurd k h2|next _ _ k=>exact k
 ·rcases h.2.2.2 with k|k;·exact .inl (by simp[k])
  ·exact .inl (by simp[k])
theorem ag8{l:List Ce}{s:List Int}(h:∀x∈s,Inb l x/\¬Stop l x/\(cellAt l x).n∈s){a x:Int}(hl:Looks l a x):a∉s:=by induction hl with|stop h1 h2=>exact fun hm=>(h _ hm).2.1 h2|next h1 h2 _ ih=>exact fun hm=>ih (h _ hm).2.2
theorem Way.again{l:List Ce}{a b:Int}{s:List Int}(h:Way l a s b)(hb:b∈s)(x:Int):¬Looks l a x:=by
 rw[<-h.2.2.1 x];intro hl;exact ag8 (s:=s) (fun y hy=>by
  obtain⟨k1,k2,k3⟩:=h.2.1 y hy;refine⟨k1,k2,?_⟩;rcases k3 with k3|k3;·exact k3
  ·rw[k3];exact hb) hl hb
theorem Yj{l:List Ce}:∀(k:Nat)(a b:Int)(s:List Int),Way l a s b->b∉s->s.length+k=l.length+1->∀x,Looks l a x->nz l k b=x
 |0,a,b,s,hw,hb,hk,x,hl=>by have :=hw.len;omega
 |k+1,a,b,s,hw,hb,hk,x,hl=>by
  have hl':=(hw.2.2.1 x).2 hl;unfold nz;have h1:=hl'.start;simp only[h1,not_true,if_false];by_cases h2:Stop l b;·simp only[h2,if_true];exact(Looks.stop h1 h2).H6 hl'
  ·simp only[h2,if_false];have hw2:=hw.step hb h1 h2;have hnot:(cellAt l b).n∉s++[b]:=fun hm=>hw2.again hm x hl;exact Yj k a _ _ hw2 hnot (by simp;omega) x hl
theorem il{l:List Ce}{a x:Int}(h:Looks l a x):look l a=x:=Yj _ a a [] (Way.start l a) (by simp) (by simp) x h
theorem ag9{l:List Ce}{a x:Int}(h0:0<=x):look l a=x↔Looks l a x:=by refine⟨fun h=>?_,il⟩;have :=Yi (l:=l) (l.length+1) a (by unfold look at h;omega);unfold look at h;rw[h]at this;exact this
theorem Yk{l:List Ce}:∀(k:Nat)(a:Int), -1<=nz l k a
 |0,a=>by simp[nz]
 |k+1,a=>by
  unfold nz;split;·omega
  ·split;·rename_i h _;have :=h;unfold Inb at this;omega
   ·exact Yk k _
theorem LU(l:List Ce)(a:Int): -1<=look l a:=Yk _ _
theorem QG{l:List Ce}{a:Int}(h:0<=look l a):Looks l a (look l a):=(ag9 h).1 rfl
theorem H7{l:List Ce}{a:Int}(h:0<=look l a):Inb l (look l a)/\Stop l (look l a):=(QG h).end_
def argsAt(a:Int)(n:Int):List Int:=(List.range n.toNat).map fun i=>a+1+(i:Nat)
def bK(l:List Ce)(v:Int):Nat->List Int->Bool×Int|w,[]=>(false,w)|0,_::_=>(false, -1)|w+1,z::r=>if look l z<0 then(false, -1)else if(cellAt l (look l z)).kind=0 then(if look l z=v then(true,w)else bK l v w r)else if(cellAt l (look l z)).kind=3 then bK l v w (argsAt (look l z) (cellAt l (look l z)).n++r)else bK l v w r
theorem EF(l:List Ce)(v:Int)(w:Nat):bK l v w []=(false,(w:Int)):=by cases w<;>rfl
theorem EG(l:List Ce)(v:Int):∀(w:Nat)(s:List Int),(bK l v w s).2<=w/\ -1<=(bK l v w s).2
 |w,[]=>by rw[EF];exact⟨qA _,by simp only;omega⟩
 |0,z::r=>by simp[bK]
 |w+1,z::r=>by
  unfold bK;have h1:=EG l v w r;have h2:=EG l v w (argsAt (look l z) (cellAt l (look l z)).n++r);split;·simp;omega
  ·split
   ·split;·simp;omega
    ·omega
   ·split<;>omega
theorem H8(l:List Ce)(v:Int):∀(w:Nat)(s r:List Int),bK l v w (s++r)=if(bK l v w s).1=true\/(bK l v w s).2<0 then bK l v w s else bK l v (bK l v w s).2.toNat r
 |w,[],r=>by simp[EF];omega
 |0,z::s,r=>by simp[bK]
 |w+1,z::s,r=>by
  rw[mE];rw[bK.eq_def l v (w+1) (z::(s++r)),bK.eq_def l v (w+1) (z::s)];simp only;have h1:=H8 l v w s r;have h2:=H8 l v w (argsAt (look l z) (cellAt l (look l z)).n++s) r;rw[Au]at h2;split;·simp
  ·split
   ·split;·simp
    ·exact h1
   ·split;·exact h2
    ·exact h1
theorem H9(l:List Ce)(v:Int):∀(w:Nat)(s:List Int),(bK l v w s).1=true->0<=(bK l v w s).2
 |w,[],h=>by rw[EF]at h ⊢;simp at h
 |0,z::r,h=>by simp[bK]at h
 |w+1,z::r,h=>by
  unfold bK at h ⊢;have h1:=H9 l v w r;have h2:=H9 l v w (argsAt (look l z) (cellAt l (look l z)).n++r);split at h;·simp at h
  ·rename_i k1;simp only[k1,if_false];split at h
   ·rename_i k2;simp only[k2,if_true];split at h;·rename_i k3;simp only[k3,if_true];omega
    ·rename_i k3;simp only[k3,if_false];exact h1 h
   ·rename_i k2;simp only[k2,if_false];split at h;·rename_i k3;simp only[k3,if_true];exact h2 h
    ·rename_i k3;simp only[k3,if_false];exact h1 h
structure Un where
  ok : Bool
  cells : List Ce
  trail : List Int
  work : Int
  deriving DecidableEq, Inhabited
def eQ(l:List Ce)(v a:Int):List Ce:=l.modify v.toNat fun c=>{c with n:=a}
def aY(w:Nat)(s:List (Int×Int))(l:List Ce)(t:List Int):Un:=match w,s with|w,[]=>⟨true,l,t,w⟩|0,_::_=>⟨false,l,t, -1⟩|w+1,(a,b)::r=>let x:=look l a;let y:=look l b;if x<0\/y<0 then⟨false,l,t, -1⟩else if(cellAt l x).kind=0/\(cellAt l y).kind=0 then(if x=y then aY w r l t else aY w r (eQ l (max x y) (min x y)) (t++[max x y]))else if(cellAt l x).kind=0\/(cellAt l y).kind=0 then let v:=if(cellAt l y).kind=0 then y else x;let z:=if(cellAt l y).kind=0 then x else y;let p:=bK l v w [z];if p.1=true\/p.2<0 then⟨false,l,t,p.2⟩else aY (min w p.2.toNat) r (eQ l v z) (t++[v])else if cellAt l x≠cellAt l y then⟨false,l,t,w⟩else if(cellAt l x).kind=3 then aY w ((argsAt x (cellAt l x).n).zip (argsAt y (cellAt l x).n)++r) l t else aY w r l t termination_by w decreasing_by all_goals omega
theorem EH(w:Nat)(l:List Ce)(t:List Int):aY w [] l t=⟨true,l,t,w⟩:=by cases w<;>simp[aY]
theorem Ia(p:Int×Int)(r:List (Int×Int))(l:List Ce)(t:List Int):aY 0 (p::r) l t=⟨false,l,t, -1⟩:=by simp[aY]
theorem Yl : ∀ (w : Nat) (s : List (Int × Int)) (l : List Ce) (t : List Int),(aY w s l t).work ≤ w ∧ -1 ≤ (aY w s l t).work ∧ ((aY w s l t).ok = true → 0 ≤ (aY w s l t).work) :=by
 intro w;induction w using Nat.strongRecOn with
  | _ w ih=>
   intro s l t;match w,s,ih with
    | w,[],_=>rw [EH];exact ⟨qA _,by simp only;omega,fun _=>by simp only;omega⟩
    | 0,_ :: _,_=>simp [Ia]
    | w + 1,(a,b) :: r,ih=>
     have ih' : ∀ w' ≤ w,∀ (s : List (Int × Int)) (l : List Ce) (t : List Int),(aY w' s l t).work ≤ (w + 1 : Nat) ∧ -1 ≤ (aY w' s l t).work ∧ ((aY w' s l t).ok = true → 0 ≤ (aY w' s l t).work) :=fun w' h s l t=>by obtain ⟨h1,h2,h3⟩ :=ih w' (by omega) s l t;exact ⟨by omega,h2,h3⟩
     rw [aY];simp only;split;·simp;omega
     ·split
      ·split;·exact ih' w (by omega) _ _ _
       ·exact ih' w (by omega) _ _ _
      ·split
       ·generalize hp : bK l (if (cellAt l (look l b)).kind = 0 then look l b else look l a) w [if (cellAt l (look l b)).kind = 0 then look l a else look l b] = p;have h1:=EG l (if (cellAt l (look l b)).kind = 0 then look l b else look l a) w [if (cellAt l (look l b)).kind = 0 then look l a else look l b];rw [hp] at h1;split;·refine ⟨?_,?_,fun h=>by simp at h⟩ <;> simp only <;> omega
        ·exact ih' _ (by omega) _ _ _
       ·split;·refine ⟨?_,?_,fun h=>by simp at h⟩ <;> simp only <;> omega
        ·split;·exact ih' w (by omega) _ _ _
         ·exact ih' w (by omega) _ _ _
theorem Ym:∀(w:Nat)(s r:List (Int×Int))(l:List Ce)(t:List Int),aY w (s++r) l t=if(aY w s l t).ok=true then aY (aY w s l t).work.toNat r (aY w s l t).cells (aY w s l t).trail else aY w s l t:=by
 intro w;induction w using Nat.strongRecOn with
  |_ w ih=>
   intro s r l t;match w,s,ih with
    |w,[],_=>simp[EH]
    |0,_::_,_=>simp[Ia]
    |w+1,(a,b)::s,ih=>
     rw[mE];rw[aY.eq_def (w+1) ((a,b)::(s++r)),aY.eq_def (w+1) ((a,b)::s)];simp only;split;·simp
     ·split
      ·split;·exact ih w (by omega) s r l t
       ·exact ih w (by omega) s r _ _
      ·split
       ·generalize bK l (if(cellAt l (look l b)).kind=0 then look l b else look l a) w [if(cellAt l (look l b)).kind=0 then look l a else look l b]=p;by_cases hp:p.1=true\/p.2<0;·rw[ah hp,ah hp];rfl
        ·rw[ae hp,ae hp];exact ih (min w p.2.toNat) (by omega) s r _ _
       ·split;·simp
        ·split;·rw[<-Au];exact ih w (by omega) _ r l t
         ·exact ih w (by omega) s r l t
theorem Ib(l:List Ce)(v a:Int):(eQ l v a).length=l.length:=by simp[eQ]
theorem mJ{l:List Ce}{a:Int}(h:Inb l a):∃k:Nat,a=(k:Int)/\∃hk:k<l.length,cellAt l a=l[k]:=by obtain⟨h1,h2⟩:=h;obtain⟨k,rfl⟩:=eu h1;exact⟨k,rfl,by omega,iQ (by omega)⟩
theorem ui{l:List Ce}{v a y:Int}(hv:Inb l v)(hy:Inb l y):cellAt (eQ l v a) y=if y=v then{cellAt l v with n:=a}else cellAt l y:=by
 obtain⟨k,rfl,hk,e1⟩:=mJ hv;obtain⟨j,rfl,hj,e2⟩:=mJ hy;rw[e1,e2,iQ (by rw[Ib];exact hj)];simp only[eQ,dB,Qe];by_cases h:k=j;·subst h;simp
 ·rw[ae h,ae (by omega)]
theorem CG{l:List Ce}{v a y:Int}:Inb (eQ l v a) y↔Inb l y:=by unfold Inb;rw[Ib]
def gD(l:List Ce)(v:Int):Prop:=Inb l v/\(cellAt l v).kind=0/\(cellAt l v).n=v
theorem gD.stop{l:List Ce}{v:Int}(h:gD l v):Stop l v:= .inr h.2.2
theorem Looks.free{l:List Ce}{a x:Int}(h:Looks l a x)(hk:(cellAt l x).kind=0):gD l x:=by
 obtain⟨h1,h2⟩:=h.end_;refine⟨h1,hk,?_⟩;rcases h2 with h2|h2;·exact absurd hk h2
 ·exact h2
theorem QH{l:List Ce}{v a x:Int}(hv:Inb l v)(hx:Inb l x)(hs:Stop l x)(hne:x≠v):Stop (eQ l v a) x:=by unfold Stop at hs ⊢;rw[ui hv hx,ae hne];exact hs
theorem EI{l:List Ce}{v t:Int}(hv:gD l v)(ht:Inb l t)(hs:Stop l t)(hne:t≠v){a x:Int}(h:Looks l a x):Looks (eQ l v t) a (if x=v then t else x):=by
 have htt:Looks (eQ l v t) t t:= .stop (CG.2 ht) (QH hv.1 ht hs hne);induction h with
  |@stop a h1 h2=>
   by_cases e:a=v
   ·subst e;rw[ah rfl];refine .next (CG.2 h1) ?_ ?_;·unfold Stop;rw[ui hv.1 h1,ah rfl];have :=hv.2.1;simp only;omega
    ·rw[ui hv.1 h1,ah rfl];exact htt
   ·rw[ae e];exact .stop (CG.2 h1) (QH hv.1 h1 h2 e)
  |@next a x h1 h2 _ ih=>
   have e:a≠v:=fun e=>h2 (e▸hv.stop);refine .next (CG.2 h1) ?_ ?_;·unfold Stop at h2 ⊢;rw[ui hv.1 h1,ae e];exact h2
   ·rw[ui hv.1 h1,ae e];exact ih
theorem ahb{w:Nat}{a b:Int}{r:List (Int×Int)}{l:List Ce}{t:List Int}(h:(aY (w+1) ((a,b)::r) l t).ok=true):∃x y,Looks l a x/\Looks l b y/\((x=y/\(cellAt l x).kind=0/\aY (w+1) ((a,b)::r) l t=aY w r l t)\/(∃v z w',w'<=w/\((v=x/\z=y)\/(v=y/\z=x))/\gD l v/\Inb l z/\Stop l z/\z≠v/\aY (w+1) ((a,b)::r) l t=aY w' r (eQ l v z) (t++[v]))\/((cellAt l x).kind≠0/\cellAt l x=cellAt l y/\(cellAt l x).kind=3/\aY (w+1) ((a,b)::r) l t=aY w ((argsAt x (cellAt l x).n).zip (argsAt y (cellAt l x).n)++r) l t)\/((cellAt l x).kind≠0/\cellAt l x=cellAt l y/\(cellAt l x).kind≠3/\aY (w+1) ((a,b)::r) l t=aY w r l t)):=by
 rw[aY]at h ⊢;simp only at h ⊢;by_cases h1:look l a<0\/look l b<0;·rw[ah h1]at h;simp at h
 ·rw[ae h1]at h ⊢;have hx:=QG (l:=l) (a:=a) (by omega);have hy:=QG (l:=l) (a:=b) (by omega);refine⟨look l a,look l b,hx,hy,?_⟩;generalize look l a=x at h h1 hx ⊢;generalize look l b=y at h h1 hy ⊢;by_cases h2:(cellAt l x).kind=0/\(cellAt l y).kind=0
  ·rw[ah h2]at h ⊢;by_cases h3:x=y;·rw[ah h3]at h ⊢;exact .inl ⟨h3,h2.1,rfl⟩
   ·rw[ae h3]at h ⊢;refine .inr (.inl ⟨max x y,min x y,w,zL _,by omega,?_,?_,?_,by omega,rfl⟩)
    ·have :=hx.free h2.1;have :=hy.free h2.2;rcases Int.le_total x y with k|k;·rw[XI k];assumption
     ·rw[XM k];assumption
    ·rcases Int.le_total x y with k|k;·rw[XL k];exact hx.end_.1
     ·rw[XH k];exact hy.end_.1
    ·rcases Int.le_total x y with k|k;·rw[XL k];exact hx.end_.2
     ·rw[XH k];exact hy.end_.2
  ·rw[ae h2]at h ⊢;by_cases h3:(cellAt l x).kind=0\/(cellAt l y).kind=0
   ·rw[ah h3]at h ⊢;generalize bK l (if(cellAt l y).kind=0 then y else x) w [if(cellAt l y).kind=0 then x else y]=p at h ⊢;by_cases h4:p.1=true\/p.2<0;·rw[ah h4]at h;simp at h
    ·rw[ae h4]at h ⊢;refine .inr (.inl ⟨_,_,min w p.2.toNat,Nat.min_le_left _ _,?_,?_,?_,?_,?_,rfl⟩)
     ·by_cases h5:(cellAt l y).kind=0;·rw[ah h5,ah h5];exact .inr ⟨rfl,rfl⟩
      ·rw[ae h5,ae h5];exact .inl ⟨rfl,rfl⟩
     ·by_cases h5:(cellAt l y).kind=0;·simp only[h5,if_true];exact hy.free h5
      ·simp only[h5,if_false];exact hx.free (h3.resolve_right h5)
     ·split;·exact hx.end_.1
      ·exact hy.end_.1
     ·split;·exact hx.end_.2
      ·exact hy.end_.2
     ·by_cases h5:(cellAt l y).kind=0;·simp only[h5,if_true];rintro rfl;exact h2 ⟨h5,h5⟩
      ·simp only[h5,if_false];rintro rfl;exact h5 (h3.resolve_right h5)
   ·rw[ae h3]at h ⊢;by_cases h4:cellAt l x≠cellAt l y;·rw[ah h4]at h;simp at h
    ·rw[ae h4]at h ⊢;have h4':cellAt l x=cellAt l y:=agz.1 h4;by_cases h5:(cellAt l x).kind=3;·rw[ah h5];exact .inr (.inr (.inl ⟨fun e=>h3 (.inl e),h4',h5,rfl⟩))
     ·rw[ae h5];exact .inr (.inr (.inr ⟨fun e=>h3 (.inl e),h4',h5,rfl⟩))
def gK(l:List Ce)(vs:List Int):List Ce:=l.mapIdx fun i c=>if(i:Int)∈vs then{c with n:=i}else c
theorem rP(l:List Ce)(vs:List Int):(gK l vs).length=l.length:=by simp[gK]
theorem Yn(l:List Ce):gK l []=l:=by apply lV (by simp[gK]);intro i h1 h2;simp[gK]
theorem Ic(l:List Ce)(vs:List Int)(i:Nat)(h:i<(gK l vs).length):(gK l vs)[i]=if(i:Int)∈vs then{(l[i]'(by rw[rP]at h;exact h))with n:=i}else l[i]'(by rw[rP]at h;exact h):=by simp[gK]
theorem ahc(l:List Ce)(vs:List Int)(v:Int)(h0:0<=v)(us:List Int)(nY:∀x,x∈us↔x∈vs\/x=v):(gK l vs).modify v.toNat (fun c=>{c with n:=v})=gK l us:=by
 apply lV (by simp[gK]);intro i h1 h2;rw[Qe,Ic,Ic];by_cases e:v.toNat=i
 ·have :(i:Int)=v:=by omega
  rw[ah e,ah ((nY _).2 (.inr this))];subst this;split<;>rfl
 ·rw[ae e];have h3:(i:Int)∈us↔(i:Int)∈vs:=by
   rw[nY];refine⟨fun h=>?_,.inl⟩;rcases h with h|h;·exact h
   ·omega
  by_cases h4:(i:Int)∈vs;·rw[ah h4,ah (h3.2 h4)]
  ·rw[ae h4,ae (fun h=>h4 (h3.1 h))]
def nZ(l:List Ce)(vs:List Int)(l':List Ce):Prop:=l'.length=l.length/\∀(i:Nat)(h:i<l.length)(h':i<l'.length),((i:Int)∉vs/\l'[i]=l[i])\/((i:Int)∈vs/\(l[i]).kind=0/\(l[i]).n=i/\∃n:Int,0<=n/\n<l.length/\l'[i]={l[i]with n:=n})
theorem nZ.refl(l:List Ce):nZ l [] l:=⟨rfl,fun i _ _=> .inl ⟨by simp,rfl⟩⟩
theorem nZ.step{l l':List Ce}{v z:Int}{vs:List Int}(hv:gD l v)(hz:Inb l z)(hzv:z≠v)(h:nZ (eQ l v z) vs l'):nZ l (v::vs) l':=by
 obtain⟨h1,h2⟩:=h;rw[Ib]at h1;refine⟨h1,fun i hi hi'=>?_⟩;obtain⟨k,rfl,hk,e⟩:=mJ hv.1;have h3:=hv.2;rw[e]at h3;have h4:=h2 i (by rw[Ib];exact hi) hi';simp only[eQ,dB,Qe,List.length_modify]at h4;by_cases hik:k=i
 ·subst hik;simp only[if_true]at h4;have hm:(k:Int)∉vs->l'[k]={l[k]with n:=z}:=fun hn=>by
   rcases h4 with⟨_,h4⟩|⟨h4,_⟩;·exact h4
   ·exact absurd h4 hn
  by_cases hin:(k:Int)∈vs
  ·exfalso;rcases h4 with⟨h4,_⟩|⟨_,_,h4,_⟩;·exact h4 hin
   ·exact hzv h4
  ·exact .inr ⟨by simp,h3.1,h3.2,z,hz.1,hz.2,hm hin⟩
 ·simp only[hik,if_false]at h4;rcases h4 with⟨h4,h5⟩|⟨h4,h5⟩;·refine .inl ⟨?_,h5⟩;simp only[iG,h4,vD];omega
  ·exact .inr ⟨by simp[h4],h5⟩
theorem nZ.good{l l':List Ce}{vs:List Int}(h:nZ l vs l')(hg:gB l):gB l':=by
 intro i hi;have hi':i<l.length:=by rw[<-h.1];exact hi
 have h1:=hg i hi';rw[h.1];rcases h.2 i hi' hi with⟨_,k2⟩|⟨_,k2,k3,n,k4,k5,k6⟩;·rw[k2];exact h1
 ·rw[k6];unfold Ce.fo at h1 ⊢;simp only;rcases h1 with h1|h1|h1|h1;·exact .inl ⟨h1.1,k4,k5,h1.2.2.2⟩
  ·omega
  ·omega
  ·omega
theorem nZ.kind{l l':List Ce}{vs:List Int}(h:nZ l vs l')(i:Nat)(hi:i<l.length)(hi':i<l'.length):(l'[i]).kind=(l[i]).kind:=by
 rcases h.2 i hi hi' with⟨_,k2⟩|⟨_,k2,k3,n,k4,k5,k6⟩;·rw[k2]
 ·rw[k6]
theorem LV:∀(w:Nat)(s:List (Int×Int))(l:List Ce)(t:List Int),(aY w s l t).ok=true->∃vs,(aY w s l t).trail=t++vs/\nZ l vs (aY w s l t).cells/\(∀v∈vs,Inb l v)/\vs.length<=w:=by
 intro w;induction w using Nat.strongRecOn with
  |_ w ih=>
   intro s l t h;match w,s,ih,h with
    |w,[],_,_=>rw[EH];exact⟨[],by simp,nZ.refl l,by simp,by simp⟩
    |0,_::_,_,h=>rw[Ia]at h;simp at h
    |w+1,(a,b)::r,ih,h=>
     obtain⟨x,y,hx,hy,⟨hxy,_,e⟩|⟨v,z,w',hw,hvz,h1,h2,h3,h4,e⟩|⟨hk,hc,h3,e⟩|⟨hk,hc,h3,e⟩⟩:=ahb h;·rw[e]at h ⊢;obtain⟨vs,k1,k2,k3,k4⟩:=ih w (by omega) _ _ _ h;exact⟨vs,k1,k2,k3,by omega⟩
     ·rw[e]at h ⊢;obtain⟨vs,k1,k2,k3,k4⟩:=ih w' (by omega) _ _ _ h;refine⟨v::vs,by rw[k1,Au];rfl,k2.step h1 h2 h4,fun u hu=>?_,by simp;omega⟩;rcases iG.1 hu with rfl|hu;·exact h1.1
      ·exact CG.1 (k3 u hu)
     ·rw[e]at h ⊢;obtain⟨vs,k1,k2,k3,k4⟩:=ih w (by omega) _ _ _ h;exact⟨vs,k1,k2,k3,by omega⟩
     ·rw[e]at h ⊢;obtain⟨vs,k1,k2,k3,k4⟩:=ih w (by omega) _ _ _ h;exact⟨vs,k1,k2,k3,by omega⟩
def dX(l:List Ce)(w:Nat)(s:List Int):Option (List Tm×Nat):=match w,s with|w,[]=>some ([],w)|0,_::_=>none|w+1,a::r=>let x:=look l a;let c:=cellAt l x;if x<0 then none else if c.kind=3 then match dX l w (argsAt x c.n)with|none=>none|some (ts,w1)=>match dX l (min w w1) r with|none=>none|some (rs,w2)=>some (.mk 3 0 c.s ts::rs,w2)else match dX l w r with|none=>none|some (rs,w2)=>some ((if c.kind=0 then .mk 0 x .empty []else .mk c.kind c.n c.s [])::rs,w2)termination_by w decreasing_by all_goals omega
theorem yK(l:List Ce)(w:Nat):dX l w []=some ([],w):=by cases w<;>simp[dX]
theorem Ie(l:List Ce)(a:Int)(r:List Int):dX l 0 (a::r)=none:=by simp[dX]
theorem EJ(l:List Ce):∀(w:Nat)(s:List Int)(ts:List Tm)(w':Nat),dX l w s=some (ts,w')->w'<=w/\ts.length=s.length:=by
 intro w;induction w using Nat.strongRecOn with
  |_ w ih=>
   intro s ts w' h;match w,s,ih,h with
    |w,[],_,h=>rw[yK]at h;simp at h;obtain⟨rfl,rfl⟩:=h;simp
    |0,_::_,_,h=>rw[Ie]at h;cases h
    |w+1,a::r,ih,h=>
     rw[dX]at h;try simp only at h
     split at h;·simp at h
     ·split at h
      ·split at h;·simp at h
       ·rename_i _ _ EK w1 h1;have k1:=ih w (by omega) _ _ _ h1;rw[Eu k1.1]at h;split at h;·simp at h
        ·rename_i _ rs w2 h2;have k2:=ih w1 (by omega) _ _ _ h2;simp only[cZ,fG]at h;obtain⟨rfl,rfl⟩:=h;simp only[bn];omega
      ·split at h;·simp at h
       ·rename_i _ rs w2 h2;have k2:=ih w (by omega) _ _ _ h2;simp only[cZ,fG]at h;obtain⟨rfl,rfl⟩:=h;simp only[bn];omega
theorem ahd(a n:Int):(argsAt a n).length=n.toNat:=by simp[argsAt]
def yL(l:List Ce)(i j:Nat):Prop:=((cellAt l i).kind=0/\(cellAt l i).n=j)\/((cellAt l i).kind=3/\i<j/\(j:Int)<=i+(cellAt l i).n)
inductive Reach (l : List Ce) (roots : List Int) : Nat → Prop where
  | root {i : Nat} : (i : Int) ∈ roots → i < l.length → Reach l roots i
  | step {i j : Nat} : Reach l roots i → yL l i j → Reach l roots j
open Classical in noncomputable def marks(l:List Ce)(roots:List Int):List Bool:=(List.range l.length).map fun i=>decide (Reach l roots i)
theorem QI(l:List Ce)(roots:List Int):(marks l roots).length=l.length:=by simp[marks]
theorem rQ{l:List Ce}{roots:List Int}{i:Nat}(h:i<l.length):(marks l roots)[i]?=some true↔Reach l roots i:=by simp[marks,h]
theorem gB.leads{l:List Ce}(hg:gB l){i j:Nat}(hi:i<l.length)(h:yL l i j):j<l.length:=by have h1:=hg i hi;unfold yL at h;rw[iQ hi]at h;unfold Ce.fo at h1;omega
theorem Reach.lt{l:List Ce}{roots:List Int}(hg:gB l){i:Nat}(h:Reach l roots i):i<l.length:=by induction h with|root _ h=>exact h|step _ h ih=>exact hg.leads ih h
theorem ahe{l:List Ce}{roots:List Int}{M:Nat->Prop}(hr:∀i:Nat,(i:Int)∈roots->i<l.length->M i)(hc:∀i j,M i->yL l i j->M j){i:Nat}(h:Reach l roots i):M i:=by induction h with|root h1 h2=>exact hr _ h1 h2|step _ h ih=>exact hc _ _ ih h
theorem ahf{l:List Ce}{roots:List Int}(hg:gB l){m:List Bool}(hl:m.length=l.length)(hr:∀i:Nat,(i:Int)∈roots->i<l.length->m[i]?=some true)(hc:∀i j,m[i]?=some true->yL l i j->m[j]?=some true)(hs:∀i,m[i]?=some true->Reach l roots i):m=marks l roots:=by
 apply lV (by rw[hl,QI]);intro i h1 h2;have h3:i<l.length:=by rw[<-hl];exact h1
 have h4:=rQ (roots:=roots) h3;rw[aS h2]at h4;by_cases h:Reach l roots i;·have h5:=ahe (M:=fun i=>m[i]?=some true) hr hc h;rw[aS h1]at h5;have h6:=h4.2 h;simp only[cZ]at h5 h6;rw[h5,h6]
 ·have h5:¬m[i]?=some true:=fun e=>h (hs i e);have h6:¬some (marks l roots)[i]=some true:=fun e=>h (h4.1 e);rw[aS h1]at h5;simp only[cZ,Bool.not_eq_true]at h5 h6;rw[h5,h6]
def cnt(m:List Bool):Nat->Nat|0=>0|k+1=>if m[k]?=some true then cnt m k+1 else cnt m k
theorem pJ(m:List Bool):∀k,cnt m k<=k|0=>zL _|k+1=>by have :=pJ m k;unfold cnt;split<;>omega
theorem cnt_mono(m:List Bool)(i:Nat):∀d,cnt m i<=cnt m (i+d)|0=>zL _|d+1=>by have :=cnt_mono m i d;rw[<-XO,cnt];split<;>omega
theorem EL{m:List Bool}{i j:Nat}(h:i<=j):cnt m i<=cnt m j:=by have :=cnt_mono m i (j - i);rw[show i+(j - i)=j by omega]at this;exact this
theorem cnt_lt{m:List Bool}{i j:Nat}(h:i<j)(hi:m[i]?=some true):cnt m i<cnt m j:=by have h1:=EL (m:=m) (show i+1<=j from h);rw[cnt,ah hi]at h1;omega
theorem ahg{m:List Bool}(j:Nat):cnt m (m.length+j)=cnt m m.length:=by induction j with|zero=>rfl|succ j ih=>rw[<-XO,cnt,ae (by simp),ih]
theorem ahh(m:List Bool)(k:Nat):cnt m (min k m.length)=cnt m k:=by
 by_cases h:k<=m.length;·rw[Lv h]
 ·rw[Eu (by omega)];have :=ahg (m:=m) (k - m.length);rw[show m.length+(k - m.length)=k by omega]at this;exact this.symm
theorem Ig{m:List Bool}:∀(n j:Nat),j<cnt m n->∃i,i<n/\m[i]?=some true/\cnt m i=j
 |0,j,h=>by simp[cnt]at h
 |n+1,j,h=>by
  unfold cnt at h;split at h
  ·rename_i hm;by_cases hj:j<cnt m n;·obtain⟨i,h1,h2,h3⟩:=Ig n j hj;exact⟨i,by omega,h2,h3⟩
   ·exact⟨n,by omega,hm,by omega⟩
  ·obtain⟨i,h1,h2,h3⟩:=Ig n j h;exact⟨i,by omega,h2,h3⟩
def ahead(m:List Bool)(n:Int):Int:=cnt m n.toNat
def mK(m:List Bool)(c:Ce):Ce:=if c.kind=0 then{c with n:=ahead m c.n}else c
def ja(l:List Ce)(m:List Bool):Nat->List Ce|0=>[]|k+1=>if m[k]?=some true then ja l m k++[mK m (cellAt l k)]else ja l m k
def aT(m:List Bool)(t:List Int):List Bool:=t.map fun v=>(m[v.toNat]?).getD false
def jr(m:List Bool)(t:List Int):Nat->List Int|0=>[]|k+1=>if(aT m t)[k]?=some true then jr m t k++[ahead m ((t[k]?).getD 0)]else jr m t k
theorem oh(l:List Ce)(m:List Bool):∀k,(ja l m k).length=cnt m k|0=>rfl|k+1=>by have :=oh l m k;unfold ja cnt;split<;>simp[this]
theorem rR(m:List Bool)(t:List Int):∀k,(jr m t k).length=cnt (aT m t) k|0=>rfl|k+1=>by have :=rR m t k;unfold jr cnt;split<;>simp[this]
theorem Yo(l:List Ce)(m:List Bool):∀(k i:Nat),i<k->m[i]?=some true->(ja l m k)[cnt m i]?=some (mK m (cellAt l i))
 |k+1,i,h,hi=>by
  by_cases e:i=k;·subst e;rw[ja,ah hi,vw (by rw[oh];exact zL _),oh];simp
  ·have ih:=Yo l m k i (by omega) hi;have hlt:cnt m i<(ja l m k).length:=by rw[oh];exact cnt_lt (by omega) hi
   rw[ja];split;·rw[tV hlt,ih]
   ·exact ih
theorem Yp(m:List Bool)(t:List Int):∀(k i:Nat),i<k->(aT m t)[i]?=some true->(jr m t k)[cnt (aT m t) i]?=some (ahead m ((t[i]?).getD 0))
 |k+1,i,h,hi=>by
  by_cases e:i=k;·subst e;rw[jr,ah hi,vw (by rw[rR];exact zL _),rR];simp
  ·have ih:=Yp m t k i (by omega) hi;have hlt:cnt (aT m t) i<(jr m t k).length:=by rw[rR];exact cnt_lt (by omega) hi
   rw[jr];split;·rw[tV hlt,ih]
   ·exact ih
noncomputable def iq(h:Hp)(roots:List Int):Hp:=⟨ja h.cells (marks h.cells roots) h.cells.length,jr (marks h.cells roots) h.trail h.trail.length⟩
section
variable {h : Hp} {roots : List Int}
theorem QJ(i:Nat)(hi:i<h.cells.length)(hr:Reach h.cells roots i):cellAt (iq h roots).cells (cnt (marks h.cells roots) i)=mK (marks h.cells roots) (cellAt h.cells i):=by have h1:=Yo h.cells (marks h.cells roots) h.cells.length i hi ((rQ hi).2 hr);unfold cellAt;rw[dB];show((ja h.cells (marks h.cells roots) h.cells.length)[_]?).getD default=_;rw[h1];rfl
theorem Yq{j:Nat}(hj:j<(iq h roots).cells.length):∃i,i<h.cells.length/\Reach h.cells roots i/\cnt (marks h.cells roots) i=j:=by obtain⟨i,h1,h2,h3⟩:=Ig h.cells.length j (by rw[<-oh h.cells];exact hj);exact⟨i,h1,(rQ h1).1 h2,h3⟩
theorem Ih{i:Nat}(hi:i<h.cells.length)(hr:Reach h.cells roots i):cnt (marks h.cells roots) i<(iq h roots).cells.length:=by show _<(ja h.cells (marks h.cells roots) h.cells.length).length;rw[oh];exact cnt_lt hi ((rQ hi).2 hr)
theorem Ii(hg:gB h.cells){i:Nat}(hi:i<h.cells.length)(hr:Reach h.cells roots i)(hk:(cellAt h.cells i).kind=3):∀d:Nat,(d:Int)<=(cellAt h.cells i).n->cnt (marks h.cells roots) (i+1+d)=cnt (marks h.cells roots) i+1+d/\(0<d->Reach h.cells roots (i+d))
 |0,_=>by rw[qz,qz,cnt,ah ((rQ hi).2 hr)];exact⟨rfl,fun h=>absurd h (Nat.lt_irrefl _)⟩
 |d+1,hd=>by
  obtain⟨ih,_⟩:=Ii hg hi hr hk d (by omega);have h1:Reach h.cells roots (i+(d+1)):= .step hr (.inr ⟨hk,by omega,by omega⟩);refine⟨?_,fun _=>h1⟩;rw[show i+1+(d+1)=(i+1+d)+1 by omega,cnt,ah,ih];·omega
  ·rw[show i+1+d=i+(d+1)by omega];exact(rQ (h1.lt hg)).2 h1
theorem Yr(hg:h.Good):(iq h roots).Good:=by
 obtain⟨g1,g2,g3,g4⟩:=hg;refine⟨fun j hj=>?_,fun j hj=>?_,?_,?_⟩
 ·obtain⟨i,hi,hr,rfl⟩:=Yq hj;have h1:=QJ (h:=h) i hi hr;rw[iQ hj,iQ hi]at h1;rw[h1];have h2:=g1 i hi;unfold Ce.fo at h2;unfold mK;rcases h2 with h2|h2|h2|h2
  ·rw[ah h2.1];obtain⟨k,hk⟩:=eu h2.2.1;have hlead:yL h.cells i k:= .inl (by rw[iQ hi];exact⟨h2.1,hk⟩);have hr2:Reach h.cells roots k:= .step hr hlead;have :=Ih (h:=h) (hr2.lt g1) hr2;refine .inl ⟨h2.1,?_,?_,h2.2.2.2⟩;·simp only[ahead];omega
   ·simp only[ahead,hk,dB];omega
  ·rw[ae (by omega)];exact .inr (.inl h2)
  ·rw[ae (by omega)];exact .inr (.inr (.inl h2))
  ·rw[ae (by omega)];refine .inr (.inr (.inr ⟨h2.1,h2.2.1,h2.2.2.1,?_,h2.2.2.2.2⟩));obtain⟨k,hk⟩:=eu (show 0<=h.cells[i].n by omega);obtain⟨a1,a2⟩:=Ii (h:=h) g1 hi hr (by rw[iQ hi];exact h2.1) (k - 1) (by rw[iQ hi];omega);obtain⟨b1,b2⟩:=Ii (h:=h) g1 hi hr (by rw[iQ hi];exact h2.1) k (by rw[iQ hi];omega);have hr2:=b2 (by omega);have :=Ih (h:=h) (hr2.lt g1) hr2;rw[show i+k=i+1+(k - 1)by omega,a1]at this;omega
 ·obtain⟨i,hi,hm,hc⟩:=Ig h.trail.length j (by rw[<-rR];exact hj);have h1:=Yp (marks h.cells roots) h.trail h.trail.length i hi hm;rw[hc]at h1;have h2:(iq h roots).trail[j]?=some ((iq h roots).trail[j]):=aS hj;have h3:(iq h roots).trail[j]?=some (ahead (marks h.cells roots) ((h.trail[i]?).getD 0)):=h1;rw[h3]at h2;simp only[cZ]at h2;obtain⟨v,hv,hvl,hk⟩:=g2 i hi;rw[aS hi,qw,hv]at h2;simp only[aT,vB,aS hi,nV,hv,dB,cZ]at hm;have hr:Reach h.cells roots v:=by refine(rQ hvl).1 ?_;rw[aS (by rw[QI];exact hvl)]at hm ⊢;rw[qw]at hm;rw[hm]
  refine⟨cnt (marks h.cells roots) v,h2.symm,Ih hvl hr,?_⟩;have h4:=QJ (h:=h) v hvl hr;rw[iQ (Ih hvl hr),iQ hvl]at h4;rw[h4];unfold mK;rw[ah hk];exact hk
 ·show(ja _ _ _).length<=_;rw[oh];have :=pJ (marks h.cells roots) h.cells.length;omega
 ·show(jr _ _ _).length<=_;rw[rR];have :=pJ (aT (marks h.cells roots) h.trail) h.trail.length;omega
end
def AP(p:Prop)(r:Value)(_:World):Prop:=∃t,r= .bool t/\(t=true↔p)
def LW(l:List Ce)(j:Nat):Prop:=∀k(hk:k<l.length),k<j->(l[k]).fo l.length k
def LX(l:List Ce)(t:List Int)(j:Nat):Prop:=∀k(hk:k<t.length),k<j->∃v:Nat,t[k]=(v:Int)/\∃hv:v<l.length,(l[v]).kind=0
theorem LW.next{l:List Ce}{j:Nat}(h:LW l j)(hj:j<l.length)(ho:(l[j]).fo l.length j):LW l (j+1):=fun k hk hkj=>by
 by_cases e:k=j;·subst e;exact ho
 ·exact h k hk (by omega)
theorem LX.next{l:List Ce}{t:List Int}{j:Nat}(h:LX l t j)(hj:j<t.length)(ho:∃v:Nat,t[j]=(v:Int)/\∃hv:v<l.length,(l[v]).kind=0):LX l t (j+1):=fun k hk hkj=>by
 by_cases e:k=j;·subst e;exact ho
 ·exact h k hk (by omega)
theorem AQ(h:Hp)(A:Nat->Prop)(w:World)(vs:List Value)(hh:Hp.rep A w h vs):Calls Tryz.prog 59 #[.agg vs.toArray] w (Pure w (AP h.Good)):=by
 obtain⟨a,cap,b,aN,rfl,hc1,hc2,hc3,ht1,ht2,ht3,hc,ht⟩:=Hp.kY hh;obtain⟨_,_,cb,oo,e, -, -, -,ha,he⟩:=hc.at;simp only[eX,fH]at e;obtain⟨rfl,rfl⟩:=e;obtain⟨_,_,tb,CJ,e, -, -, -,hb,hf⟩:=ht.at;simp only[eX,fH]at e;obtain⟨rfl,rfl⟩:=e;have HE:=zh he;have HA:=zh ha;have xu:=zh hf;have EM:=zh hb;clear hh hc ht he ha hf hb;go_enter Tryz.func59,Tryz.ntmps59;go_wp2_with fail;go_loopw[10](fun i wr=>∃j:Nat,j<=h.cells.length/\i= .int .i64 j/\Below (w.heap.size+1) (w.alloc (.cells #[.slice a h.cells.length cap,.slice b h.trail.length aN] 59)) wr/\LW h.cells j)(fun i _=>h.cells.length - (intOf i).toNat);case atStart=>exact⟨0,dD _,rfl,zB _ _,fun k _ hk=>by omega⟩
 case round=>
  obtain⟨j,hj,rfl,hb,hpre⟩:=hrel;have HB:=zh hb;have HP:=zh hpre;have hz:=hb.size;simp only[bF]at hz;have hz':w.heap.size<wr.heap.size:=hz;clear hb hpre;by_cases hlt:j<h.cells.length
  ·obtain⟨rfl,cO⟩:=HA.o (by omega);have hk2:ag A w wr:=(ag.alloc _ _ _).trans (ag.ob (HB.o.mono (by simp)));obtain⟨c0,c1,c2,i0,i1,i2⟩:=vG HE.o cO hk2 hlt;have f0:wr.cell? ⟨w.heap.size,0,none⟩=some (.slice (some ⟨cb,oo,none⟩) h.cells.length cap):=by rw[HB.o.cell (by simp)];simp
   clear hk2;have hlb:cb<wr.heap.size:=mX wr _ c0;go_wp2_with fail;all_goals
    first
     |
      (
       go_roundw;case rel=>refine⟨j+1,by omega,by go_num,HB.o.alloc hz _,HP.o.next hlt ?_⟩;clear HE xu HA EM HB HP;unfold Ce.fo;simp_all<;>omega
       case measure=>simp[intOf];omega)
     |(go_ret;refine⟨_,rfl,gU ((HB.o.alloc hz _).mono (by simp)),false,rfl,?_⟩;simp only[tZ,false_iff];intro hg;have :=hg.1 j hlt;clear HE xu HA EM HB HP;unfold Ce.fo at this;simp_all<;>omega)
     |go_ways
  ·have dm:j=h.cells.length:=by omega
   have HJ:=zh dm;clear dm;have f0:wr.cell? ⟨w.heap.size,0,none⟩=some (.slice a h.cells.length cap):=by rw[HB.o.cell (by simp)];simp
   have f1:wr.cell? ⟨w.heap.size,1,none⟩=some (.slice b h.trail.length aN):=by rw[HB.o.cell (by simp)];simp
   obtain⟨w1,rfl⟩:∃x,x=wr:=⟨_,rfl⟩;go_wp2_with fail;go_loopw[80](fun i ws=>∃q:Nat,q<=h.trail.length/\i= .int .i64 q/\Below w1.heap.size w1 ws/\LX h.cells h.trail q)(fun i _=>h.trail.length - (intOf i).toNat);case atStart=>exact⟨0,dD _,rfl,zB _ _,fun k _ hk=>by omega⟩
   case round=>
    obtain⟨q,hq,rfl,hb,hpre⟩:=hrel;have f0':=bc hb f0;have f1':=bc hb f1;clear f0 f1;have HB2:=zh hb;have gF:=zh hpre;have hzz:=hb.size;clear hb hpre;by_cases hlt2:q<h.trail.length
    ·obtain⟨rfl,ahi⟩:=EM.o (by omega);have hk2:ag A w wr:=((ag.alloc _ _ _).trans (ag.ob (HB.o.mono (by simp)))).trans (ag.ob HB2.o);have EN:=zh hk2;obtain⟨d0,id0⟩:=AO xu.o ahi hk2 hlt2;have hq0:(0:Int)<=(q:Int):=zN _;have hq1:(q:Int)<(h.trail.length:Int):=by omega
     clear hk2;by_cases hin:0<=h.trail[q]/\h.trail[q]<h.cells.length
     ·obtain⟨v,hv⟩:=eu hin.1;have hvl:v<h.cells.length:=by omega
      have HV:=zh hv;rw[hv]at d0;clear hv hin id0;obtain⟨rfl,cO⟩:=HA.o (by omega);obtain⟨c0,c1,c2,i0,i1,i2⟩:=vG HE.o cO EN.o hvl;have hv0:(0:Int)<=(v:Int):=zN _;have hv1:(v:Int)<(h.cells.length:Int):=by omega
      go_wp2_with fail;all_goals
       first
        |
         (
          go_roundw;case rel=>refine⟨q+1,by omega,by go_num,HB2.o,gF.o.next hlt2 ⟨v,HV.o,hvl,?_⟩⟩;clear HE xu HA EM HB HP EN HB2 gF HV HJ;simp_all<;>omega
          case measure=>simp[intOf];omega)
        |
         (
          go_ret;refine⟨_,rfl,gU ((HB.o.trans (HB2.o.mono hz)).mono (by simp)),false,rfl,?_⟩;simp only[tZ,false_iff];intro hg;obtain⟨v',e1,e2,e3⟩:=hg.2.1 q hlt2;obtain rfl:v'=v:=by have :=HV.o;omega
          clear HE xu HA EM HB HP EN HB2 gF HV HJ;simp_all<;>omega)
        |go_ways
     ·go_wp2_with fail;all_goals go_ret;refine⟨_,rfl,gU ((HB.o.trans (HB2.o.mono hz)).mono (by simp)),false,rfl,?_⟩;simp only[tZ,false_iff];intro hg;obtain⟨v',e1,e2,e3⟩:=hg.2.1 q hlt2;omega
    ·go_wp2_with fail;all_goals go_ret;refine⟨_,rfl,gU ((HB.o.trans (HB2.o.mono hz)).mono (by simp)),_,rfl,?_⟩;have :=HJ.o;refine Iff.trans (b:=h.cells.length<=65536/\h.trail.length<=65536) ?_ ⟨fun h1=>⟨fun i hi=>HP.o i hi (by omega),fun i hi=>gF.o i hi (by omega),h1.1,h1.2⟩,fun hg=>hg.2.2⟩;simp<;>omega
