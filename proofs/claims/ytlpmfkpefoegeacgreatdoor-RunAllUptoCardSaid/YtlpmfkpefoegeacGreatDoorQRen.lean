import Derived.WalkKit
import Derived.WalkSpells
import Derived.WalkLawsBesides
import Derived.Deep.RegionHeld3
import Derived.Deep.LoopGhost
import Derived.BigQuiet
import Derived.Laws.EntriesVeiled
import Derived.Deep.DeepMust
import Derived.Deep.QuietTactic
import Derived.Test.YtlpmfkpefoegeacGreatDoorProg
import Derived.Deep.RegionHeld
namespace Go.Proofs.YtlpmfkpefoegeacGreatDoor
set_option maxRecDepth 99999
set_option maxHeartbeats 0
set_option linter.all false
open Go.RowKit
theorem ag:type_of% @if_neg:=@if_neg
theorem ai:type_of% @if_pos:=@if_pos
theorem aT:type_of% @List.getElem?_eq_getElem:=@List.getElem?_eq_getElem
theorem bH:type_of% @Go.RowKit.Below.heap_setCell:=@Go.RowKit.Below.heap_setCell
theorem bK:type_of% @Go.RowKit.Below.setCell:=@Go.RowKit.Below.setCell
theorem bO:type_of% @List.getElem_mem:=@List.getElem_mem
theorem bQ:type_of% @Go.World.size_alloc:=@Go.World.size_alloc
theorem bT:type_of% @List.length_append:=@List.length_append
theorem cK:type_of% @List.length_cons:=@List.length_cons
theorem dm:type_of% @Option.some.injEq:=@Option.some.injEq
theorem dn:type_of% @Nat.zero_le:=@Nat.zero_le
theorem dC:type_of% @Go.Value.slice.injEq:=@Go.Value.slice.injEq
theorem dD:type_of% @Go.bodyPost_ret:=@Go.bodyPost_ret
theorem dG:type_of% @Int.toNat_natCast:=@Int.toNat_natCast
theorem dJ:type_of% @not_not_intro:=@not_not_intro
theorem dL:type_of% @true_and:=@true_and
theorem dQ:type_of% @Int.eq_ofNat_of_zero_le:=@Int.eq_ofNat_of_zero_le
theorem dX:type_of% @List.take_succ_eq_append_getElem:=@List.take_succ_eq_append_getElem
theorem eY:type_of% @List.length_take:=@List.length_take
theorem eZ:type_of% @Go.World.size_drew:=@Go.World.size_drew
theorem fE:type_of% @List.mem_append:=@List.mem_append
theorem fK:type_of% @Go.World.block_lt_of_cell?:=@Go.World.block_lt_of_cell?
theorem fM:type_of% @Nat.le_trans:=@Nat.le_trans
theorem fZ:type_of% @List.mem_map:=@List.mem_map
theorem gB:type_of% @List.mem_singleton:=@List.mem_singleton
theorem gK:type_of% @List.mem_cons:=@List.mem_cons
theorem gT:type_of% @List.getElem?_eq_some_iff:=@List.getElem?_eq_some_iff
theorem iF:type_of% @Go.RowKit.Below.refl:=@Go.RowKit.Below.refl
theorem iZ:type_of% @List.take_of_length_le:=@List.take_of_length_le
theorem jd:type_of% @List.take_length:=@List.take_length
theorem jr:type_of% @List.length_singleton:=@List.length_singleton
theorem kg:type_of% @List.length_nil:=@List.length_nil
theorem ko:type_of% @List.mem_range:=@List.mem_range
theorem kr:type_of% @Int.le_refl:=@Int.le_refl
theorem lC:type_of% @Bool.false_ne_true:=@Bool.false_ne_true
theorem lD:type_of% @Prod.mk.injEq:=@Prod.mk.injEq
theorem lF:type_of% @and_true:=@and_true
theorem mr:type_of% @Array.getElem?_toList:=@Array.getElem?_toList
theorem mD:type_of% @Bool.false_eq_true:=@Bool.false_eq_true
theorem mE:type_of% @List.take_zero:=@List.take_zero
theorem ng:type_of% @List.mem_iff_getElem:=@List.mem_iff_getElem
theorem ni:type_of% @List.mem_cons_of_mem:=@List.mem_cons_of_mem
theorem nk:type_of% @List.mem_cons_self:=@List.mem_cons_self
theorem nu:type_of% @List.ext_getElem:=@List.ext_getElem
theorem ny:type_of% @List.length_map:=@List.length_map
theorem nW:type_of% @Option.getD_some:=@Option.getD_some
theorem nX:type_of% @Nat.zero_add:=@Nat.zero_add
theorem nY:type_of% @Nat.add_mul:=@Nat.add_mul
theorem pg:type_of% @Array.getElem?_eq_getElem:=@Array.getElem?_eq_getElem
theorem pq:type_of% @Option.map_some:=@Option.map_some
theorem pz:type_of% @or_false:=@or_false
theorem qj:type_of% @List.getElem?_take_of_lt:=@List.getElem?_take_of_lt
theorem qm:type_of% @Go.World.size_setCell:=@Go.World.size_setCell
theorem qo:type_of% @List.all_eq_true:=@List.all_eq_true
theorem qp:type_of% @List.map_cons:=@List.map_cons
theorem qw:type_of% @Nat.add_zero:=@Nat.add_zero
theorem rq:type_of% @Bool.and_eq_true:=@Bool.and_eq_true
theorem ru:type_of% @List.map_append:=@List.map_append
theorem ry:type_of% @Go.getD_set_ne:=@Go.getD_set_ne
theorem tH:type_of% @List.getElem?_append_left:=@List.getElem?_append_left
theorem tJ:type_of% @List.cons_append:=@List.cons_append
theorem tK:type_of% @List.nil_append:=@List.nil_append
theorem tL:type_of% @List.cons.injEq:=@List.cons.injEq
theorem tN:type_of% @List.append_nil:=@List.append_nil
theorem tO:type_of% @Ne.symm:=@Ne.symm
theorem uN:type_of% @List.getElem?_append_right:=@List.getElem?_append_right
theorem uO:type_of% @List.getElem?_cons_zero:=@List.getElem?_cons_zero
theorem uP:type_of% @List.take_succ_cons:=@List.take_succ_cons
theorem uQ:type_of% @List.not_mem_nil:=@List.not_mem_nil
theorem uR:type_of% @Go.Addr.mk.injEq:=@Go.Addr.mk.injEq
theorem wB:type_of% @Array.getElem?_eq_some_iff:=@Array.getElem?_eq_some_iff
theorem wC:type_of% @List.set_cons_succ:=@List.set_cons_succ
theorem wD:type_of% @List.append_assoc:=@List.append_assoc
theorem xI:type_of% @List.setIfInBounds_toArray:=@List.setIfInBounds_toArray
theorem xJ:type_of% @List.length_reverse:=@List.length_reverse
theorem xK:type_of% @List.set_cons_zero:=@List.set_cons_zero
theorem xL:type_of% @List.length_set:=@List.length_set
theorem xM:type_of% @Go.run_underlying:=@Go.run_underlying
theorem xN:type_of% @beq_iff_eq:=@beq_iff_eq
theorem Au:type_of% @List.length_replicate:=@List.length_replicate
theorem Av:type_of% @Nat.pos_iff_ne_zero:=@Nat.pos_iff_ne_zero
theorem Aw:type_of% @List.getElem?_map:=@List.getElem?_map
theorem Ay:type_of% @List.flatMap_cons:=@List.flatMap_cons
theorem Az:type_of% @Nat.not_lt_zero:=@Nat.not_lt_zero
theorem AA:type_of% @List.map_nil:=@List.map_nil
theorem AB:type_of% @dif_pos:=@dif_pos
theorem Cg:type_of% @Array.getElem?_setIfInBounds_self_of_lt:=@Array.getElem?_setIfInBounds_self_of_lt
theorem Ci:type_of% @Array.getElem?_setIfInBounds_ne:=@Array.getElem?_setIfInBounds_ne
theorem Cj:type_of% @List.eq_nil_of_length_eq_zero:=@List.eq_nil_of_length_eq_zero
theorem Ck:type_of% @Array.getElem?_eq_none:=@Array.getElem?_eq_none
theorem Cn:type_of% @Go.IntWalk.i64_in:=@Go.IntWalk.i64_in
theorem D9:type_of% @Array.getD_eq_getD_getElem?:=@Array.getD_eq_getD_getElem?
theorem Ea:type_of% @List.getElem_append_right:=@List.getElem_append_right
theorem Eb:type_of% @List.getElem_append_left:=@List.getElem_append_left
theorem Ec:type_of% @List.map_singleton:=@List.map_singleton
theorem Ed:type_of% @decide_eq_true_eq:=@decide_eq_true_eq
theorem Ee:type_of% @List.getElem_set:=@List.getElem_set
theorem Ef:type_of% @Nat.zero_mul:=@Nat.zero_mul
theorem F6:type_of% @Classical.byContradiction:=@Classical.byContradiction
theorem F7:type_of% @List.mem_of_mem_drop:=@List.mem_of_mem_drop
theorem F8:type_of% @Go.ByteArray.toList_eq:=@Go.ByteArray.toList_eq
theorem F9:type_of% @List.pairwise_cons:=@List.pairwise_cons
theorem Ga:type_of% @Nat.min_eq_right:=@Nat.min_eq_right
theorem Gb:type_of% @Nat.lt_succ_self:=@Nat.lt_succ_self
theorem Gc:type_of% @List.mem_reverse:=@List.mem_reverse
theorem Gd:type_of% @Nat.min_eq_left:=@Nat.min_eq_left
theorem Gf:type_of% @Bool.or_eq_true:=@Bool.or_eq_true
theorem Gg:type_of% @List.drop_zero:=@List.drop_zero
theorem Gh:type_of% @bne_iff_ne:=@bne_iff_ne
theorem Gi:type_of% @Iff.rfl:=@Iff.rfl
theorem Js:type_of% @List.drop_eq_getElem_cons:=@List.drop_eq_getElem_cons
theorem Jt:type_of% @List.getElem_cons_zero:=@List.getElem_cons_zero
theorem Ju:type_of% @List.take_append_drop:=@List.take_append_drop
theorem Jv:type_of% @Array.any_eq_true':=@Array.any_eq_true'
theorem Jw:type_of% @List.size_toArray:=@List.size_toArray
theorem Jy:type_of% @List.take_left':=@List.take_left'
theorem Jz:type_of% @List.prefix_rfl:=@List.prefix_rfl
theorem JA:type_of% @Go.RowKit.Below.heap_alloc:=@Go.RowKit.Below.heap_alloc
theorem JD:type_of% @Int.add_comm:=@Int.add_comm
theorem JE:type_of% @Go.bodyPost_end:=@Go.bodyPost_end
theorem Pn:type_of% @List.length_eq_zero_iff:=@List.length_eq_zero_iff
theorem Pp:type_of% @List.getElem?_eq_none:=@List.getElem?_eq_none
theorem Pq:type_of% @Nat.mul_le_mul_right:=@Nat.mul_le_mul_right
theorem Ps:type_of% @List.reverse_reverse:=@List.reverse_reverse
theorem Pt:type_of% @List.mem_of_getElem?:=@List.mem_of_getElem?
theorem Pw:type_of% @List.getElem_toArray:=@List.getElem_toArray
theorem Px:type_of% @Go.World.cell?_of_block:=@Go.World.cell?_of_block
theorem Py:type_of% @Go.Value.pointer.injEq:=@Go.Value.pointer.injEq
theorem Pz:type_of% @not_true_eq_false:=@not_true_eq_false
theorem PD:type_of% @List.length_range:=@List.length_range
theorem PE:type_of% @List.flatten_cons:=@List.flatten_cons
theorem PG:type_of% @List.length_drop:=@List.length_drop
theorem PH:type_of% @List.getElem_map:=@List.getElem_map
theorem PI:type_of% @Nat.add_assoc:=@Nat.add_assoc
theorem PK:type_of% @Go.Act.put_comm:=@Go.Act.put_comm
theorem PL:type_of% @Go.RowKit.Below.alloc:=@Go.RowKit.Below.alloc
theorem PN:type_of% @Go.wpOp_mono:=@Go.wpOp_mono
theorem PO:type_of% @Go.RowKit.Below.drew:=@Go.RowKit.Below.drew
theorem Va:type_of% @Array.toList_setIfInBounds:=@Array.toList_setIfInBounds
theorem Vb:type_of% @List.getElem?_replicate:=@List.getElem?_replicate
theorem Vd:type_of% @List.getElem?_set_self:=@List.getElem?_set_self
theorem Ve:type_of% @List.filter_eq_nil_iff:=@List.filter_eq_nil_iff
theorem Vf:type_of% @List.mem_of_mem_take:=@List.mem_of_mem_take
theorem Vg:type_of% @List.getElem?_set_ne:=@List.getElem?_set_ne
theorem Vh:type_of% @Go.WideElems.Trod_stays:=@Go.WideElems.Trod_stays
theorem Vi:type_of% @List.length_pos_iff:=@List.length_pos_iff
theorem Vj:type_of% @List.getElem_modify:=@List.getElem_modify
theorem Vk:type_of% @decide_eq_true_iff:=@decide_eq_true_iff
theorem Vl:type_of% @List.reverse_cons:=@List.reverse_cons
theorem Vm:type_of% @Classical.not_not:=@Classical.not_not
theorem Vn:type_of% @Int.natCast_zero:=@Int.natCast_zero
theorem Vo:type_of% @List.take_take:=@List.take_take
theorem Vp:type_of% @Go.wp_region_any:=@Go.wp_region_any
theorem Vq:type_of% @List.map_map:=@List.map_map
theorem Vr:type_of% @Nat.mul_one:=@Nat.mul_one
theorem abW:type_of% @List.take_append_of_le_length:=@List.take_append_of_le_length
theorem abX:type_of% @Array.getElem?_replicate:=@Array.getElem?_replicate
theorem abY:type_of% @List.getElem_cons_succ:=@List.getElem_cons_succ
theorem abZ:type_of% @List.replicate_succ:=@List.replicate_succ
theorem ab0:type_of% @List.map_congr_left:=@List.map_congr_left
theorem ab1:type_of% @List.getElem_mapIdx:=@List.getElem_mapIdx
theorem ab2:type_of% @List.getElem?_range:=@List.getElem?_range
theorem ab3:type_of% @Nat.lt_of_lt_of_le:=@Nat.lt_of_lt_of_le
theorem ab4:type_of% @Array.ext_getElem?:=@Array.ext_getElem?
theorem ab5:type_of% @Array.empty_append:=@Array.empty_append
theorem ab6:type_of% @List.foldl_append:=@List.foldl_append
theorem ab7:type_of% @Decidable.not_not:=@Decidable.not_not
theorem ab8:type_of% @Go.Result.andThen_ok:=@Go.Result.andThen_ok
theorem ab9:type_of% @List.map_toArray:=@List.map_toArray
theorem acb:type_of% @List.drop_length:=@List.drop_length
theorem acd:type_of% @Int.min_eq_right:=@Int.min_eq_right
theorem ace:type_of% @Int.max_eq_right:=@Int.max_eq_right
theorem acf:type_of% @Array.toList_inj:=@Array.toList_inj
theorem acg:type_of% @Option.some.inj:=@Option.some.inj
theorem ach:type_of% @List.range_succ:=@List.range_succ
theorem aci:type_of% @List.mem_filter:=@List.mem_filter
theorem acj:type_of% @Int.min_eq_left:=@Int.min_eq_left
theorem ack:type_of% @Int.max_eq_left:=@Int.max_eq_left
theorem acm:type_of% @Go.run_append_grow:=@Go.run_append_grow
theorem acn:type_of% @decide_eq_true:=@decide_eq_true
theorem aco:type_of% @List.take_left:=@List.take_left
theorem acp:type_of% @Go.heap_alloc_new:=@Go.heap_alloc_new
theorem acr:type_of% @Go.growslice_fits:=@Go.growslice_fits
theorem acs:type_of% @Bool.not_true:=@Bool.not_true
theorem acu:type_of% @Bool.false_or:=@Bool.false_or
theorem acv:type_of% @Nat.min_self:=@Nat.min_self
theorem acw:type_of% @List.set_set:=@List.set_set
theorem acx:type_of% @Int.le_total:=@Int.le_total
theorem acy:type_of% @Int.add_zero:=@Int.add_zero
theorem acz:type_of% @Go.Sem.run_pure:=@Go.Sem.run_pure
theorem acA:type_of% @Go.Sem.run_bind:=@Go.Sem.run_bind
theorem acB:type_of% @Nat.one_mul:=@Nat.one_mul
theorem acC:type_of% @Nat.le_succ:=@Nat.le_succ
theorem alN:type_of% @decide_eq_false_iff_not:=@decide_eq_false_iff_not
theorem alO:type_of% @List.range_succ_eq_map:=@List.range_succ_eq_map
theorem alP:type_of% @List.drop_eq_nil_of_le:=@List.drop_eq_nil_of_le
theorem alQ:type_of% @Array.toList_replicate:=@Array.toList_replicate
theorem alR:type_of% @List.mem_append_right:=@List.mem_append_right
theorem alS:type_of% @List.length_filter_le:=@List.length_filter_le
theorem alT:type_of% @List.mem_append_left:=@List.mem_append_left
theorem alU:type_of% @Array.replicate_zero:=@Array.replicate_zero
theorem alV:type_of% @Array.replicate_succ:=@Array.replicate_succ
theorem alW:type_of% @List.drop_succ_cons:=@List.drop_succ_cons
theorem alX:type_of% @List.dropWhile_cons:=@List.dropWhile_cons
theorem alY:type_of% @List.append_toArray:=@List.append_toArray
theorem alZ:type_of% @Function.comp_apply:=@Function.comp_apply
theorem al0:type_of% @Go.Region.noSelect_spec:=@Go.Region.noSelect_spec
theorem al1:type_of% @List.filter_append:=@List.filter_append
theorem al2:type_of% @Int.lt_or_eq_of_le:=@Int.lt_or_eq_of_le
theorem al3:type_of% @List.push_toArray:=@List.push_toArray
theorem al4:type_of% @List.nodup_append:=@List.nodup_append
theorem al5:type_of% @List.idxOf_append:=@List.idxOf_append
theorem al6:type_of% @Int.lt_trichotomy:=@Int.lt_trichotomy
theorem al7:type_of% @List.prefix_refl:=@List.prefix_refl
theorem al8:type_of% @List.of_mem_zip:=@List.of_mem_zip
theorem al9:type_of% @List.idxOf_cons:=@List.idxOf_cons
theorem axI:type_of% @Array.all_eq_true_iff_forall_mem:=@Array.all_eq_true_iff_forall_mem
theorem axJ:type_of% @List.drop_append_of_le_length:=@List.drop_append_of_le_length
theorem axK:type_of% @List.idxOf_lt_length_of_mem:=@List.idxOf_lt_length_of_mem
def Hd(p:Prop):Prop:=p
theorem Hd.o{p:Prop}(h:Hd p):p:=h
theorem Hd.out{p:Prop}(h:Hd p):p:=h
theorem zh{p:Prop}(h:p):Hd p:=h
theorem zI{α:Type _}{a b:α}(h:some a=some b):a=b:=acg h
theorem zN(n:Nat):(0:Int)<=(n:Int):=Int.natCast_nonneg n
theorem zL(n:Nat):n<=n:=Nat.le_refl n
theorem zB(n:Nat)(w:World):Below n w w:=iF n w
def aA(n:Int):Prop:= -9223372036854775808<=n/\n<=9223372036854775807
theorem aA.Gj{n:Int}(h:(Lit.int .i64 n).wf=true):aA n:=by simpa[Lit.wf,IntKind.min,IntKind.max,IntKind.signed,IntKind.bits,aA]using h
theorem dH(w:World)(b o b' o':Nat)(v:Value):(w.setCell ⟨b,o,none⟩ v).cell? ⟨b',o',none⟩=if b=b'/\o=o'/\(w.cell? ⟨b,o,none⟩).isSome=true then some v else w.cell? ⟨b',o',none⟩:=by
 by_cases h:b=b'/\o=o';·obtain⟨rfl,rfl⟩:=h;cases hc:w.cell? ⟨b,o,none⟩with
  |none=>simp only[Option.isSome_none,mD,and_false,if_false];simp only[World.cell?,World.setCell,Array.getElem?_modify]at hc ⊢;cases hh:w.heap[b]? with|none=>simp|some x=>cases x<;>simp_all
  |some u=>simp only[Option.isSome_some,and_self,if_true];exact World.cell?_setCell_same _ _ _ hc
 ·rw[ag (fun⟨h1,h2,_⟩=>h ⟨h1,h2⟩)];exact World.cell?_setCell_other _ _ _ _ (by intro e;simp only[uR]at e;exact h ⟨e.1,e.2.1⟩)
theorem ama{W w1:World}(hb:Below W.heap.size W w1):(∀b o,b<W.heap.size->w1.cell? ⟨b,o,none⟩=W.cell? ⟨b,o,none⟩)/\(∀b o,b<W.heap.size->w1.frozen? ⟨b,o,none⟩=W.frozen? ⟨b,o,none⟩):=⟨fun b o h=>hb.cell (p:=⟨b,o,none⟩) h,fun b o h=>hb.frozen (p:=⟨b,o,none⟩) h⟩
theorem bc{w w1:World}(hb:Below w.heap.size w w1){b o:Nat}{v:Value}(h:w.cell? ⟨b,o,none⟩=some v):w1.cell? ⟨b,o,none⟩=some v:=by rw[hb.cell (p:=⟨b,o,none⟩) (fK w ⟨b,o,none⟩ h)];exact h
structure af (A : Nat → Prop) (w w' : World) : Prop where
  size : w.heap.size ≤ w'.heap.size
  block : ∀ b, b < w.heap.size → A b → w'.heap[b]? = w.heap[b]?
theorem af.refl(A:Nat->Prop)(w:World):af A w w:=⟨zL _,fun _ _ _=>rfl⟩
theorem af.trans{A:Nat->Prop}{a b c:World}(h:af A a b)(k:af A b c):af A a c:=⟨fM h.size k.size,fun i hi ha=>(k.block i (ab3 hi h.size) ha).trans (h.block i hi ha)⟩
theorem af.mono{A A':Nat->Prop}{w w':World}(h:af A w w')(hA:∀b,b<w.heap.size->A' b->A b):af A' w w':=⟨h.size,fun b hb ha=>h.block b hb (hA b hb ha)⟩
theorem af.ob{A:Nat->Prop}{w w':World}(h:Below w.heap.size w w'):af A w w':=⟨h.size,fun b hb _=>h.block b hb⟩
theorem af.alloc(A:Nat->Prop)(w:World)(o:Obj):af A w (w.alloc o):=⟨by simp,fun b hb _=>JA w o b hb⟩
theorem af.drew(A:Nat->Prop)(w:World):af A w w.drew:=⟨zL _,fun _ _ _=>rfl⟩
theorem af.setCell(A:Nat->Prop)(w:World)(p:Addr)(u:Value)(hp:¬A p.block):af A w (w.setCell p u):=⟨by simp,fun b _ ha=>bH w p u b (by rintro rfl;exact hp ha)⟩
theorem af.grown{A:Nat->Prop}{w w':World}{row:Option Nat}(h:w.grownBy w' row)(hr:∀b,A b->row≠some b):af A w w':=⟨h.size,fun b hb ha=>h.block b hb (fun e=>hr b ha e.symm)⟩
theorem af.cell{A:Nat->Prop}{w w':World}(h:af A w w'){b o:Nat}{v:Value}(ha:A b)(hc:w.cell? ⟨b,o,none⟩=some v):w'.cell? ⟨b,o,none⟩=some v:=by have hb:b<w.heap.size:=fK w ⟨b,o,none⟩ hc;rw[<-hc];exact Px (h.block b hb ha)
theorem aU{w:World}{g:Nat}{E:TypeId}{v0 v1 v2 v3:Value}(h:w.heap[g]?=some (.cells #[v0,v1,v2,v3] E (0,0))):w.cell? ⟨g,0,none⟩=some v0/\w.cell? ⟨g,1,none⟩=some v1/\w.cell? ⟨g,2,none⟩=some v2/\w.cell? ⟨g,3,none⟩=some v3/\(∀o,w.frozen? ⟨g,o,none⟩=false):=by refine⟨?_,?_,?_,?_,fun o=>?_⟩<;>simp[World.cell?,World.frozen?,h]
theorem bG{w:World}{g:Nat}{E:TypeId}{c:Array Value}(h:w.heap[g]?=some (.cells c E (0,0)))(o:Nat)(u:Value):(w.setCell ⟨g,o,none⟩ u).heap[g]?=some (.cells (c.setIfInBounds o u) E (0,0)):=by simp[World.setCell,Array.getElem?_modify,h]
theorem aJ{w:World}{g:Nat}{o:Obj}(h:w.heap[g]?=some o):g<w.heap.size:=(wB.1 h).1
theorem aX{w:World}{g:Nat}{o:Obj}(h:w.heap[g]?=some o)(o':Obj):(w.alloc o').heap[g]?=some o:=(JA w o' g (aJ h)).trans h
theorem aL{w w':World}{g:Nat}{o:Obj}(h:w.heap[g]?=some o)(hb:Below w.heap.size w w'):w'.heap[g]?=some o:=(hb.block g (aJ h)).trans h
theorem bB{A:Nat->Prop}{w w':World}{g:Nat}{o:Obj}(h:w.heap[g]?=some o)(hk:af A w w')(hA:A g):w'.heap[g]?=some o:=(hk.block g (aJ h) hA).trans h
theorem bJ(w:World)(o:Obj):(w.alloc o).heap[w.heap.size]?=some o:=acp w o
theorem je(w:World)(A B:Obj):((w.alloc A).alloc B).heap[w.heap.size]?=some A/\((w.alloc A).alloc B).heap[w.heap.size+1]?=some B:=by refine⟨aX (bJ _ _) _,?_⟩;have :=bJ (w.alloc A) B;simpa using this
theorem Eg(w:World)(A B C:Obj):(((w.alloc A).alloc B).alloc C).heap[w.heap.size]?=some A/\(((w.alloc A).alloc B).alloc C).heap[w.heap.size+1]?=some B/\(((w.alloc A).alloc B).alloc C).heap[w.heap.size+1+1]?=some C:=by refine⟨aX (je w A B).1 _,aX (je w A B).2 _,?_⟩;have :=bJ ((w.alloc A).alloc B) C;simpa using this
theorem acD(w:World)(A B C D:Obj):((((w.alloc A).alloc B).alloc C).alloc D).heap[w.heap.size]?=some A/\((((w.alloc A).alloc B).alloc C).alloc D).heap[w.heap.size+1]?=some B/\((((w.alloc A).alloc B).alloc C).alloc D).heap[w.heap.size+1+1]?=some C/\((((w.alloc A).alloc B).alloc C).alloc D).heap[w.heap.size+1+1+1]?=some D:=by refine⟨aX (Eg w A B C).1 _,aX (Eg w A B C).2.1 _,aX (Eg w A B C).2.2 _,?_⟩;have :=bJ (((w.alloc A).alloc B).alloc C) D;simpa using this
theorem bW{w:World}{g:Nat}{E:TypeId}{c:Array Value}{fr:Nat×Nat}(h:w.heap[g]?=some (.cells c E fr))(o:Nat):w.cell? ⟨g,o,none⟩=c[o]?:=cell_of_row w g o c E fr h
def nz(w:World)(b off:Nat)(vs:List Value):Prop:=∀j v,vs[j]?=some v->w.cell? ⟨b,off+j,none⟩=some v
theorem nz.keeps{A:Nat->Prop}{w w':World}{b off:Nat}{vs:List Value}(hA:A b)(h:nz w b off vs)(hk:af A w w'):nz w' b off vs:=fun j v hj=>hk.cell hA (h j v hj)
def Eh(A:Nat->Prop)(len:Nat)(v:Value)(b off:Nat):Prop:=len<=1048576/\((len=0/\∃a cap,v= .slice a 0 cap/\cap<=maxLen)\/(0<len/\A b/\∃cap,v= .slice (some ⟨b,off,none⟩) len cap/\len<=cap/\cap<=maxLen))
theorem Eh.mono{A A':Nat->Prop}{len:Nat}{v:Value}{b off:Nat}(h:Eh A len v b off)(hA:A b->A' b):Eh A' len v b off:=by
 obtain⟨h1,h|⟨h2,h3,h4⟩⟩:=h;·exact⟨h1,.inl h⟩
 ·exact⟨h1,.inr ⟨h2,hA h3,h4⟩⟩
theorem Eh.val{A:Nat->Prop}{len:Nat}{v:Value}{b off:Nat}(h:Eh A len v b off):∃a cap,v= .slice a len cap/\len<=cap/\cap<=maxLen/\(0<len->a=some ⟨b,off,none⟩):=by
 obtain⟨_,⟨rfl,a,cap,rfl,hc⟩|⟨_,_,cap,rfl,hc,hm⟩⟩:=h;·exact⟨a,cap,rfl,dn _,hc,fun h=>absurd h (Nat.lt_irrefl _)⟩
 ·exact⟨_,cap,rfl,hc,hm,fun _=>rfl⟩
section
variable {α : Type}
def mF(A:Nat->Prop)(w:World)(size:Nat)(R:(Nat->Prop)->World->α->List Value->Prop)(xs:List α)(b off:Nat):Prop:=∀i x,xs[i]?=some x->∃vs,vs.length=size/\R A w x vs/\nz w b (off+i*size) vs
def au(size:Nat)(R:(Nat->Prop)->World->α->List Value->Prop)(A:Nat->Prop)(w:World)(xs:List α)(v:Value):Prop:=∃b off,Eh A xs.length v b off/\mF A w size R xs b off
def iq(R:(Nat->Prop)->World->α->List Value->Prop):Prop:=(∀A w w' x vs,R A w x vs->af A w w'->R A w' x vs)/\(∀(A A':Nat->Prop)w x vs,R A w x vs->(∀b,b<w.heap.size->A b->A' b)->R A' w x vs)/\(∀A w x vs,R A w x vs->∀u∈vs,u.oneCell'=true)
theorem mF.keeps{A:Nat->Prop}{w w':World}{size:Nat}{R:(Nat->Prop)->World->α->List Value->Prop}{xs:List α}{b off:Nat}(hR:iq R)(hA:xs≠[]->A b)(h:mF A w size R xs b off)(hk:af A w w'):mF A w' size R xs b off:=by intro i x hx;obtain⟨vs,hl,hr,hrow⟩:=h i x hx;exact⟨vs,hl,hR.1 A w w' x vs hr hk,hrow.keeps (hA (by rintro rfl;simp at hx)) hk⟩
theorem au.keeps{A:Nat->Prop}{w w':World}{size:Nat}{R:(Nat->Prop)->World->α->List Value->Prop}{xs:List α}{v:Value}(hR:iq R)(h:au size R A w xs v)(hk:af A w w'):au size R A w' xs v:=by
 obtain⟨b,off,hs,he⟩:=h;refine⟨b,off,hs,he.keeps hR (fun hne=>?_) hk⟩;obtain⟨_,⟨h0,_⟩|⟨_,hA,_⟩⟩:=hs;·exact absurd (Cj h0) hne
 ·exact hA
theorem mF.block_lt{A:Nat->Prop}{w:World}{size:Nat}{R:(Nat->Prop)->World->α->List Value->Prop}{xs:List α}{b off:Nat}(hs:0<size)(h:mF A w size R xs b off)(hx:xs≠[]):b<w.heap.size:=by match xs,hx with|x::r,_=>obtain⟨vs,hl,_,hrow⟩:=h 0 x rfl;have h0:vs[0]?=some (vs[0]'(by omega)):=aT (by omega);exact fK w _ (hrow 0 _ h0)
theorem au.mono{A A':Nat->Prop}{w:World}{size:Nat}{R:(Nat->Prop)->World->α->List Value->Prop}{xs:List α}{v:Value}(hR:iq R)(hsz:0<size)(h:au size R A w xs v)(hA:∀b,b<w.heap.size->A b->A' b):au size R A' w xs v:=by
 obtain⟨b,off,hs,he⟩:=h;refine⟨b,off,?_,fun i x hx=>?_⟩
 ·by_cases hx:xs=[]
  ·obtain⟨h1,h2|⟨h2,_⟩⟩:=hs;·exact⟨h1,.inl h2⟩
   ·subst hx;simp at h2
  ·exact hs.mono (hA b (he.block_lt hsz hx))
 ·obtain⟨vs,hl,hr,hrow⟩:=he i x hx;exact⟨vs,hl,hR.2.1 A A' w x vs hr hA,hrow⟩
theorem au.at{A:Nat->Prop}{w:World}{size:Nat}{R:(Nat->Prop)->World->α->List Value->Prop}{xs:List α}{v:Value}(h:au size R A w xs v):∃a cap b off,v= .slice a xs.length cap/\xs.length<=cap/\cap<=maxLen/\xs.length<=1048576/\(0<xs.length->a=some ⟨b,off,none⟩/\A b)/\mF A w size R xs b off:=by
 obtain⟨b,off,hs,he⟩:=h;obtain⟨a,cap,hv,h1,h2,h3⟩:=hs.val;refine⟨a,cap,b,off,hv,h1,h2,hs.1,fun h0=>⟨h3 h0,?_⟩,he⟩;obtain⟨_,⟨h0',_⟩|⟨_,hA,_⟩⟩:=hs;·omega
 ·exact hA
theorem au.nil(size:Nat)(R:(Nat->Prop)->World->α->List Value->Prop)(A:Nat->Prop)(w:World):au size R A w [] (.slice none 0 0):=⟨0,0,⟨by simp,.inl ⟨rfl,none,0,rfl,by simp[maxLen]⟩⟩,fun i x hx=>by simp at hx⟩
end
def Pure(w:World)(R:Value->World->Prop)(e:Ending)(w':World):Prop:=∃v,e= .returned v/\Below w.heap.size w w'/\R v w'
def New(w:World)(b:Nat):Prop:=w.heap.size<=b
structure Ch (M : Nat → Prop) (w w' : World) : Prop where
  os : w'.os = w.os
  tape : w'.tape = w.tape
  output : w'.output = w.output
  size : w.heap.size ≤ w'.heap.size
  block : ∀ k, k < w.heap.size → ¬ M k → w'.heap[k]? = w.heap[k]?
theorem Ch.refl(M:Nat->Prop)(w:World):Ch M w w:=⟨rfl,rfl,rfl,zL _,fun _ _ _=>rfl⟩
theorem Ch.of_below{M:Nat->Prop}{w w':World}(h:Below w.heap.size w w'):Ch M w w':=⟨h.os,h.tape,h.output,h.size,fun k hk _=>h.block k hk⟩
theorem Ch.below{M:Nat->Prop}{w w':World}(h:Ch M w w')(hM:∀k,k<w.heap.size->¬M k):Below w.heap.size w w':=⟨h.os,h.tape,h.output,h.size,fun k hk=>h.block k hk (hM k hk)⟩
theorem Ch.trans{M M':Nat->Prop}{a b c:World}(h:Ch M a b)(k:Ch M' b c)(hM:∀x,M' x->M x\/a.heap.size<=x):Ch M a c:=⟨k.os.trans h.os,k.tape.trans h.tape,k.output.trans h.output,fM h.size k.size,fun i hi hn=>(k.block i (ab3 hi h.size) (fun hm=>by rcases hM i hm with h1|h1;exact hn h1;omega)).trans (h.block i hi hn)⟩
theorem Ch.mono{M M':Nat->Prop}{w w':World}(h:Ch M w w')(hM:∀x,x<w.heap.size->M x->M' x):Ch M' w w':=⟨h.os,h.tape,h.output,h.size,fun i hi hn=>h.block i hi fun hm=>hn (hM i hi hm)⟩
theorem Ch.tb{M:Nat->Prop}{a b c:World}(h:Ch M a b)(k:Below b.heap.size b c):Ch M a c:=h.trans (Ch.of_below (M:=fun _=>False) k) (fun _ h=>h.elim)
theorem Ch.alloc{M:Nat->Prop}{a b:World}(h:Ch M a b)(o:Obj):Ch M a (b.alloc o):=h.tb ((zB _ _).alloc (zL _) o)
theorem Ch.drew{M:Nat->Prop}{a b:World}(h:Ch M a b):Ch M a b.drew:=h.tb (zB _ _).drew
theorem Ch.setCell{M:Nat->Prop}{a b:World}(h:Ch M a b){p:Addr}(hp:M p.block\/a.heap.size<=p.block)(u:Value):Ch M a (b.setCell p u):=h.trans (M':=fun x=>x=p.block) ⟨rfl,rfl,rfl,by simp,fun k _ hk=>bH b p u k hk⟩ (by rintro x rfl;exact hp)
theorem Ch.keeps{M A:Nat->Prop}{w w':World}(h:Ch M w w')(hA:∀b,b<w.heap.size->A b->¬M b):af A w w':=⟨h.size,fun b hb ha=>h.block b hb (hA b hb ha)⟩
theorem Ch.grown{M:Nat->Prop}{a b c:World}{row:Option Nat}(h:Ch M a b)(g:b.grownBy c row)(hr:∀k,row=some k->M k\/a.heap.size<=k):Ch M a c:=h.trans (M':=fun x=>row=some x) ⟨g.os,g.tape,g.output,g.size,fun k hk hn=>g.block k hk (fun e=>hn e.symm)⟩ (fun x hx=>hr x hx)
def ownB:Value->Option Nat| .slice (some a) _ cap=>if cap=0 then none else some a.block|_=>none
def Own(w:World)(base:Nat)(E:TypeId)(size:Nat)(v:Value)(n:Nat)(xs:List Value):Prop:=xs.length=n*size/\((n=0/\∃a,v= .slice a 0 0)\/∃g cap cur,v= .slice (some ⟨g,0,none⟩) n cap/\0<cap/\base<=g/\w.heap[g]?=some (.cells cur E (0,0))/\n<=cap/\cap<=maxLen/\cur.size=cap*size/\cur.toList.take (n*size)=xs)
section
variable {w : World} {base : Nat} {E : TypeId} {size : Nat} {v : Value} {n : Nat} {xs : List Value}
theorem Own.nil(w:World)(base:Nat)(E:TypeId)(size:Nat):Own w base E size (.slice none 0 0) 0 []:=⟨by simp,.inl ⟨rfl,none,rfl⟩⟩
theorem Own.lt(h:Own w base E size v n xs):∀k,ownB v=some k->base<=k/\k<w.heap.size:=by
 intro k hk;rcases h.2 with⟨rfl,a,rfl⟩|⟨g,cap,cur,rfl,hc,hb,hg,_⟩;·cases a<;>simp[ownB]at hk
 ·simp[ownB,Av.1 hc]at hk;subst hk;exact⟨hb,(wB.1 hg).1⟩
theorem Own.kept{w':World}(h:Own w base E size v n xs)(hk:∀k,ownB v=some k->w'.heap[k]?=w.heap[k]?):Own w' base E size v n xs:=by
 refine⟨h.1,?_⟩;rcases h.2 with hn|⟨g,cap,cur,rfl,hc,hb,hgg,rest⟩;·exact .inl hn
 ·refine .inr ⟨g,cap,cur,rfl,hc,hb,?_,rest⟩;rw[hk g (by simp[ownB,Av.1 hc])];exact hgg
theorem Own.keeps{A:Nat->Prop}{w':World}(h:Own w base E size v n xs)(hk:af A w w')(hA:∀k,ownB v=some k->A k):Own w' base E size v n xs:=h.kept fun k e=>hk.block k (h.lt k e).2 (hA k e)
theorem Own.below{w':World}(h:Own w base E size v n xs)(hk:Below w.heap.size w w'):Own w' base E size v n xs:=h.kept fun k e=>hk.block k (h.lt k e).2
theorem Own.val(h:Own w base E size v n xs):∃a cap,v= .slice a n cap/\cap<=maxLen:=by
 rcases h.2 with⟨rfl,a,rfl⟩|⟨g',cap',cur,rfl,_,_,hgg,_,hm,_⟩;·exact⟨a,0,rfl,by simp[maxLen]⟩
 ·exact⟨_,cap',rfl,hm⟩
theorem Own.cells(h:Own w base E size v n xs){g cap:Nat}(hg:v= .slice (some ⟨g,0,none⟩) n cap)(hc:0<cap):∀j u,xs[j]?=some u->w.cell? ⟨g,j,none⟩=some u:=by
 intro j u hu;rcases h.2 with⟨rfl,a,rfl⟩|⟨g',cap',cur,rfl,_,_,hgg,_,_,_,htake⟩;·have :=h.1;simp at this;subst this;simp at hu
 ·simp at hg;obtain⟨rfl,rfl⟩:=hg;rw[cell_of_row w g' j cur E (0,0) hgg];rw[<-htake,List.getElem?_take]at hu;split at hu;·simpa using hu
  ·cases hu
end
theorem amb{P:Program}(w:World)(base:Nat)(t ty e:TypeId)(i:TypeInfo)(z:Value)(size bytes:Nat)(ht:P.underlying t=some (.slice e))(hi:P.info? e=some i)(hz:i.zero=some z)(hsize:i.size=size)(hby:i.bytes=bytes)(hzs:z.cells.size=size)(v:Value)(n:Nat)(xs:List Value)(hown:Own w base e size v n xs)(a:Addr)(m c:Nat)(news:List Value)(hl:news.length=m*size)(hnews:∀j u,news[j]?=some u->w.cell? (a.add j)=some u)(h1:∀u∈news,u.oneCell'=true)(h63:n+m<=maxLen)(hbytes:(n+m)*bytes<=140737488355328)(hbase:base<=w.heap.size):∃v' w',(Builtin.append_ #[t,t] ty #[v,.slice (some a) m c]).run P w= .ok v' w'/\Own w' base e size v' (n+m) (xs++news)/\w.grownBy w' (ownB v)/\(ownB v'=ownB v\/∀k,ownB v'=some k->w.heap.size<=k):=by
 subst hsize;subst hby;have hsmall:n+m<=9223372036854775807:=by simp only[maxLen]at h63;omega
 have hlen:(xs++news).length=(n+m)*i.size:=by rw[bT,hown.1,hl,nY]
 have grown:∀(old:Nat),old<n+m->∀(row:Option Nat),Own (w.drew.alloc (.cells (xs.toArray++news.toArray++Builtin.zeroCells z.cells (grownCap w (n+m) old e - (n+m))) e)) base e i.size (.slice (some ⟨w.heap.size,0,none⟩) (n+m) (grownCap w (n+m) old e)) (n+m) (xs++news)/\w.grownBy (w.drew.alloc (.cells (xs.toArray++news.toArray++Builtin.zeroCells z.cells (grownCap w (n+m) old e - (n+m))) e)) row/\∀k,ownB (.slice (some ⟨w.heap.size,0,none⟩) (n+m) (grownCap w (n+m) old e))=some k->w.heap.size<=k:=by
  intro old ho row;have hge:=grownCap_ge w (n+m) old e;have hcm:grownCap w (n+m) old e<=maxLen:=grownCap_le_maxLen w (n+m) old e h63;refine⟨⟨hlen,.inr ⟨w.heap.size,_,_,rfl,by omega,hbase,acp w.drew _,hge,hcm,?_,?_⟩⟩,⟨rfl,rfl,rfl,by simp,fun k hk _=>JA w.drew _ k hk⟩,?_⟩;·simp only[Array.size_append,Jw,size_zeroCells,hzs,hown.1,hl,<-nY];congr 1;omega
  ·simp only[Array.toList_append,wD];rw[<-wD,<-hlen];exact aco
  ·intro k hk;simp only[ownB]at hk;split at hk;·cases hk
   ·simp only[dm]at hk;omega
 rcases hown.2 with⟨rfl,ba,rfl⟩|⟨g,cap,cur,rfl,hcp,hbg,hg,hnc,hcm,hcs,htake⟩
 ·have hx:xs=[]:=Cj (by simpa using hown.1);subst hx;by_cases hm:m=0;·subst hm;have hn:news=[]:=Cj (by simpa using hl);subst hn;refine⟨.slice ba 0 0,w,?_,⟨by simp,.inl ⟨rfl,ba,rfl⟩⟩,⟨rfl,rfl,rfl,zL _,fun _ _ _=>rfl⟩,.inl rfl⟩;cases ba<;>simp[Builtin.append_,xM ht,sizeOf,typeInfo,hi,Builtin.lenOf,Builtin.firstCells,loadCells,loadCellsFrom,storeCells]
  ·have hgr:=grown 0 (by omega) (ownB (.slice ba 0 0));cases ba with|none=>have hr:=run_append_nil (P:=P) w t ty e i z ht hi hz a m c news hl hnews (by omega) (by omega) (by have hb:=hbytes;simp only[nX]at hb;omega);simp only[nX,tK,ab5]at hgr ⊢;exact⟨_,_,hr,hgr.1,hgr.2.1,.inr hgr.2.2⟩|some b0=>have hr:=acm (P:=P) w t ty e i z ht hi hz b0 0 0 [] (by simp) (by simp) a m c news hl hnews (by omega) (by omega) (acr (by omega) hbytes);simp only[nX,tK,ab5]at hgr hr ⊢;exact⟨_,_,hr,hgr.1,hgr.2.1,.inr hgr.2.2⟩
 ·have bI:∀k,ownB (.slice (some ⟨g,0,none⟩) k cap)=some g:=fun k=>by simp[ownB,Av.1 hcp]
  by_cases hroom:n+m<=cap
  ·have hfit:n*i.size+news.length<=cur.size:=by rw[hl,hcs,<-nY];exact Pq _ hroom
   have hr:=run_append_room (P:=P) w t ty e i ht hi g n cap cur hg a m c news hl hnews h1 hroom hfit;refine⟨_,_,hr,⟨hlen,.inr ⟨g,cap,_,rfl,hcp,hbg,setRow_heap w g cur _ e _ hg,hroom,hcm,?_,?_⟩⟩,⟨rfl,rfl,rfl,by simp,fun k _ hk=>setRow_other w g k _ (fun e=>hk (by rw[bI,e]))⟩,.inl (by rw[bI,bI])⟩;·simp only[Jw,bT,eY,PG,Array.length_toList];omega
   ·rw[htake,<-hlen];exact aco
  ·have holds:∀j u,xs[j]?=some u->w.cell? ((⟨g,0,none⟩:Addr).add j)=some u:=by
    intro j u hu;have hadd:(⟨g,0,none⟩:Addr).add j=⟨g,j,none⟩:=by unfold Addr.add;split<;>simp_all
    rw[hadd];exact hown.cells rfl hcp j u hu
   have hr:=acm (P:=P) w t ty e i z ht hi hz ⟨g,0,none⟩ n cap xs hown.1 holds a m c news hl hnews (by omega) (by omega) (acr (by omega) hbytes);have hgr:=grown cap (by omega) (ownB (.slice (some ⟨g,0,none⟩) n cap));exact⟨_,_,hr,hgr.1,hgr.2.1,.inr hgr.2.2⟩
section
variable {α : Type}
def aG(w:World)(base:Nat)(E:TypeId)(size:Nat)(R:(Nat->Prop)->World->α->List Value->Prop)(A:Nat->Prop)(xs:List α)(v:Value):Prop:=∃vals:List (List Value),vals.length=xs.length/\Own w base E size v xs.length vals.flatten/\∀(i:Nat)x(vs:List Value),xs[i]?=some x->vals[i]?=some vs->vs.length=size/\R (fun b=>A b/\ownB v≠some b) w x vs
theorem aG.nil(w:World)(base:Nat)(E:TypeId)(size:Nat)(R:(Nat->Prop)->World->α->List Value->Prop)(A:Nat->Prop):aG w base E size R A [] (.slice none 0 0):=⟨[],rfl,Own.nil w base E size,fun i x vs hx=>by simp at hx⟩
theorem aG.keeps{w w':World}{base:Nat}{E:TypeId}{size:Nat}{R:(Nat->Prop)->World->α->List Value->Prop}{A B:Nat->Prop}{xs:List α}{v:Value}(hR:iq R)(h:aG w base E size R A xs v)(hk:af B w w')(hA:∀b,A b->B b)(hB:∀k,ownB v=some k->B k):aG w' base E size R A xs v:=by obtain⟨vals,hl,ho,he⟩:=h;refine⟨vals,hl,ho.keeps hk hB,fun i x vs hx hv=>?_⟩;obtain⟨h1,h2⟩:=he i x vs hx hv;exact⟨h1,hR.1 _ w w' x vs h2 (hk.mono fun b _ hb=>hA b hb.1)⟩
theorem aG.mono{w:World}{base:Nat}{E:TypeId}{size:Nat}{R:(Nat->Prop)->World->α->List Value->Prop}{A A':Nat->Prop}{xs:List α}{v:Value}(hR:iq R)(h:aG w base E size R A xs v)(hA:∀b,b<w.heap.size->A b->A' b):aG w base E size R A' xs v:=by obtain⟨vals,hl,ho,he⟩:=h;refine⟨vals,hl,ho,fun i x vs hx hv=>?_⟩;obtain⟨h1,h2⟩:=he i x vs hx hv;exact⟨h1,hR.2.1 _ _ _ _ _ h2 fun b hb hb'=>⟨hA b hb hb'.1,hb'.2⟩⟩
theorem aG.below{w w':World}{base:Nat}{E:TypeId}{size:Nat}{R:(Nat->Prop)->World->α->List Value->Prop}{A:Nat->Prop}{xs:List α}{v:Value}(hR:iq R)(h:aG w base E size R A xs v)(hk:Below w.heap.size w w'):aG w' base E size R A xs v:=h.keeps hR (af.ob (A:=fun _=>True) hk) (fun _ _=>trivial) (fun _ _=>trivial)
theorem aG.alloc{w:World}{base:Nat}{E:TypeId}{size:Nat}{R:(Nat->Prop)->World->α->List Value->Prop}{A:Nat->Prop}{xs:List α}{v:Value}(hR:iq R)(h:aG w base E size R A xs v)(o:Obj):aG (w.alloc o) base E size R A xs v:=h.keeps hR (af.alloc (fun _=>True) w o) (fun _ _=>trivial) (fun _ _=>trivial)
theorem aG.lt{w:World}{base:Nat}{E:TypeId}{size:Nat}{R:(Nat->Prop)->World->α->List Value->Prop}{A:Nat->Prop}{xs:List α}{v:Value}(h:aG w base E size R A xs v):∀k,ownB v=some k->base<=k/\k<w.heap.size:=by obtain⟨vals,hl,ho,he⟩:=h;exact ho.lt
theorem aG.val{w:World}{base:Nat}{E:TypeId}{size:Nat}{R:(Nat->Prop)->World->α->List Value->Prop}{A:Nat->Prop}{xs:List α}{v:Value}(h:aG w base E size R A xs v):∃a cap,v= .slice a xs.length cap/\cap<=maxLen:=by obtain⟨vals,hl,ho,he⟩:=h;exact ho.val
theorem PQ{size:Nat}:∀(vals:List (List Value)),(∀(i:Nat)(vs:List Value),vals[i]?=some vs->vs.length=size)->vals.flatten.length=vals.length*size|[],_=>by simp|v::r,h=>by rw[PE,bT,PQ r (fun i vs hi=>h (i+1) vs (by simpa using hi)),h 0 v rfl,cK,nY];omega
theorem Ei{size:Nat}:∀(vals:List (List Value)),(∀(i:Nat)(vs:List Value),vals[i]?=some vs->vs.length=size)->∀(i j:Nat)(vs:List Value),vals[i]?=some vs->j<size->vals.flatten[i*size+j]?=vs[j]?|[],_,i,j,vs,hi,_=>by simp at hi|v::r,h,0,j,vs,hi,hj=>by simp at hi;subst hi;have :=h 0 v rfl;rw[PE,Ef,nX,tH (by omega)]|v::r,h,i+1,j,vs,hi,hj=>by have h0:=h 0 v rfl;rw[PE,uN (by rw[h0,nY];omega),h0,show(i+1)*size+j - size=i*size+j by rw[nY];omega];exact Ei r (fun i vs hi=>h (i+1) vs (by simpa using hi)) i j vs (by simpa using hi) hj
theorem aG.sl{w:World}{base:Nat}{E:TypeId}{size:Nat}{R:(Nat->Prop)->World->α->List Value->Prop}{A:Nat->Prop}{xs:List α}{v:Value}(hR:iq R)(h:aG w base E size R A xs v)(hlen:xs.length<=1048576)(hA:∀b,base<=b->A b):au size R A w xs v:=by
 obtain⟨vals,hl,ho,he⟩:=h;have hsz:∀(i:Nat)(vs:List Value),vals[i]?=some vs->vs.length=size:=fun i vs hv=>by
  have hi:i<xs.length:=by have :=(gT.1 hv).1;omega
  exact(he i _ vs (aT hi) hv).1
 rcases ho.2 with⟨h0,a,rfl⟩|⟨g,cap,cur,rfl,hc,hb,hg,hnc,hcm,hcs,htake⟩;·have :xs=[]:=Cj h0;subst this;exact⟨0,0,⟨by simp,.inl ⟨rfl,a,0,rfl,by simp[maxLen]⟩⟩,fun i x hx=>by simp at hx⟩
 ·by_cases h0:xs.length=0;·have :xs=[]:=Cj h0;subst this;exact⟨0,0,⟨by simp,.inl ⟨rfl,_,cap,rfl,hcm⟩⟩,fun i x hx=>by simp at hx⟩
  refine⟨g,0,⟨hlen,.inr ⟨by omega,hA g hb,cap,rfl,hnc,hcm⟩⟩,fun i x hx=>?_⟩;have hi:i<vals.length:=by have :=(gT.1 hx).1;omega
  have hv:=aT hi;obtain⟨h1,h2⟩:=he i x _ hx hv;refine⟨vals[i],h1,hR.2.1 _ _ w x _ h2 (fun b _ hb=>hb.1),fun j u hj=>?_⟩;have hjl:j<size:=by have :=(gT.1 hj).1;omega
  rw[nX];exact ho.cells rfl hc _ u (by rw[Ei vals hsz i j _ hv hjl];exact hj)
theorem aG.sl'{w:World}{base:Nat}{E:TypeId}{size:Nat}{R:(Nat->Prop)->World->α->List Value->Prop}{A:Nat->Prop}{xs:List α}{v:Value}(hR:iq R)(h:aG w base E size R A xs v)(hlen:xs.length<=1048576)(hA:∀b,ownB v=some b->A b):au size R A w xs v:=by
 obtain⟨vals,hl,ho,he⟩:=h;have hsz:∀(i:Nat)(vs:List Value),vals[i]?=some vs->vs.length=size:=fun i vs hv=>by
  have hi:i<xs.length:=by have :=(gT.1 hv).1;omega
  exact(he i _ vs (aT hi) hv).1
 rcases ho.2 with⟨h0,a,rfl⟩|⟨g,cap,cur,rfl,hc,hb,hg,hnc,hcm,hcs,htake⟩;·have :xs=[]:=Cj h0;subst this;exact⟨0,0,⟨by simp,.inl ⟨rfl,a,0,rfl,by simp[maxLen]⟩⟩,fun i x hx=>by simp at hx⟩
 ·by_cases h0:xs.length=0;·have :xs=[]:=Cj h0;subst this;exact⟨0,0,⟨by simp,.inl ⟨rfl,_,cap,rfl,hcm⟩⟩,fun i x hx=>by simp at hx⟩
  refine⟨g,0,⟨hlen,.inr ⟨by omega,hA g (by simp[ownB,Av.1 hc]),cap,rfl,hnc,hcm⟩⟩,fun i x hx=>?_⟩;have hi:i<vals.length:=by have :=(gT.1 hx).1;omega
  have hv:=aT hi;obtain⟨h1,h2⟩:=he i x _ hx hv;refine⟨vals[i],h1,hR.2.1 _ _ w x _ h2 (fun b _ hb=>hb.1),fun j u hj=>?_⟩;have hjl:j<size:=by have :=(gT.1 hj).1;omega
  rw[nX];exact ho.cells rfl hc _ u (by rw[Ei vals hsz i j _ hv hjl];exact hj)
theorem acE{P:Program}(w:World)(base:Nat)(t ty e:TypeId)(i:TypeInfo)(z:Value)(size bytes:Nat)(ht:P.underlying t=some (.slice e))(hi:P.info? e=some i)(hz:i.zero=some z)(hsize:i.size=size)(hby:i.bytes=bytes)(hzs:z.cells.size=size)(hs0:0<size){R:(Nat->Prop)->World->α->List Value->Prop}(hR:iq R){A:Nat->Prop}(v:Value)(xs:List α)(hown:aG w base e size R A xs v)(gb off c:Nat)(ys:List α)(hys:mF (fun b=>A b/\ownB v≠some b) w size R ys gb off)(h63:xs.length+ys.length<=maxLen)(hbytes:(xs.length+ys.length)*bytes<=140737488355328)(hbase:base<=w.heap.size):∃v' w',(Builtin.append_ #[t,t] ty #[v,.slice (some ⟨gb,off,none⟩) ys.length c]).run P w= .ok v' w'/\aG w' base e size R A (xs++ys) v'/\w.grownBy w' (ownB v)/\(ownB v'=ownB v\/∀k,ownB v'=some k->w.heap.size<=k):=by
 obtain⟨vals,hl,ho,he⟩:=hown;have hch:∀n,n<=ys.length->∃nv:List (List Value),nv.length=n/\∀(i:Nat)x(vs:List Value),ys[i]?=some x->nv[i]?=some vs->vs.length=size/\R (fun b=>A b/\ownB v≠some b) w x vs/\nz w gb (off+i*size) vs:=by
  intro n;induction n with
   |zero=>exact fun _=>⟨[],rfl,fun i x vs _ h=>by simp at h⟩
   |succ n ih=>
    intro hn;obtain⟨nv,h1,h2⟩:=ih (by omega);obtain⟨vs,h3,h4,h5⟩:=hys n _ (aT (by omega));refine⟨nv++[vs],by simp[h1],fun i x us hx hu=>?_⟩;by_cases hin:i<n;·rw[tH (by omega)]at hu;exact h2 i x us hx hu
    ·have :i=n:=by have :=(gT.1 hu).1;simp at this;omega
     subst this;rw[uN (by omega),h1]at hu;simp at hu;subst hu;rw[aT (by omega)]at hx;simp at hx;subst hx;exact⟨h3,h4,h5⟩
 obtain⟨nv,hnl,hn⟩:=hch ys.length (zL _);have hsz:∀(i:Nat)(vs:List Value),nv[i]?=some vs->vs.length=size:=fun i vs hv=>by
  have hi:i<ys.length:=by have :=(gT.1 hv).1;omega
  exact(hn i _ vs (aT hi) hv).1
 have hfl:=PQ nv hsz;have hcell:∀j u,nv.flatten[j]?=some u->w.cell? ((⟨gb,off,none⟩:Addr).add j)=some u:=by
  intro j u hj;have hjl:j<nv.length*size:=by have :=(gT.1 hj).1;omega
  have hadd:(⟨gb,off,none⟩:Addr).add j=⟨gb,off+j,none⟩:=by unfold Addr.add;split<;>simp_all
  have Vs:j=j/size*size+j%size:=by rw[Nat.mul_comm];exact(Nat.div_add_mod j size).symm
  have hi:j/size<nv.length:=Nat.div_lt_of_lt_mul (by rw[Nat.mul_comm];exact hjl);have hv:=aT hi;have hx:ys[j/size]?=some (ys[j/size]'(by omega)):=aT (by omega);obtain⟨h1,h2,h3⟩:=hn (j/size) _ _ hx hv;rw[Vs,Ei nv hsz _ _ _ hv (Nat.mod_lt _ hs0)]at hj;have :=h3 _ u hj;rw[hadd,show off+j=off+j/size*size+j%size by omega];exact this
 have h1:∀u∈nv.flatten,u.oneCell'=true:=by intro u hu;obtain⟨vs,hvs,huv⟩:=List.mem_flatten.1 hu;obtain⟨i,hi,rfl⟩:=ng.1 hvs;have hv:=aT hi;have hx:ys[i]?=some (ys[i]'(by omega)):=aT (by omega);exact hR.2.2 _ _ _ _ (hn i _ _ hx hv).2.1 u huv
 obtain⟨v',w',hrun,hown',hg,hb⟩:=amb w base t ty e i z size bytes ht hi hz hsize hby hzs v xs.length _ ho ⟨gb,off,none⟩ ys.length c nv.flatten (by rw[hfl,hnl]) hcell h1 h63 hbytes hbase;refine⟨v',w',hrun,⟨vals++nv,by simp[hl,hnl],?_,?_⟩,hg,hb⟩;·simpa using hown'
 ·have hkeep:∀x vs,R (fun b=>A b/\ownB v≠some b) w x vs->R (fun b=>A b/\ownB v'≠some b) w' x vs:=by
   intro x vs hr;have h2:R (fun b=>(A b/\ownB v'≠some b)/\ownB v≠some b) w x vs:=by
    refine hR.2.1 _ _ w x vs hr fun b hbl hb'=>⟨⟨hb'.1,?_⟩,hb'.2⟩;rcases hb with hb|hb;·rw[hb];exact hb'.2
    ·intro e;have :=hb b e;omega
   have h3:=hR.1 _ w w' x vs h2 (af.grown hg fun b hb'=>hb'.2);exact hR.2.1 _ _ w' x vs h3 fun b _ hb'=>hb'.1
  intro i x vs hx hv;by_cases hi':i<xs.length;·rw[tH (by omega)]at hx hv;obtain⟨h1,h2⟩:=he i x vs hx hv;exact⟨h1,hkeep _ _ h2⟩
  ·rw[uN (by omega)]at hx hv;rw[hl]at hv;obtain⟨h1,h2,_⟩:=hn _ x vs hx hv;exact⟨h1,hkeep _ _ h2⟩
end
def nZ(P:Program)(t e:TypeId)(size bytes:Nat):Prop:=(∃i z,P.underlying t=some (.slice e)/\P.info? e=some i/\i.zero=some z/\i.size=size/\i.bytes=bytes/\z.cells.size=size)/\0<size/\bytes<=256
theorem nZ.mk'{P:Program}{t e:TypeId}{size bytes:Nat}{z:Value}(ht:P.underlying t=some (.slice e))(hi:(P.info? e).map (fun i=>(i.zero,i.size,i.bytes))=some (some z,size,bytes))(hz:z.cells.size=size)(h0:0<size)(hb:bytes<=256):nZ P t e size bytes:=by obtain⟨i0,hi0,h1,h2,h3⟩:=info_parts hi;exact⟨⟨i0,z,ht,hi0,h1,h2,h3,hz⟩,h0,hb⟩
structure kK (w w' : World) (v v' : Value) : Prop where
  grown : w.grownBy w' (ownB v)
  block : ownB v' = ownB v ∨ ∀ k, ownB v' = some k → w.heap.size ≤ k
theorem kK.below{B:Nat}{w0 w w':World}{v v':Value}(h:kK w w' v v')(hb:Below B w0 w)(hB:B<=w.heap.size)(hv:∀k,ownB v=some k->B<=k):Below B w0 w':=hb.grown h.grown hB hv
theorem kK.ch{M:Nat->Prop}{w0 w w':World}{v v':Value}(h:kK w w' v v')(hb:Ch M w0 w)(hv:∀k,ownB v=some k->M k\/w0.heap.size<=k):Ch M w0 w':=hb.grown h.grown hv
theorem kK.size{w w':World}{v v':Value}(h:kK w w' v v'):w.heap.size<=w'.heap.size:=h.grown.size
theorem kK.keeps{A:Nat->Prop}{w w':World}{v v':Value}(h:kK w w' v v')(hA:∀b,A b->ownB v≠some b):af A w w':=af.grown h.grown hA
section
variable {α : Type}
theorem Gn{A:Nat->Prop}{w:World}{size:Nat}{R:(Nat->Prop)->World->α->List Value->Prop}(hR:iq R){x:α}{vs:List Value}(E:TypeId)(hl:vs.length=size)(h:R A w x vs):mF A (w.alloc (.cells vs.toArray E)) size R [x] w.heap.size 0:=by intro i y hy;cases i with|succ i=>simp at hy|zero=>simp at hy;subst hy;refine⟨vs,hl,hR.1 _ _ _ _ _ h (af.alloc _ _ _),fun j u hj=>?_⟩;simp only[Ef,nX,World.cell?_alloc_new];simpa using hj
theorem oh{P:Program}{w:World}{o:Oper}{a:Act}{K:Act->World->Prop}{Q:Exit->Act->World->Prop}(s x:Operand)(t:TypeId)(ho:o.op= .call {callee:= .builtin .append,args:=#[s,x],argTypes:=#[t,t]})(base:Nat)(e:TypeId)(size bytes:Nat)(hty:nZ P t e size bytes){R:(Nat->Prop)->World->α->List Value->Prop}(hR:iq R){A:Nat->Prop}(v:Value)(xs:List α)(hs:a.eval s=v)(hown:aG w base e size R A xs v)(y:α)(vs:List Value)(hx:a.eval x= .slice (some ⟨w.heap.size,0,none⟩) 1 1)(hvl:vs.length=size)(hvs:R (fun b=>A b/\ownB v≠some b) w y vs)(hlen:xs.length<4194304/\base<=w.heap.size)(h:∀v' w',aG w' base e size R A (xs++[y]) v'->kK (w.alloc (.cells vs.toArray e)) w' v v'->K (a.put o.dst v') w'):o.wp P a (w.alloc (.cells vs.toArray e)) K Q:=by obtain⟨⟨i,z,ht,hi,hz,h1,h2,h3⟩,h0,hb⟩:=hty;have hmul:(xs.length+[y].length)*bytes<=(xs.length+[y].length)*256:=Nat.mul_le_mul_left _ hb;obtain⟨v',w',hr,k1,k2,k3⟩:=acE (P:=P) (w.alloc (.cells vs.toArray e)) base t o.type e i z size bytes ht hi hz h1 h2 h3 h0 hR v xs (hown.alloc hR _) w.heap.size 0 1 [y] (Gn hR e hvl hvs) (by simp only[maxLen,jr];omega) (by simp only[jr]at hmul ⊢;omega) (by simp only[bQ];omega);unfold Oper.wp execOp;simp only[ho,resolve,invoke,builtin,acA,acz,ab8,ab9,qp,AA,hs,hx];rw[show([y]:List α).length=1 from rfl]at hr;rw[hr];exact h v' w' k1 ⟨k2,k3⟩
theorem jf{P:Program}{w:World}{ops:Array Oper}{rest:List Oper}{o:Oper}{a:Act}{Q:Exit->Act->World->Prop}(hgd:o.guard=none)(s x:Operand)(t:TypeId)(ho:o.op= .call {callee:= .builtin .append,args:=#[s,x],argTypes:=#[t,t]})(base:Nat)(e:TypeId)(size bytes:Nat)(hty:nZ P t e size bytes){R:(Nat->Prop)->World->α->List Value->Prop}(hR:iq R){A:Nat->Prop}(v:Value)(xs:List α)(hs:a.eval s=v)(hown:aG w base e size R A xs v)(y:α)(vs:List Value)(hx:a.eval x= .slice (some ⟨w.heap.size,0,none⟩) 1 1)(hvl:vs.length=size)(hvs:R (fun b=>A b/\ownB v≠some b) w y vs)(hlen:xs.length<4194304/\base<=w.heap.size)(h:∀v' w',aG w' base e size R A (xs++[y]) v'->kK (w.alloc (.cells vs.toArray e)) w' v v'->wpList P ops Q rest (a.put o.dst v') w'):wpList P ops Q (o::rest) a (w.alloc (.cells vs.toArray e)):=wpList_plain hgd fun _ hK=>oh s x t ho base e size bytes hty hR v xs hs hown y vs hx hvl hvs hlen fun v' w' k1 k2=>hK _ _ (h v' w' k1 k2)
theorem JF{w wc w1:World}{base:Nat}{E:TypeId}{size:Nat}{S:(Nat->Prop)->World->α->List Value->Prop}{β:Type}{T:(Nat->Prop)->World->β->List Value->Prop}{A:Nat->Prop}{xs:List β}{v:Value}(hS:iq S){y:α}{vs:List Value}(hown:aG w base E size T A xs v)(hw:w.heap.size<=wc.heap.size)(hA:∀b,wc.heap.size<=b->A b)(h:S (New wc) w1 y vs):S (fun b=>A b/\ownB v≠some b) w1 y vs:=hS.2.1 _ _ _ _ _ h fun b _ hn=>⟨hA b hn,fun e=>by have h1:=(hown.lt b e).2;unfold New at hn;omega⟩
end
inductive Tm where
  | mk (kind n : Int) (s : ByteArray) (args : List Tm)
  deriving Inhabited
namespace Tm
def kind:Tm->Int|mk k _ _ _=>k
def n:Tm->Int|mk _ n _ _=>n
def s:Tm->ByteArray|mk _ _ s _=>s
def args:Tm->List Tm|mk _ _ _ l=>l
theorem induct{P:Tm->Prop}(h:∀k n s l,(∀t∈l,P t)->P (mk k n s l)):∀t,P t:=by intro t;refine Tm.rec (motive_1:=P) (motive_2:=fun l=>∀t∈l,P t) (fun k n s l ih=>h k n s l ih) (fun t ht=>by cases ht) (fun x r hx hr t ht=>?_) t;cases ht with|head=>exact hx|tail _ hm=>exact hr t hm
mutual
def rep (A : Nat → Prop) (w : World) : Tm → List Value → Prop
  | mk k n s l, vs => aA k ∧ aA n ∧ s.size ≤ 1048576 ∧ ∃ v b off, vs = [.int .i64 k, .int .i64 n, .string s, v] ∧ Eh A l.length v b off ∧ JG A w l b off
def JG (A : Nat → Prop) (w : World) : List Tm → Nat → Nat → Prop
  | [], _, _ => True
  | t :: r, b, off => (∃ vs, rep A w t vs ∧ nz w b off vs) ∧ JG A w r b (off + 4)
end
theorem amc{A:Nat->Prop}{w:World}{t:Tm}{vs:List Value}(h:rep A w t vs):vs.length=4:=by cases t;simp only[rep]at h;obtain⟨_,_,_,v,b,off,rfl,_⟩:=h;rfl
theorem amd{A:Nat->Prop}{w:World}(l:List Tm):∀(b off:Nat),JG A w l b off↔mF A w 4 rep l b off:=by
 induction l with
  |nil=>intro b off;simp[JG,mF]
  |cons t r ih=>
   intro b off;simp only[JG,ih];constructor;·rintro⟨⟨vs,h1,h2⟩,h3⟩i x hx;cases i with|zero=>simp at hx;subst hx;exact⟨vs,amc h1,h1,by simpa using h2⟩|succ i=>obtain⟨us,h4,h5,h6⟩:=h3 i x (by simpa using hx);exact⟨us,h4,h5,by rw[show off+(i+1)*4=off+4+i*4 by omega];exact h6⟩
   ·intro h;refine⟨?_,fun i x hx=>?_⟩;·obtain⟨vs,_,h1,h2⟩:=h 0 t rfl;exact⟨vs,h1,by simpa using h2⟩
    ·obtain⟨vs,h1,h2,h3⟩:=h (i+1) x (by simpa using hx);exact⟨vs,h1,h2,by rw[show off+4+i*4=off+(i+1)*4 by omega];exact h3⟩
theorem gL{A:Nat->Prop}{w:World}{k n:Int}{s:ByteArray}{l:List Tm}{vs:List Value}:rep A w (mk k n s l) vs↔aA k/\aA n/\s.size<=1048576/\∃v,vs=[.int .i64 k,.int .i64 n,.string s,v]/\au 4 rep A w l v:=by
 simp only[rep,amd,au];constructor;·rintro⟨h1,h2,h3,v,b,off,rfl,h4,h5⟩;exact⟨h1,h2,h3,v,rfl,b,off,h4,h5⟩
 ·rintro⟨h1,h2,h3,v,rfl,b,off,h4,h5⟩;exact⟨h1,h2,h3,v,b,off,rfl,h4,h5⟩
theorem aj:iq rep:=by
 refine⟨fun A w w' t=>?_,fun A A' w t=>?_,fun A w t vs h=>?_⟩
 ·induction t using induct with
   |h k n s l ih=>
    intro vs h hk;rw[gL]at h ⊢;obtain⟨h1,h2,h3,v,rfl,b,off,h4,h5⟩:=h;refine⟨h1,h2,h3,v,rfl,b,off,h4,fun i x hx=>?_⟩;obtain⟨us,h6,h7,h8⟩:=h5 i x hx;have hA:A b:=by
     obtain⟨_,⟨h0,_⟩|⟨_,hA,_⟩⟩:=h4;·have :=(gT.1 hx).1;omega
     ·exact hA
    exact⟨us,h6,ih x (Pt hx) us h7 hk,h8.keeps hA hk⟩
 ·induction t using induct with
   |h k n s l ih=>
    intro vs h hk;rw[gL]at h ⊢;obtain⟨h1,h2,h3,v,rfl,b,off,h4,h5⟩:=h;refine⟨h1,h2,h3,v,rfl,b,off,?_,fun i x hx=>?_⟩
    ·by_cases hl:l=[]
     ·subst hl;obtain⟨h6,h7|⟨h7,_⟩⟩:=h4;·exact⟨h6,.inl h7⟩
      ·simp at h7
     ·exact h4.mono (hk b (h5.block_lt (by omega) hl))
    ·obtain⟨us,h6,h7,h8⟩:=h5 i x hx;exact⟨us,h6,ih x (Pt hx) us h7 hk,h8⟩
 ·cases t with|mk k n s l=>rw[gL]at h;obtain⟨_,_,_,v,rfl,b,off,h4,_⟩:=h;obtain⟨a,cap,rfl,_⟩:=h4.val;simp[Value.oneCell']
theorem dw{A:Nat->Prop}{w:World}{t:Tm}{vs:List Value}(h:rep A w t vs):∃a cap,vs=[.int .i64 t.kind,.int .i64 t.n,.string t.s,.slice a t.args.length cap]/\aA t.kind/\aA t.n/\t.s.size<=1048576/\t.args.length<=cap/\cap<=maxLen/\t.args.length<=1048576/\au 4 rep A w t.args (.slice a t.args.length cap):=by cases t with|mk k n s l=>rw[gL]at h;obtain⟨h1,h2,h3,v,rfl,h4⟩:=h;obtain⟨a,cap,b,off,rfl,h5,h6,h7,_,_⟩:=h4.at;exact⟨a,cap,rfl,h1,h2,h3,h5,h6,h7,h4⟩
end Tm
theorem Vt{w:World}{b off:Nat}{v0 v1 v2 v3:Value}(h:nz w b off [v0,v1,v2,v3]):w.cell? ⟨b,off,none⟩=some v0/\w.cell? ⟨b,off+1,none⟩=some v1/\w.cell? ⟨b,off+2,none⟩=some v2/\w.cell? ⟨b,off+3,none⟩=some v3:=⟨h 0 _ rfl,h 1 _ rfl,h 2 _ rfl,h 3 _ rfl⟩
theorem gq{A:Nat->Prop}{w wr:World}{l:List Tm}{b off:Nat}(he:mF A w 4 Tm.rep l b off)(hA:A b)(hk:af A w wr){k:Nat}(hlt:k<l.length):∃a cap,wr.cell? ⟨b,off+k*4,none⟩=some (.int .i64 l[k].kind)/\wr.cell? ⟨b,off+k*4+1,none⟩=some (.int .i64 l[k].n)/\wr.cell? ⟨b,off+k*4+2,none⟩=some (.string l[k].s)/\wr.cell? ⟨b,off+k*4+3,none⟩=some (.slice a l[k].args.length cap)/\Tm.rep A wr l[k] [.int .i64 l[k].kind,.int .i64 l[k].n,.string l[k].s,.slice a l[k].args.length cap]:=by obtain⟨vs,hvl,PR,hrow⟩:=he k _ (aT hlt);have ame:=Tm.aj.1 _ _ wr _ _ PR hk;have hrow':=nz.keeps hA hrow hk;obtain⟨sa,sc,rfl, -⟩:=Tm.dw PR;obtain⟨c0,c1,c2,c3⟩:=Vt hrow';exact⟨sa,sc,c0,c1,c2,c3,ame⟩
abbrev eP:=au 4 Tm.rep
theorem eP.keeps{A:Nat->Prop}{w w':World}{l:List Tm}{v:Value}(h:eP A w l v)(hk:af A w w'):eP A w' l v:=au.keeps Tm.aj h hk
theorem eP.below{A:Nat->Prop}{w w':World}{l:List Tm}{v:Value}(h:eP A w l v)(hk:Below w.heap.size w w'):eP A w' l v:=au.keeps Tm.aj h (af.ob hk)
theorem rz:nZ Tryz.prog 23 34 4 56:= .mk' (z:= .agg #[.int .i64 0,.int .i64 0,.string .empty,.slice none 0 0]) Tryz.underlying23 (by kernel_rfl) rfl (by omega) (by omega)
def Vu(t:Tm):Prop:=∀(A:Nat->Prop)(w:World)(vs:List Value),Tm.rep A w t vs->Calls Tryz.prog 18 #[.agg vs.toArray] w (Pure w fun v w'=>∃us,v= .agg us.toArray/\Tm.rep (New w) w' t us)
def Vv(l:List Tm):Prop:=∀(A:Nat->Prop)(w:World)(v:Value),eP A w l v->Calls Tryz.prog 10 #[v] w (Pure w fun v' w'=>eP (New w) w' l v')
theorem acF(l:List Tm)(ih:∀t∈l,Vu t):Vv l:=by
 intro A w v hv;obtain⟨a,cap,b,off,rfl,hlc,hcm,hlb,ha,he⟩:=hv.at;have HE:=zh he;have HA:=zh ha;clear hv he ha;go_enter Tryz.func10,Tryz.ntmps10;go_wp2_with fail;go_loopw[3,8](fun v i wr=>∃k:Nat,k<=l.length/\i= .int .i64 k/\Below w.heap.size w wr/\aG wr w.heap.size 34 4 Tm.rep (New w) (l.take k) v)(fun _ i _=>l.length - (intOf i).toNat);case atStart=>exact⟨0,dn _,rfl,zB _ _,by simpa using aG.nil ..⟩
 case round=>
  obtain⟨k,hk,rfl,hb,hown⟩:=hrel;have hz:=hb.size;have HO:=zh hown;have HB:=zh hb;clear hown hb;by_cases hlt:k<l.length
  ·obtain⟨rfl,bC⟩:=HA.o (by omega);obtain⟨sa,sc,c0,c1,c2,c3,hr⟩:=gq HE.o bC (af.ob HB.o) hlt;have HC:=zh (ih _ (bO hlt) _ (wr.alloc _) _ (Tm.aj.1 _ _ _ _ _ hr (af.alloc _ _ (.cells (#[.int .i64 l[k].kind,.int .i64 l[k].n,.string l[k].s,.slice sa l[k].args.length sc]:Array Value) 34))));clear hr;go_wp2_with fail;refine(HC.o).mono ?_;rintro e w1⟨v,rfl,hb1,us,rfl,hr⟩;have hsz:=hb1.size;simp only[bQ]at hsz;obtain⟨sa',eQ,rfl, -⟩:=Tm.dw hr;have eT:=zh ((HO.o.alloc Tm.aj _).below Tm.aj hb1);have HN:=zh (JF Tm.aj HO.o (by simp) (A:=New w) (fun b hb=>by simp[New]at hb ⊢;omega) hr);have HL:=zh (show(l.take k).length<4194304/\w.heap.size<=w1.heap.size by simp;omega);have HB1:=zh ((HB.o.alloc hz _).trans (hb1.mono (by simp;omega)));clear hr hb1 HC;go_wp2_with(at_builtin;refine jf rfl (.tmp 12) (.tmp 15) 23 rfl w.heap.size 34 4 56 rz Tm.aj u3 (l.take k) rfl eT.o l[k] [_,_,_,_] rfl rfl HN.o HL.o ?_;intro v' w2 hown2 aB);go_roundw;case rel=>refine⟨k+1,by omega,by go_num,aB.below (HB1.o.alloc (by omega) _) (by simp;omega) (fun b hb=>(HO.o.lt b hb).1),?_⟩;rw[dX hlt];exact hown2
   case measure=>simp[intOf];omega
  ·have :k=l.length:=by omega
   subst this;go_wp2_with fail;go_ret;have hO:=HO.o;rw[jd]at hO;exact⟨_,rfl,HB.o,hO.sl Tm.aj hlb (fun b hb=>hb)⟩
theorem eB{w w1:World}{o:Obj}(h:Below (w.alloc o).heap.size (w.alloc o) w1):Below w.heap.size w w1:=((zB _ _).alloc (zL _) o).trans (h.mono (by simp))
theorem amf(k n:Int)(s:ByteArray)(l:List Tm)(ih:Vv l):Vu (.mk k n s l):=by
 intro A w vs hv;rw[Tm.gL]at hv;obtain⟨hk,hn,hs,v,rfl,hl⟩:=hv;obtain⟨a,cap,b,off,rfl, -⟩:=hl.at;have HC:=zh (fun W(hK:af A w W)=>ih A W _ (au.keeps Tm.aj hl hK));clear hl;go_enter Tryz.func18,Tryz.ntmps18;go_wp2_with fail;refine(HC.o _ ((af.alloc _ _ _).trans (af.alloc _ _ _))).mono ?_;rintro e w1⟨v,rfl,hb1,hr⟩;obtain⟨hc,hf⟩:=ama hb1;have hcs:=dH;obtain⟨a',cap',b',off',rfl, -⟩:=hr.at;have HR:=zh hr;have HB:=zh hb1;have hz:=hb1.size;simp only[bQ]at hz;clear hr hb1 HC;go_wp2_with fail;refine dD (v:= .agg #[.int .i64 k,.int .i64 n,.string s,.slice a' l.length cap']) (by simp[results,Tryz.results18,go_sem,hcs,hc]) rfl ⟨_,rfl,?_,[_,_,_,_],rfl,?_⟩;·refine bK (bK (bK (bK (bK (eB (eB HB.o)) ?_ _) ?_ _) ?_ _) ?_ _) ?_ _<;>simp
 ·rw[Tm.gL];refine⟨hk,hn,hs,_,rfl,?_⟩;have h1:=au.mono (A':=fun b=>New w b/\b≠w.heap.size/\b≠w.heap.size+1) Tm.aj (by omega) HR.o (fun b _ hb=>by simp only[New,bQ]at hb ⊢;omega);refine au.mono Tm.aj (by omega) (au.keeps Tm.aj h1 ?_) (fun b _ hb=>hb.1);refine af.trans (af.trans (af.trans (af.trans (af.setCell _ _ _ _ ?_) (af.setCell _ _ _ _ ?_)) (af.setCell _ _ _ _ ?_)) (af.setCell _ _ _ _ ?_)) (af.setCell _ _ _ _ ?_)<;>simp
theorem acG:∀t,Vu t:=by intro t;induction t using Tm.induct with|h k n s l ih=>exact amf k n s l (acF l ih)
theorem acH(l:List Tm):Vv l:=acF l fun t _=>acG t
section
variable {P : Program} {ops : Array Oper} {Q : Exit → Act → World → Prop} {F : Nat → World → Prop}
def waits(ops:Array Oper)(i k:Nat):Bool:=((ops[i]?).map fun o=>o.after.any fun e=>Region.binds .any e&&e.on==k).getD false
def tQ(P:Program)(ops:Array Oper)(F:Nat->World->Prop)(i:Nat)(o:Oper)(v:Value)(a:Act):Prop:=(Region.wanted o (yielded ops a.tmps)=true/\∀w,F i w->(execOp a.eval o).run P w= .ok (.value v) w)\/(Region.wanted o (yielded ops a.tmps)=false/\v=undef)
theorem tQ.wpOp{i:Nat}{o:Oper}{v:Value}{a:Act}(hi:ops[i]?=some o)(hy:tQ P ops F i o v a){K:Act->World->Prop}{w:World}(hS:F i w)(h:K (a.put o.dst v) w):wpOp P ops Q i K a w:=by
 unfold Go.wpOp;simp only[hi];rcases hy with⟨hw,hv⟩|⟨hw,rfl⟩;·simp only[hw,if_true,Oper.wp,hv w hS,Oper.upon];exact .inl h
 ·simp only[hw,mD,if_false];exact h
theorem tQ.of_same{i:Nat}{o:Oper}{v:Value}{a a':Act}(hy:tQ P ops F i o v a)(he:execOp a'.eval o=execOp a.eval o)(hw:Region.wanted o (yielded ops a'.tmps)=Region.wanted o (yielded ops a.tmps)):tQ P ops F i o v a':=by unfold tQ at*;rw[he,hw];exact hy
theorem amg{i j:Nat}{oi oj:Oper}{v:Value}(hj:ops[j]?=some oj)(hap:oi.apart ops oj=true)(hsi:∀cs b,oi.op≠ .select cs b)(hsj:∀cs b,oj.op≠ .select cs b)(hQ:∀c a w,Q (.panic c) (a.put oi.dst v) w->Q (.panic c) a w){K:Act->World->Prop}{a:Act}{w:World}(hy:tQ P ops F i oi v a)(h:wpOp P ops Q j K (a.put oi.dst v) w):wpOp P ops Q j (fun a' w'=>tQ P ops F i oi v a'/\K (a'.put oi.dst v) w') a w:=by
 obtain⟨h1,h2,h3⟩:=Oper.apart_spec hap;have keep:∀(a:Act),tQ P ops F i oi v a->∀u,tQ P ops F i oi v (a.put oj.dst u):=fun a hy u=>hy.of_same (execOp_put oi hsi a oj.dst u h3) (wanted_put oi a oj.dst u h3);have keepD:∀d,tQ P ops F i oi v {a with defers:=d::a.defers}:=fun d=>hy.of_same rfl rfl;unfold wpOp at*;simp only[hj]at*;rw[wanted_put oj a oi.dst v h1]at h;split
 ·rename_i hw;simp only[hw,if_true]at h;rcases h with h|⟨hasks,hlets⟩;case inr=>exact .inr ⟨by unfold Oper.asks at*;rw[execOp_put oj hsj a oi.dst v h1]at hasks;exact hasks,hlets⟩
  refine .inl ?_;unfold Oper.wp at*;rw[execOp_put oj hsj a oi.dst v h1]at h;generalize(execOp a.eval oj).run P w=r at*;cases r with
   |ok n w'=>
    cases n<;>simp only[Oper.upon]at h ⊢;case value u=>exact⟨keep a hy u,by rw[<-PK a v u h2];exact h⟩
    case skip=>exact⟨keep a hy _,by rw[<-PK a v undef h2];exact h⟩
    case defer d=>refine⟨keep _ (keepD d) _,?_⟩;rw[<-PK _ v undef h2,<-Act.put_defers];exact h
    case enter f args=>refine Calls.mono h fun e w'' he=>?_;cases e with|returned u=>exact⟨keep a hy u,by rw[<-PK a v u h2];exact he⟩|panicked c=>exact hQ _ _ _ he|outgrown=>exact he
    case row row args=>exact Rows.mono h fun u w'' he=>⟨keep a hy u,by rw[<-PK a v u h2];exact he⟩
   |halt x w'=>cases x<;>simp only[Oper.upon]at h ⊢;case panic u=>exact hQ _ _ _ h
 ·rename_i hw;simp only[hw]at h;exact⟨keep a hy _,by rw[<-PK a v undef h2];exact h⟩
def PS(ops:Array Oper)(F:Nat->World->Prop)(i:Nat)(w w':World):Prop:=∀k,waits ops i k=false->F k w->F k w'
def oo(P:Program)(ops:Array Oper)(Q:Exit->Act->World->Prop)(F:Nat->World->Prop):Nat->Array Bool->Act->World->Prop|0,listed,a,w=>Region.ready .any ops listed=[]/\Q .normal a w|fuel+1,listed,a,w=>(Region.ready .any ops listed=[]->Q .normal a w)/\∀i∈Region.ready .any ops listed,wpOp P ops Q i (fun a' w'=>PS ops F i w w'/\oo P ops Q F fuel (listed.setIfInBounds i true) a' w') a w
theorem Vw:∀(fuel:Nat)(listed:Array Bool)(a:Act)(w:World),oo P ops Q F fuel listed a w->wpAny P .any ops Q fuel listed a w|0,_,_,_,h=>h|fuel+1,_,_,_,h=>⟨h.1,fun i hi=>PN (fun a' w' h'=>Vw fuel _ a' w' h'.2) (h.2 i hi)⟩
theorem amh{i:Nat}{oi:Oper}{v:Value}(hi:ops[i]?=some oi)(hsel:∀(j:Nat)(o:Oper)cs b,ops[j]?=some o->o.op≠ .select cs b)(hQ:∀c a w,Q (.panic c) (a.put oi.dst v) w->Q (.panic c) a w):∀(fuel:Nat)(listed:Array Bool)(a:Act)(w:World),(∀j oj,ops[j]?=some oj->j≠i->listed.getD j true=false->(∀e∈oj.after,Region.binds .any e=true->e.on≠i)->oi.apart ops oj=true)->i∈Region.ready .any ops listed->tQ P ops F i oi v a->F i w->oo P ops Q F fuel (listed.setIfInBounds i true) (a.put oi.dst v) w->oo P ops Q F (fuel+1) listed a w:=by
 intro fuel;induction fuel with
  |zero=>
   intro listed a w _ hr hy hS H;refine⟨fun h=>(by rw[h]at hr;cases hr),fun j hj=>?_⟩;by_cases hji:j=i;·subst hji;exact hy.wpOp hi hS ⟨fun _ _ h=>h,H⟩
   ·have :=ready_mono hj hji;rw[H.1]at this;cases this
  |succ fuel ih=>
   intro listed a w hfree hr hy hS H;refine⟨fun h=>(by rw[h]at hr;cases hr),fun j hj=>?_⟩;by_cases hji:j=i;·subst hji;exact hy.wpOp hi hS ⟨fun _ _ h=>h,H⟩
   ·have h1:=H.2 j (ready_mono hj hji);obtain⟨hjun,oj,hoj,hall⟩:=mem_ready.1 hj;have hnot:∀e∈oj.after,Region.binds .any e=true->e.on≠i:=fun e he hb heq=>by
     have h1:=hall e he hb;have h0:=(mem_ready.1 hr).1;rw[heq]at h1;rcases Nat.lt_or_ge i listed.size with h'|h';·simp[h']at h0 h1;rw[h0]at h1;cases h1
     ·simp[Ck h']at h1
    have hwt:waits ops j i=false:=by simp only[waits,hoj,pq,nW];rw[Bool.eq_false_iff];intro hw;obtain⟨e,he,hb⟩:=Jv.1 hw;simp only[rq,xN]at hb;exact hnot e he hb.1 hb.2
    have h2:=amg hoj (hfree j oj hoj hji hjun hnot) (fun cs b=>hsel i oi cs b hi) (fun cs b=>hsel j oj cs b hoj) hQ hy h1;have hfree':∀k ok,ops[k]?=some ok->k≠i->(listed.setIfInBounds j true).getD k true=false->(∀e∈ok.after,Region.binds .any e=true->e.on≠i)->oi.apart ops ok=true:=fun k ok hk hki hun hno=>by
     refine hfree k ok hk hki ?_ hno;by_cases hjk:j=k;·subst hjk;exact hjun
     ·rw[ry true hjk]at hun;exact hun
    refine PN (fun a' w' h3=>⟨h3.2.1,?_⟩) h2;refine ih (listed.setIfInBounds j true) a' w' hfree' (ready_mono hr (tO hji)) h3.1 (h3.2.1 i hwt hS) ?_;rw[Array.setIfInBounds_comm _ _ hji];exact h3.2.2
theorem rA{i:Nat}{oi:Oper}{v:Value}{fuel:Nat}{listed:Array Bool}{a:Act}{w:World}(hi':ops.toList[i]?=some oi)(hs:Region.noSelect ops=true)(hf:Region.free .any ops listed i=true)(hr:(Region.ready .any ops listed).contains i=true)(hQ:∀c a w,Q (.panic c) (a.put oi.dst v) w->Q (.panic c) a w)(hy:tQ P ops F i oi v a)(hS:F i w)(h:oo P ops Q F fuel (listed.setIfInBounds i true) (a.put oi.dst v) w):oo P ops Q F (fuel+1) listed a w:=have hi:ops[i]?=some oi:=by rw[<-mr];exact hi'
 amh hi (al0 hs) hQ fuel listed a w (Region.free_spec hi hf) (by simpa using hr) hy hS h
theorem aM{i:Nat}{fuel:Nat}{listed:Array Bool}{a:Act}{w:World}(hr:Region.ready .any ops listed=[i])(h:wpOp P ops Q i (fun a' w'=>PS ops F i w w'/\oo P ops Q F fuel (listed.setIfInBounds i true) a' w') a w):oo P ops Q F (fuel+1) listed a w:=⟨fun h0=>(by rw[hr]at h0;cases h0),fun j hj=>(by rw[hr]at hj;simp only[gB]at hj;subst hj;exact h)⟩
theorem fO{listed:Array Bool}{a:Act}{w:World}(hr:Region.ready .any ops listed=[])(h:Q .normal a w):∀fuel,oo P ops Q F fuel listed a w|0=>⟨hr,h⟩|_+1=>⟨fun _=>h,by rw[hr];simp⟩
theorem aF{i:Nat}{o:Oper}{K:Act->World->Prop}{a:Act}{w:World}(hi':ops.toList[i]?=some o)(hg:Region.wanted o (yielded ops a.tmps)=true)(h:o.wp P a w K Q):wpOp P ops Q i K a w:=by
 have hi:ops[i]?=some o:=by rw[<-mr];exact hi'
 unfold Go.wpOp;simp only[hi,hg,if_true];exact .inl h
theorem iG{id:Nat}{a:Act}{w:World}(hm:P.follows .mixedOrders=true)(h:oo P ops Q F ops.size (Array.replicate ops.size false) a w.drew):(Code.region id ops true).wp P Q a w:=Vp hm (Vw _ _ _ _ h)
end
theorem aD{P:Program}{ops:Array Oper}{Q:Exit->Act->World->Prop}{F:Nat->World->Prop}{i:Nat}{oi:Oper}{v:Value}{fuel:Nat}{listed:Array Bool}{a:Act}{w:World}(hi':ops.toList[i]?=some oi)(hy:tQ P ops F i oi v a)(hS:F i w)(h:oo P ops Q F fuel (listed.setIfInBounds i true) (a.put oi.dst v) w)(hs:Region.noSelect ops=true:=by kernel_rfl)(hf:Region.free .any ops listed i=true:=by kernel_rfl)(hr:(Region.ready .any ops listed).contains i=true:=by kernel_rfl)(hQ:∀c a w,Q (.panic c) (a.put oi.dst v) w->Q (.panic c) a w:=by exact fun _ _ _ h=>h):oo P ops Q F (fuel+1) listed a w:=rA hi' hs hf hr hQ hy hS h
theorem zP:(∀(a:Act)(i:Nat)(v:Value),a.put (some i) v={a with tmps:=a.tmps.setIfInBounds i v})/\(∀(l:List Value)(i:Nat)(v:Value),l.toArray.setIfInBounds i v=(l.set i v).toArray)/\(∀(x v:Value)(l:List Value),(x::l).set 0 v=v::l)/\(∀(x v:Value)(l:List Value)(n:Nat),(x::l).set (n+1) v=x::l.set n v):=⟨fun _ _ _=>rfl,fun l i v=>xI l i v,fun _ _ _=>rfl,fun _ _ _ _=>rfl⟩
theorem zT{P:Program}{ops:Array Oper}{Q:Exit->Act->World->Prop}{F:Nat->World->Prop}(i:Nat){oi:Oper}{v:Value}{fuel:Nat}{listed:Array Bool}{a:Act}{w:World}(hS:F i w)(h:oo P ops Q F fuel (listed.setIfInBounds i true) (a.put oi.dst v) w)(hi':ops.toList[i]?=some oi:=by rfl)(hs:Region.noSelect ops=true:=by kernel_rfl)(hf:Region.free .any ops listed i=true:=by kernel_rfl)(hr:(Region.ready .any ops listed).contains i=true:=by kernel_rfl)(hQ:∀c a w,Q (.panic c) (a.put oi.dst v) w->Q (.panic c) a w:=by exact fun _ _ _ h=>h)(hg:Region.wanted oi (yielded ops a.tmps)=true:=by rfl)(hrun:∀w,F i w->(execOp a.eval oi).run P w= .ok (.value v) w:=by(intro w' hw;clear hw;go_simp<;>with_reducible rfl)):oo P ops Q F (fuel+1) listed a w:=rA hi' hs hf hr hQ (Or.inl ⟨hg,hrun⟩) hS h
namespace Tm
mutual
def ren (f : Int → Int) : Tm → Tm
  | mk k n s l => mk k (if k = 0 then f n else n) s (qx f l)
def qx (f : Int → Int) : List Tm → List Tm
  | [] => []
  | t :: r => ren f t :: qx f r
end
theorem JH(f:Int->Int)(l:List Tm):qx f l=l.map (ren f):=by induction l with|nil=>rfl|cons t r ih=>simp[qx,ih]
end Tm
def low(n:Int):Int:=n%1099511627776
theorem acI(n:Int):0<=low n/\low n<1099511627776:=by unfold low;omega
namespace Tm
mutual
def nodes : Tm → Nat
  | mk _ _ _ l => bq l + 1
def bq : List Tm → Nat
  | [] => 0
  | t :: r => nodes t + bq r
end
theorem Gp(t:Tm):0<t.nodes:=by cases t;simp[nodes]
theorem JI(l r:List Tm):bq (l++r)=bq l+bq r:=by induction l with|nil=>simp[bq]|cons t l ih=>simp only[tJ,bq,ih];omega
theorem Gq(l:List Tm)(j:Nat)(h:j<l.length):bq (l.take j)+nodes l[j]<=bq l:=by have h1:=JI (l.take (j+1)) (l.drop (j+1));rw[Ju,dX h,JI]at h1;simp only[bq]at h1;omega
variable {σ : Type}
def num(f:σ->Int->Int×σ)(st:σ)(k n:Int):Int×σ:=if k=0 then f st n else(n,st)
mutual
def aH (f : σ → Int → Int × σ) : σ → Tm → Tm × σ
  | st, mk k n s l => (mk k (num f st k n).1 s (aS f (num f st k n).2 l).1, (aS f (num f st k n).2 l).2)
def aS (f : σ → Int → Int × σ) : σ → List Tm → List Tm × σ
  | st, [] => ([], st)
  | st, t :: r => ((aH f st t).1 :: (aS f (aH f st t).2 r).1, (aS f (aH f st t).2 r).2)
end
theorem qy(f:σ->Int->Int×σ)(l:List Tm):∀(st:σ)(t:Tm),aS f st (l++[t])=((aS f st l).1++[(aH f (aS f st l).2 t).1],(aH f (aS f st l).2 t).2):=by induction l with|nil=>intro st t;simp[aS]|cons x r ih=>intro st t;simp[aS,ih]
theorem qz(f:σ->Int->Int×σ)(l:List Tm):∀st:σ,(aS f st l).1.length=l.length:=by induction l with|nil=>intro st;simp[aS]|cons x r ih=>intro st;simp[aS,ih]
theorem ami{sz:σ->Nat}{f:σ->Int->Int×σ}(hf:∀st n,sz (f st n).2<=sz st+1):∀(t:Tm)(st:σ),sz (aH f st t).2<=sz st+t.nodes:=by
 intro t;induction t using induct with
  |h k n s l ih=>
   intro st;have hL:∀(r:List Tm),(∀t∈r,t∈l)->∀st:σ,sz (aS f st r).2<=sz st+bq r:=by intro r;induction r with|nil=>intro _ st;simp[aS,bq]|cons x r ihr=>intro hm st;simp only[aS,bq];have h1:=ih x (hm x (nk ..)) st;have h2:=ihr (fun t ht=>hm t (ni _ ht)) (aH f st x).2;omega
   simp only[aH,nodes];have h1:=hL l (fun _ h=>h) (num f st k n).2;have h2:sz (num f st k n).2<=sz st+1:=by
    unfold num;split;·exact hf st n
    ·simp
   omega
theorem Gr{sz:σ->Nat}{f:σ->Int->Int×σ}(hf:∀st n,sz (f st n).2<=sz st+1)(l:List Tm):∀(st:σ),sz (aS f st l).2<=sz st+bq l:=by induction l with|nil=>intro st;simp[aS,bq]|cons x r ih=>intro st;simp only[aS,bq];have h1:=ami hf x st;have h2:=ih (aH f st x).2;omega
end Tm
structure Cq {σ : Type} (I : σ → (Nat → Prop) → World → Prop) : Prop where
  lt : ∀ st M w, I st M w → ∀ b, M b → b < w.heap.size
  keeps : ∀ st M w w', I st M w → af M w w' → I st M w'
def Vx{σ:Type}(I:σ->(Nat->Prop)->World->Prop)(M:Nat->Prop)(w:World)(r:Tm×σ)(e:Ending)(w':World):Prop:=∃us M',e= .returned (.agg us.toArray)/\Ch M w w'/\(∀b,M' b->M b\/w.heap.size<=b)/\I r.2 M' w'/\Tm.rep (fun b=>w.heap.size<=b/\¬M' b) w' r.1 us
def PT{σ:Type}(I:σ->(Nat->Prop)->World->Prop)(M:Nat->Prop)(w:World)(r:Int×σ)(e:Ending)(w':World):Prop:=e= .returned (.int .i64 r.1)/\aA r.1/\∃M',Ch M w w'/\(∀b,M' b->M b\/w.heap.size<=b)/\I r.2 M' w'
