import Derived.WalkKit
import Derived.WalkSpells
import Derived.WalkLawsBesides
import Derived.Deep.RegionHeld3
import Derived.Deep.LoopGhost
import Derived.BigQuiet
import Derived.Laws.EntriesVeiled
import Derived.Deep.DeepMust
import Derived.Deep.QuietTactic
import Derived.Test.YtlpmfkpefoegeacGreatDoorProg
namespace Go.Proofs.YtlpmfkpefoegeacGreatDoor
set_option maxRecDepth 99999
set_option maxHeartbeats 0
set_option linter.all false
open Go.RowKit
instance:Coe Int Value:=⟨λx=>.int .i64 x⟩
instance:Coe Nat Value:=⟨λx=>.int .i64 (x:Int)⟩
instance(a b:Nat):CoeDep (Nat×Nat) (a,b) Addr:=⟨⟨a,b,none⟩⟩
instance:Coe World Nat:=⟨λw=>w.heap.size⟩
def zB{p:Prop}(h:p:=by omega):p:=h
def zP{p:Prop}(h:p:=by kernel_rfl):p:=h
def af{p:Prop}(h:p:=by decide):p:=h
def zh{p:Prop}(h:p:=by simp):p:=h
def au{p:Prop}(h:p:=by rfl):p:=h
def zd{p:Prop}(h:p:=by go_num):p:=h
def zr{p:Prop}(h:p:=by trivial):p:=h
def O:=@if_neg
def G:=@if_pos
def aJ:=@List.getElem?_eq_getElem
def aW:=@Go.RowKit.Below.heap_setCell
def bn:=@List.length_cons
def bB:=@List.length_append
def bE:=@Go.RowKit.Below.setCell
def bN:=@List.getElem_mem
def bO:=@Go.World.size_alloc
def bW:=@Option.some.injEq
def bX:=@Go.bodyPost_ret
def cK:=@Go.Value.slice.injEq
def dm:=@Nat.le_trans
def dx:=@true_and
def dA:=@Nat.zero_le
def dF:=@Int.toNat_natCast
def dG:=@Go.World.size_drew
def dH:=@Int.eq_ofNat_of_zero_le
def dX:=@List.length_take
def dY:=@not_not_intro
def dZ:=@List.length_singleton
def fT:=@List.length_nil
def gI:=@Prod.mk.injEq
def gQ:=@Go.RowKit.Below.refl
def iq:=@List.take_succ_eq_append_getElem
def iw:=@List.mem_append
def iW:=@Go.World.block_lt_of_cell?
def iX:=@List.mem_singleton
def iZ:=@List.mem_map
def jr:=@List.mem_cons
def jQ:=@List.getElem?_eq_some_iff
def kg:=@List.take_of_length_le
def ko:=@Bool.and_eq_true
def mh:=@List.mem_range
def mO:=@Bool.false_ne_true
def mP:=@and_true
def nD:=@List.take_zero
def nP:=@Array.getElem?_toList
def nQ:=@List.take_length
def nR:=@List.length_map
def oL:=@Go.World.size_setCell
def oN:=@List.ext_getElem
def oO:=@List.cons_append
def oP:=@List.all_eq_true
def oQ:=@Nat.add_mul
def pW:=@Option.map_some
def qD:=@Array.getElem?_eq_getElem
def qE:=@decide_eq_true_eq
def qF:=@List.map_append
def qG:=@decide_eq_true
def qH:=@Nat.zero_add
def qI:=@Int.le_refl
def rz:=@List.getElem?_take_of_lt
def rA:=@List.mem_cons_self
def rC:=@Option.getD_some
def rD:=@Nat.add_zero
def rE:=@beq_iff_eq
def sD:=@List.mem_cons_of_mem
def sF:=@List.cons.injEq
def sG:=@List.append_nil
def sH:=@List.map_cons
def sI:=@Go.getD_set_ne
def sJ:=@Ne.symm
def uB:=@Nat.lt_of_lt_of_le
def vG:=@List.getElem?_append_left
def vH:=@List.mem_iff_getElem
def vI:=@or_false
def wZ:=@Array.getElem?_eq_some_iff
def xe:=@Bool.false_eq_true
def xg:=@List.getElem?_map
def xh:=@Go.Addr.mk.injEq
def yw:=@List.getElem?_append_right
def yx:=@List.getElem?_cons_zero
def yz:=@List.not_mem_nil
def yA:=@List.length_drop
def yB:=@List.length_set
def yC:=@Bool.or_eq_true
def Ai:=@Array.getElem?_eq_none
def Aj:=@List.take_append_drop
def Ak:=@beq_eq_false_iff_ne
def Al:=@List.take_succ_cons
def Am:=@List.set_cons_succ
def Ao:=@List.append_assoc
def Ap:=@List.nil_append
def Aq:=@dif_pos
def BS:=@Array.getElem?_setIfInBounds_ne
def BU:=@List.setIfInBounds_toArray
def BV:=@List.getElem_cons_zero
def BX:=@List.length_replicate
def BZ:=@Nat.pos_iff_ne_zero
def Ca:=@List.set_cons_zero
def Cb:=@List.flatMap_cons
def Cc:=@Go.bodyPost_end
def DX:=@Array.getElem?_setIfInBounds_self_of_lt
def DY:=@Classical.byContradiction
def DZ:=@List.length_reverse
def D5:=@List.map_singleton
def D6:=@List.drop_zero
def D7:=@Nat.zero_mul
def D8:=@List.map_nil
def F5:=@List.eq_nil_of_length_eq_zero
def F6:=@Array.getD_eq_getD_getElem?
def F7:=@List.getElem_append_left
def F8:=@Nat.mul_le_mul_right
def F9:=@Nat.min_eq_right
def Ga:=@List.getElem_set
def Gb:=@Go.IntWalk.i64_in
def Gc:=@Nat.mul_one
def Ja:=@List.getElem_append_right
def Jb:=@List.length_eq_zero_iff
def Jc:=@List.getElem?_eq_none
def Jd:=@List.isEmpty_iff
def Je:=@Nat.min_eq_left
def Jf:=@Go.run_underlying
def Jg:=@bne_iff_ne
def Mc:=@List.getElem_cons_succ
def Md:=@List.mem_of_mem_drop
def Me:=@Go.ByteArray.toList_eq
def Mf:=@Array.any_eq_true'
def Mg:=@List.foldl_cons
def Mh:=@Nat.sub_zero
def Mi:=@Int.add_comm
def Mk:=@Iff.rfl
def QN:=@List.drop_eq_getElem_cons
def QO:=@List.reverse_reverse
def QP:=@List.mem_of_mem_take
def QQ:=@List.getElem_toArray
def QR:=@Go.Value.pointer.injEq
def QS:=@not_true_eq_false
def QT:=@List.getElem_map
def QU:=@UInt8.toNat_inj
def QV:=@Nat.not_lt_zero
def QW:=@Go.RowKit.Below.heap_alloc
def QX:=@Go.Act.put_comm
def QY:=@Go.RowKit.Below.alloc
def QZ:=@Go.wpOp_mono
def Q0:=@Go.RowKit.Below.drew
def V7:=@Array.toList_setIfInBounds
def V8:=@List.getElem?_replicate
def V9:=@List.getElem?_set_self
def We:=@ByteArray.size_append
def Wh:=@List.mem_of_getElem?
def Wi:=@List.getElem?_set_ne
def Wj:=@List.getElem_of_mem
def Wl:=@List.getElem_modify
def Wm:=@decide_eq_true_iff
def Wn:=@List.pairwise_cons
def Wo:=@List.size_toArray
def Wp:=@List.reverse_cons
def Wq:=@List.foldl_append
def Ws:=@List.flatten_cons
def Wt:=@Classical.not_not
def Wu:=@Nat.lt_succ_self
def Wv:=@List.mem_reverse
def Ww:=@Int.natCast_zero
def Wx:=@Go.IntKind.wrap_i64
def Wy:=@List.take_left'
def Wz:=@List.take_take
def WA:=@Go.wp_region_any
def WB:=@Nat.sub_self
def WC:=@List.map_map
def adv:=@List.take_append_of_le_length
def adw:=@List.exists_cons_of_ne_nil
def adx:=@Array.getElem?_replicate
def ady:=@List.filter_eq_nil_iff
def adz:=@Go.WideElems.Trod_stays
def adA:=@List.takeWhile_cons
def adB:=@List.replicate_succ
def adC:=@List.map_congr_left
def adD:=@List.length_pos_iff
def adE:=@List.getElem_mapIdx
def adF:=@List.dropWhile_cons
def adG:=@Array.length_toList
def adH:=@List.getElem?_drop
def adI:=@Array.ext_getElem?
def adJ:=@Int.lt_trichotomy
def adK:=@Int.min_eq_right
def adL:=@Int.max_eq_right
def adM:=@Option.some.inj
def adN:=@List.range_succ
def adO:=@Int.min_eq_left
def adP:=@Int.max_eq_left
def adQ:=@Nat.add_assoc
def adR:=@Bool.not_true
def adS:=@Bool.false_or
def adT:=@List.set_set
def adU:=@Int.add_zero
def adV:=@Prod.mk.inj
def amR:=@decide_eq_false_iff_not
def amS:=@Option.map_eq_some_iff
def amT:=@List.takeWhile_sublist
def amU:=@List.range_succ_eq_map
def amV:=@Array.toList_replicate
def amW:=@List.mem_append_left
def amX:=@Array.replicate_zero
def amY:=@Array.replicate_succ
def amZ:=@Nat.mul_le_mul_left
def am0:=@List.getElem?_range
def am1:=@List.append_toArray
def am2:=@Function.comp_apply
def am3:=@Go.World.cell?_of_block
def am4:=@Go.Region.noSelect_spec
def am5:=@Int.lt_or_eq_of_le
def am6:=@Nat.lt_trichotomy
def am7:=@Nat.lt_of_succ_le
def am8:=@List.push_toArray
def am9:=@List.nodup_append
def ana:=@List.length_erase
def anb:=@List.ext_getElem?
def anc:=@Decidable.not_not
def ane:=@List.prefix_refl
def anf:=@List.map_toArray
def ang:=@List.drop_length
def anh:=@Array.toList_inj
def ani:=@Go.Result.andThen_ok
def anj:=@List.of_mem_zip
def ank:=@List.mem_filter
def anl:=@List.idxOf_cons
def anm:=@List.head?_cons
def aAp:=@Array.all_eq_true_iff_forall_mem
def aAq:=@List.dropLast_concat_getLast
def aAr:=@List.idxOf_lt_length_of_mem
def Hd(p:Prop):Prop:=p
def Hd.o{p:Prop}(h:Hd p):p:=h
def Hd.out{p:Prop}(h:Hd p):p:=h
def zD{p:Nat->Nat->Bool}{d:Nat->Nat->Option Nat}{X:Nat->Nat->Prop}(h:∀k s,p k s=true->d k s=some s->X k s)(k s:Nat)(b:p k s=true:=by kernel_rfl)(a:d k s=some s:=by kernel_rfl):X k s:=h k s b a
def zE{p:Nat->Bool}{X:Nat->Prop}(h:∀k,p k=true->X k)(k:Nat)(a:p k=true:=by kernel_rfl):X k:=h k a
def Y{p:Prop}(h:p):Hd p:=h
def zI{α:Type _}{a b:α}(h:some a=some b):a=b:=adM h
def zN(n:Nat):(0:Int)<=(n:Int):=Int.natCast_nonneg n
def zL(n:Nat):n<=n:=Nat.le_refl n
def Z(n:Nat)(w:World):Below n w w:=gQ n w
def ah(n:Int):Prop:= -9223372036854775808<=n/\n<=9223372036854775807
def ah.adW{n:Int}(h:(Lit.int .i64 n).wf=true):ah n:=by simpa[Lit.wf,IntKind.min,IntKind.max,IntKind.signed,IntKind.bits,ah]using h
def bF(w:World)(b o a o':Nat)(v:Value):(w.setCell (b,o) v).cell? (a,o')=if b=a/\o=o'/\(w.cell? (b,o)).isSome=true then some v else w.cell? (a,o'):=by
 by_cases h:b=a/\o=o';·obtain⟨rfl,rfl⟩:=h;cases hc:w.cell? (b,o)with
  |none=>simp only[Option.isSome_none,xe,and_false,if_false];simp only[World.cell?,World.setCell,Array.getElem?_modify]at hc ⊢;cases hh:w.heap[b]? with|none=>simp|some x=>cases x<;>simp_all
  |some u=>simp only[Option.isSome_some,and_self,if_true];exact World.cell?_setCell_same _ _ _ hc
 ·rw[O (λ⟨d,c,_⟩=>h ⟨d,c⟩)];exact World.cell?_setCell_other _ _ _ _ (by intro e;simp only[xh]at e;exact h ⟨e.1,e.2.1⟩)
def bc{w a:World}(c:Below w w a){b o:Nat}{v:Value}(h:w.cell? (b,o)=some v):a.cell? (b,o)=some v:=by rw[c.cell (p:=(b,o)) (iW w (b,o) h)];exact h
structure J (A : Nat → Prop) (w w' : World) : Prop where
  size : w.heap.size ≤ w'.heap.size
  block : ∀ b, b < w.heap.size → A b → w'.heap[b]? = w.heap[b]?
def J.refl(A:Nat->Prop)(w:World):J A w w:=⟨zL _,λ_ _ _=>rfl⟩
def J.trans{A:Nat->Prop}{a b c:World}(h:J A a b)(k:J A b c):J A a c:=⟨dm h.size k.size,λi d e=>(k.block i (uB d h.size) e).trans (h.block i d e)⟩
def J.mono{A A':Nat->Prop}{w w':World}(h:J A w w')(d:∀b,b<w.heap.size->A' b->A b):J A' w w':=⟨h.size,λb a c=>h.block b a (d b a c)⟩
def J.ob{A:Nat->Prop}{w w':World}(h:Below w w w'):J A w w':=⟨h.size,λb a _=>h.block b a⟩
def J.alloc(A:Nat->Prop)(w:World)(o:Obj):J A w (w.alloc o):=⟨zh,λb a _=>QW w o b a⟩
def J.drew(A:Nat->Prop)(w:World):J A w w.drew:=⟨zL _,λ_ _ _=>rfl⟩
def J.setCell(A:Nat->Prop)(w:World)(p:Addr)(u:Value)(a:¬A p.block):J A w (w.setCell p u):=⟨zh,λb _ c=>aW w p u b (by rintro rfl;exact a c)⟩
def J.grown{A:Nat->Prop}{w w':World}{row:Option Nat}(h:w.grownBy w' row)(a:∀b,A b->row≠some b):J A w w':=⟨h.size,λb c d=>h.block b c (λe=>a b d e.symm)⟩
def J.cell{A:Nat->Prop}{w w':World}(h:J A w w'){b o:Nat}{v:Value}(d:A b)(a:w.cell? (b,o)=some v):w'.cell? (b,o)=some v:=by have c:b<w:=iW w (b,o) a;rw[<-a];exact am3 (h.block b c d)
def aF{w:World}{g:Nat}{E:TypeId}{v0 v1 v2 v3:Value}(h:w.heap[g]?=some (.cells #[v0,v1,v2,v3] E (0,0))):w.cell? (g,0)=some v0/\w.cell? (g,1)=some v1/\w.cell? (g,2)=some v2/\w.cell? (g,3)=some v3/\(∀o,w.frozen? ⟨g,o,none⟩=false):=by refine⟨?_,?_,?_,?_,λo=>?_⟩<;>simp[World.cell?,World.frozen?,h]
def aX{w:World}{g:Nat}{E:TypeId}{c:Array Value}(h:w.heap[g]?=some (.cells c E (0,0)))(o:Nat)(u:Value):(w.setCell (g,o) u).heap[g]?=some (.cells (c.setIfInBounds o u) E (0,0)):=by simp[World.setCell,Array.getElem?_modify,h]
def ax{w:World}{g:Nat}{o:Obj}(h:w.heap[g]?=some o):g<w:=(wZ.1 h).1
def aI{w:World}{g:Nat}{o:Obj}(h:w.heap[g]?=some o)(o':Obj):(w.alloc o').heap[g]?=some o:=(QW w o' g (ax h)).trans h
def aA{w w':World}{g:Nat}{o:Obj}(h:w.heap[g]?=some o)(a:Below w w w'):w'.heap[g]?=some o:=(a.block g (ax h)).trans h
def bJ{A:Nat->Prop}{w w':World}{g:Nat}{o:Obj}(h:w.heap[g]?=some o)(a:J A w w')(b:A g):w'.heap[g]?=some o:=(a.block g (ax h) b).trans h
def bq(w:World)(o:Obj):(w.alloc o).heap[w.heap.size]?=some o:=heap_alloc_new w o
def mi(w:World)(A B:Obj):((w.alloc A).alloc B).heap[w.heap.size]?=some A/\((w.alloc A).alloc B).heap[w.heap.size+1]?=some B:=by refine⟨aI (bq _ _) _,?_⟩;have :=bq (w.alloc A) B;simpa using this
def Ml(w:World)(A B C:Obj):(((w.alloc A).alloc B).alloc C).heap[w.heap.size]?=some A/\(((w.alloc A).alloc B).alloc C).heap[w.heap.size+1]?=some B/\(((w.alloc A).alloc B).alloc C).heap[w.heap.size+1+1]?=some C:=by refine⟨aI (mi w A B).1 _,aI (mi w A B).2 _,?_⟩;have :=bq ((w.alloc A).alloc B) C;simpa using this
def bY{w:World}{g:Nat}{E:TypeId}{c:Array Value}{a:Nat×Nat}(h:w.heap[g]?=some (.cells c E a))(o:Nat):w.cell? (g,o)=c[o]?:=cell_of_row w g o c E a h
def qJ(w:World)(b a:Nat)(vs:List Value):Prop:=∀j v,vs[j]?=some v->w.cell? (b,a+j)=some v
def qJ.keeps{A:Nat->Prop}{w w':World}{b a:Nat}{vs:List Value}(e:A b)(h:qJ w b a vs)(c:J A w w'):qJ w' b a vs:=λj v d=>c.cell e (h j v d)
def Gd(A:Nat->Prop)(len:Nat)(v:Value)(b d:Nat):Prop:=len<=1048576/\((len=0/\∃a c,v= .slice a 0 c/\c<=maxLen)\/(0<len/\A b/\∃c,v= .slice (some (b,d)) len c/\len<=c/\c<=maxLen))
def Gd.mono{A A':Nat->Prop}{len:Nat}{v:Value}{b a:Nat}(h:Gd A len v b a)(d:A b->A' b):Gd A' len v b a:=by
 obtain⟨c,h|⟨g,f,e⟩⟩:=h;·exact⟨c,.inl h⟩
 ·exact⟨c,.inr ⟨g,d f,e⟩⟩
def Gd.val{A:Nat->Prop}{len:Nat}{v:Value}{b c:Nat}(h:Gd A len v b c):∃a cap,v= .slice a len cap/\len<=cap/\cap<=maxLen/\(0<len->a=some ⟨b,c,none⟩):=by
 obtain⟨_,⟨rfl,a,cap,rfl,d⟩|⟨_,_,cap,rfl,d,e⟩⟩:=h;·exact⟨a,cap,rfl,dA _,d,λh=>absurd h (Nat.lt_irrefl _)⟩
 ·exact⟨_,cap,rfl,d,e,λ_=>rfl⟩
section
variable {α : Type}
def nE(A:Nat->Prop)(w:World)(a:Nat)(R:(Nat->Prop)->World->α->List Value->Prop)(xs:List α)(b d:Nat):Prop:=∀i x,xs[i]?=some x->∃c,c.length=a/\R A w x c/\qJ w b (d+i*a) c
def ag(c:Nat)(R:(Nat->Prop)->World->α->List Value->Prop)(A:Nat->Prop)(w:World)(xs:List α)(v:Value):Prop:=∃b a,Gd A xs.length v b a/\nE A w c R xs b a
def iy(R:(Nat->Prop)->World->α->List Value->Prop):Prop:=(∀A w c x a,R A w x a->J A w c->R A c x a)/\(∀(A d:Nat->Prop)w x a,R A w x a->(∀b,b<w.heap.size->A b->d b)->R d w x a)/\(∀A w x a,R A w x a->∀u∈a,u.oneCell'=true)
def nE.keeps{A:Nat->Prop}{w w':World}{a:Nat}{R:(Nat->Prop)->World->α->List Value->Prop}{xs:List α}{b c:Nat}(l:iy R)(m:xs≠[]->A b)(h:nE A w a R xs b c)(g:J A w w'):nE A w' a R xs b c:=by intro i x f;obtain⟨e,k,j,d⟩:=h i x f;exact⟨e,k,l.1 A w w' x e j g,d.keeps (m (by rintro rfl;simp at f)) g⟩
def ag.keeps{A:Nat->Prop}{w w':World}{a:Nat}{R:(Nat->Prop)->World->α->List Value->Prop}{xs:List α}{v:Value}(g:iy R)(h:ag a R A w xs v)(e:J A w w'):ag a R A w' xs v:=by
 obtain⟨b,c,d,f⟩:=h;refine⟨b,c,d,f.keeps g (λhne=>?_) e⟩;obtain⟨_,⟨j,_⟩|⟨_,i,_⟩⟩:=d;·exact absurd (F5 j) hne
 ·exact i
def nE.block_lt{A:Nat->Prop}{w:World}{a:Nat}{R:(Nat->Prop)->World->α->List Value->Prop}{xs:List α}{b d:Nat}(i:0<a)(h:nE A w a R xs b d)(f:xs≠[]):b<w:=by match xs,f with|x::r,_=>obtain⟨e,j,_,c⟩:=h 0 x rfl;have g:e[0]?=some (e[0]' zB):=aJ zB;exact iW w _ (c 0 _ g)
def ag.mono{A A':Nat->Prop}{w:World}{a:Nat}{R:(Nat->Prop)->World->α->List Value->Prop}{xs:List α}{v:Value}(p:iy R)(g:0<a)(h:ag a R A w xs v)(m:∀b,b<w.heap.size->A b->A' b):ag a R A' w xs v:=by
 obtain⟨b,f,k,l⟩:=h;refine⟨b,f,?_,λi x d=>?_⟩
 ·by_cases d:xs=[]
  ·obtain⟨q,e|⟨e,_⟩⟩:=k;·exact⟨q,.inl e⟩
   ·subst d;simp at e
  ·exact k.mono (m b (l.block_lt g d))
 ·obtain⟨j,o,n,c⟩:=l i x d;exact⟨j,o,p.2.1 A A' w x j n m,c⟩
def ag.at{A:Nat->Prop}{w:World}{d:Nat}{R:(Nat->Prop)->World->α->List Value->Prop}{xs:List α}{v:Value}(h:ag d R A w xs v):∃a cap b c,v= .slice a xs.length cap/\xs.length<=cap/\cap<=maxLen/\xs.length<=1048576/\(0<xs.length->a=some ⟨b,c,none⟩/\A b)/\nE A w d R xs b c:=by
 obtain⟨b,c,e,g⟩:=h;obtain⟨a,cap,f,l,k,j⟩:=e.val;refine⟨a,cap,b,c,f,l,k,e.1,λh0=>⟨j h0,?_⟩,g⟩;obtain⟨_,⟨m,_⟩|⟨_,i,_⟩⟩:=e;·omega
 ·exact i
def ag.nil(a:Nat)(R:(Nat->Prop)->World->α->List Value->Prop)(A:Nat->Prop)(w:World):ag a R A w [] (.slice none 0 0):=⟨0,0,⟨zh,.inl ⟨rfl,none,0,rfl,by simp[maxLen]⟩⟩,λi x b=>by simp at b⟩
end
def Pure(w:World)(R:Value->World->Prop)(e:Ending)(w':World):Prop:=∃v,e= .returned v/\Below w w w'/\R v w'
def New(w:World)(b:Nat):Prop:=w<=b
structure Ch (M : Nat → Prop) (w w' : World) : Prop where
  os : w'.os = w.os
  tape : w'.tape = w.tape
  output : w'.output = w.output
  size : w.heap.size ≤ w'.heap.size
  block : ∀ k, k < w.heap.size → ¬ M k → w'.heap[k]? = w.heap[k]?
def Ch.refl(M:Nat->Prop)(w:World):Ch M w w:=⟨rfl,rfl,rfl,zL _,λ_ _ _=>rfl⟩
def Ch.of_below{M:Nat->Prop}{w w':World}(h:Below w w w'):Ch M w w':=⟨h.os,h.tape,h.output,h.size,λk a _=>h.block k a⟩
def Ch.below{M:Nat->Prop}{w w':World}(h:Ch M w w')(b:∀k,k<w.heap.size->¬M k):Below w w w':=⟨h.os,h.tape,h.output,h.size,λk a=>h.block k a (b k a)⟩
def Ch.trans{M M':Nat->Prop}{a b c:World}(h:Ch M a b)(k:Ch M' b c)(g:∀x,M' x->M x\/a<=x):Ch M a c:=⟨k.os.trans h.os,k.tape.trans h.tape,k.output.trans h.output,dm h.size k.size,λi e d=>(k.block i (uB e h.size) (λhm=>by rcases g i hm with f|f;exact d f;omega)).trans (h.block i e d)⟩
def Ch.mono{M M':Nat->Prop}{w w':World}(h:Ch M w w')(c:∀x,x<w.heap.size->M x->M' x):Ch M' w w':=⟨h.os,h.tape,h.output,h.size,λi a b=>h.block i a λhm=>b (c i a hm)⟩
def Ch.tb{M:Nat->Prop}{a b c:World}(h:Ch M a b)(k:Below b b c):Ch M a c:=h.trans (Ch.of_below (M:=λ_=>False) k) (λ_ h=>h.elim)
def Ch.alloc{M:Nat->Prop}{a b:World}(h:Ch M a b)(o:Obj):Ch M a (b.alloc o):=h.tb ((Z _ _).alloc (zL _) o)
def Ch.drew{M:Nat->Prop}{a b:World}(h:Ch M a b):Ch M a b.drew:=h.tb (Z _ _).drew
def Ch.setCell{M:Nat->Prop}{a b:World}(h:Ch M a b){p:Addr}(c:M p.block\/a<=p.block)(u:Value):Ch M a (b.setCell p u):=h.trans (M':=λx=>x=p.block) ⟨rfl,rfl,rfl,zh,λk _ d=>aW b p u k d⟩ (by rintro x rfl;exact c)
def Ch.keeps{M A:Nat->Prop}{w w':World}(h:Ch M w w')(d:∀b,b<w.heap.size->A b->¬M b):J A w w':=⟨h.size,λb a c=>h.block b a (d b a c)⟩
def Ch.grown{M:Nat->Prop}{a b c:World}{row:Option Nat}(h:Ch M a b)(g:b.grownBy c row)(f:∀k,row=some k->M k\/a<=k):Ch M a c:=h.trans (M':=λx=>row=some x) ⟨g.os,g.tape,g.output,g.size,λk j i=>g.block k j (λe=>i e.symm)⟩ (λx d=>f x d)
def ownB:Value->Option Nat| .slice (some a) _ cap=>if cap=0 then none else some a.block|_=>none
def Own(w:World)(base:Nat)(E:TypeId)(c:Nat)(v:Value)(n:Nat)(xs:List Value):Prop:=xs.length=n*c/\((n=0/\∃a,v= .slice a 0 0)\/∃g b d,v= .slice (some (g,0)) n b/\0<b/\base<=g/\w.heap[g]?=some (.cells d E (0,0))/\n<=b/\b<=maxLen/\d.size=b*c/\d.toList.take (n*c)=xs)
section
variable {w : World} {base : Nat} {E : TypeId} {size : Nat} {v : Value} {n : Nat} {xs : List Value}
def Own.nil(w:World)(base:Nat)(E:TypeId)(a:Nat):Own w base E a (.slice none 0 0) 0 []:=⟨zh,.inl ⟨rfl,none,rfl⟩⟩
def Own.lt(h:Own w base E size v n xs):∀k,ownB v=some k->base<=k/\k<w:=by
 intro k b;rcases h.2 with⟨rfl,a,rfl⟩|⟨g,i,f,rfl,d,e,c,_⟩;·cases a<;>simp[ownB]at b
 ·simp[ownB,BZ.1 d]at b;subst b;exact⟨e,(wZ.1 c).1⟩
def Own.kept{w':World}(h:Own w base E size v n xs)(i:∀k,ownB v=some k->w'.heap[k]?=w.heap[k]?):Own w' base E size v n xs:=by
 refine⟨h.1,?_⟩;rcases h.2 with f|⟨g,d,c,rfl,e,j,b,a⟩;·exact .inl f
 ·refine .inr ⟨g,d,c,rfl,e,j,?_,a⟩;rw[i g (by simp[ownB,BZ.1 e])];exact b
def Own.keeps{A:Nat->Prop}{w':World}(h:Own w base E size v n xs)(a:J A w w')(b:∀k,ownB v=some k->A k):Own w' base E size v n xs:=h.kept λk e=>a.block k (h.lt k e).2 (b k e)
def Own.below{w':World}(h:Own w base E size v n xs)(a:Below w w w'):Own w' base E size v n xs:=h.kept λk e=>a.block k (h.lt k e).2
def Own.val(h:Own w base E size v n xs):∃a cap,v= .slice a n cap/\cap<=maxLen:=by
 rcases h.2 with⟨rfl,a,rfl⟩|⟨f,b,e,rfl,_,_,d,_,c,_⟩;·exact⟨a,0,rfl,by simp[maxLen]⟩
 ·exact⟨_,b,rfl,c⟩
def Own.cells(h:Own w base E size v n xs){g cap:Nat}(f:v= .slice (some (g,0)) n cap)(l:0<cap):∀j u,xs[j]?=some u->w.cell? ⟨g,j,none⟩=some u:=by
 intro j u c;rcases h.2 with⟨rfl,a,rfl⟩|⟨k,i,e,rfl,_,_,d,_,_,_,b⟩;·have :=h.1;simp at this;subst this;simp at c
 ·simp at f;obtain⟨rfl,rfl⟩:=f;rw[cell_of_row w k j e E (0,0) d];rw[<-b,List.getElem?_take]at c;split at c;·simpa using c
  ·cases c
end
def ann{P:Program}(w:World)(base:Nat)(t K e:TypeId)(i:TypeInfo)(z:Value)(p bytes:Nat)(ht:P.underlying t=some (.slice e))(L:P.info? e=some i)(V:i.zero=some z)(H:i.size=p)(hby:i.bytes=bytes)(X:z.cells.size=p)(v:Value)(n:Nat)(xs:List Value)(f:Own w base e p v n xs)(a:Addr)(m c:Nat)(b:List Value)(B:b.length=m*p)(l:∀j u,b[j]?=some u->w.cell? (a.add j)=some u)(h1:∀u∈b,u.oneCell'=true)(O:n+m<=maxLen)(o:(n+m)*bytes<=140737488355328)(J:base<=w):∃S w',(Builtin.append_ #[t,t] K #[v,.slice (some a) m c]).run P w= .ok S w'/\Own w' base e p S (n+m) (xs++b)/\w.grownBy w' (ownB v)/\(ownB S=ownB v\/∀k,ownB S=some k->w<=k):=by
 subst H;subst hby;have T:n+m<=9223372036854775807:=by simp only[maxLen]at O;omega
 have s:(xs++b).length=(n+m)*i.size:=by rw[bB,f.1,B,oQ]
 have y:∀(h:Nat),h<n+m->∀(N:Option Nat),Own (w.drew.alloc (.cells (xs.toArray++b.toArray++Builtin.zeroCells z.cells (grownCap w (n+m) h e - (n+m))) e)) base e i.size (.slice (some ⟨w.heap.size,0,none⟩) (n+m) (grownCap w (n+m) h e)) (n+m) (xs++b)/\w.grownBy (w.drew.alloc (.cells (xs.toArray++b.toArray++Builtin.zeroCells z.cells (grownCap w (n+m) h e - (n+m))) e)) N/\∀k,ownB (.slice (some ⟨w.heap.size,0,none⟩) (n+m) (grownCap w (n+m) h e))=some k->w<=k:=by
  intro h ho N;have Y:=grownCap_ge w (n+m) h e;have E:grownCap w (n+m) h e<=maxLen:=grownCap_le_maxLen w (n+m) h e O;refine⟨⟨s,.inr ⟨w,_,_,rfl,zB,J,heap_alloc_new w.drew _,Y,E,?_,?_⟩⟩,⟨rfl,rfl,rfl,zh,λk C _=>QW w.drew _ k C⟩,?_⟩;·simp only[Array.size_append,Wo,size_zeroCells,X,f.1,B,<-oQ];congr 1;omega
  ·simp only[Array.toList_append,Ao];rw[<-Ao,<-s];exact List.take_left
  ·intro k C;simp only[ownB]at C;split at C;·cases C
   ·simp only[bW]at C;omega
 rcases f.2 with⟨rfl,M,rfl⟩|⟨g,q,F,rfl,D,hbg,hg,hnc,E,Z,G⟩
 ·have hx:xs=[]:=F5 (by simpa using f.1);subst hx;by_cases hm:m=0;·subst hm;have hn:b=[]:=F5 (by simpa using B);subst hn;refine⟨.slice M 0 0,w,?_,⟨zh,.inl ⟨rfl,M,rfl⟩⟩,⟨rfl,rfl,rfl,zL _,λ_ _ _=>rfl⟩,.inl rfl⟩;cases M<;>simp[Builtin.append_,Jf ht,sizeOf,typeInfo,L,Builtin.lenOf,Builtin.firstCells,loadCells,loadCellsFrom,storeCells]
  ·have d:=y 0 zB (ownB (.slice M 0 0));cases M with|none=>have A:=run_append_nil (P:=P) w t K e i z ht L V a m c b B l zB zB (by have hb:=o;simp only[qH]at hb;omega);simp only[qH,Ap,Array.empty_append]at d ⊢;exact⟨_,_,A,d.1,d.2.1,.inr d.2.2⟩|some b0=>have A:=run_append_grow (P:=P) w t K e i z ht L V b0 0 0 [] zh zh a m c b B l zB zB (growslice_fits zB o);simp only[qH,Ap,Array.empty_append]at d A ⊢;exact⟨_,_,A,d.1,d.2.1,.inr d.2.2⟩
 ·have W:∀k,ownB (.slice (some (g,0)) k q)=some g:=λk=>by simp[ownB,BZ.1 D]
  by_cases r:n+m<=q
  ·have Q:n*i.size+b.length<=F.size:=by rw[B,Z,<-oQ];exact F8 _ r
   have A:=run_append_room (P:=P) w t K e i ht L g n q F hg a m c b B l h1 r Q;refine⟨_,_,A,⟨s,.inr ⟨g,q,_,rfl,D,hbg,setRow_heap w g F _ e _ hg,r,E,?_,?_⟩⟩,⟨rfl,rfl,rfl,zh,λk _ C=>setRow_other w g k _ (λe=>C (by rw[W,e]))⟩,.inl (by rw[W,W])⟩;·simp only[Wo,bB,dX,yA,adG];omega
   ·rw[G,<-s];exact List.take_left
  ·have I:∀j u,xs[j]?=some u->w.cell? (((g,0):Addr).add j)=some u:=by
    intro j u hu;have R:((g,0):Addr).add j=(g,j):=by unfold Addr.add;split<;>simp_all
    rw[R];exact f.cells rfl D j u hu
   have A:=run_append_grow (P:=P) w t K e i z ht L V (g,0) n q xs f.1 I a m c b B l zB zB (growslice_fits zB o);have d:=y q zB (ownB (.slice (some (g,0)) n q));exact⟨_,_,A,d.1,d.2.1,.inr d.2.2⟩
section
variable {α : Type}
def az(w:World)(base:Nat)(E:TypeId)(c:Nat)(R:(Nat->Prop)->World->α->List Value->Prop)(A:Nat->Prop)(xs:List α)(v:Value):Prop:=∃a:List (List Value),a.length=xs.length/\Own w base E c v xs.length a.flatten/\∀(i:Nat)x(d:List Value),xs[i]?=some x->a[i]?=some d->d.length=c/\R (λb=>A b/\ownB v≠some b) w x d
def az.nil(w:World)(base:Nat)(E:TypeId)(a:Nat)(R:(Nat->Prop)->World->α->List Value->Prop)(A:Nat->Prop):az w base E a R A [] (.slice none 0 0):=⟨[],rfl,Own.nil w base E a,λi x c b=>by simp at b⟩
def az.keeps{w w':World}{base:Nat}{E:TypeId}{a:Nat}{R:(Nat->Prop)->World->α->List Value->Prop}{A B:Nat->Prop}{xs:List α}{v:Value}(o:iy R)(h:az w base E a R A xs v)(e:J B w w')(q:∀b,A b->B b)(p:∀k,ownB v=some k->B k):az w' base E a R A xs v:=by obtain⟨c,l,j,m⟩:=h;refine⟨c,l,j.keeps e p,λi x d f g=>?_⟩;obtain⟨s,r⟩:=m i x d f g;exact⟨s,o.1 _ w w' x d r (e.mono λb _ n=>q b n.1)⟩
def az.mono{w:World}{base:Nat}{E:TypeId}{a:Nat}{R:(Nat->Prop)->World->α->List Value->Prop}{A A':Nat->Prop}{xs:List α}{v:Value}(n:iy R)(h:az w base E a R A xs v)(o:∀b,b<w.heap.size->A b->A' b):az w base E a R A' xs v:=by obtain⟨d,k,j,l⟩:=h;refine⟨d,k,j,λi x e f g=>?_⟩;obtain⟨q,p⟩:=l i x e f g;exact⟨q,n.2.1 _ _ _ _ _ p λb m c=>⟨o b m c.1,c.2⟩⟩
def az.below{w w':World}{base:Nat}{E:TypeId}{a:Nat}{R:(Nat->Prop)->World->α->List Value->Prop}{A:Nat->Prop}{xs:List α}{v:Value}(c:iy R)(h:az w base E a R A xs v)(b:Below w w w'):az w' base E a R A xs v:=h.keeps c (J.ob (A:=λ_=>True) b) (λ_ _=>trivial) (λ_ _=>trivial)
def az.alloc{w:World}{base:Nat}{E:TypeId}{a:Nat}{R:(Nat->Prop)->World->α->List Value->Prop}{A:Nat->Prop}{xs:List α}{v:Value}(b:iy R)(h:az w base E a R A xs v)(o:Obj):az (w.alloc o) base E a R A xs v:=h.keeps b (J.alloc (λ_=>True) w o) (λ_ _=>trivial) (λ_ _=>trivial)
def az.lt{w:World}{base:Nat}{E:TypeId}{a:Nat}{R:(Nat->Prop)->World->α->List Value->Prop}{A:Nat->Prop}{xs:List α}{v:Value}(h:az w base E a R A xs v):∀k,ownB v=some k->base<=k/\k<w:=by obtain⟨b,d,c,e⟩:=h;exact c.lt
def az.val{w:World}{base:Nat}{E:TypeId}{b:Nat}{R:(Nat->Prop)->World->α->List Value->Prop}{A:Nat->Prop}{xs:List α}{v:Value}(h:az w base E b R A xs v):∃a cap,v= .slice a xs.length cap/\cap<=maxLen:=by obtain⟨c,e,d,f⟩:=h;exact d.val
def WG{b:Nat}:∀(a:List (List Value)),(∀(i:Nat)(vs:List Value),a[i]?=some vs->vs.length=b)->a.flatten.length=a.length*b|[],_=>by simp|v::r,h=>by rw[Ws,bB,WG r (λi vs c=>h (i+1) vs (by simpa using c)),h 0 v rfl,bn,oQ];omega
def Jh{a:Nat}:∀(b:List (List Value)),(∀(i:Nat)(vs:List Value),b[i]?=some vs->vs.length=a)->∀(i j:Nat)(vs:List Value),b[i]?=some vs->j<a->b.flatten[i*a+j]?=vs[j]?|[],_,i,j,vs,c,_=>by simp at c|v::r,h,0,j,vs,c,d=>by simp at c;subst c;have :=h 0 v rfl;rw[Ws,D7,qH,vG zB]|v::r,h,i+1,j,vs,c,d=>by have e:=h 0 v rfl;rw[Ws,yw (by rw[e,oQ];omega),e,show(i+1)*a+j - a=i*a+j by rw[oQ];omega];exact Jh r (λi vs c=>h (i+1) vs (by simpa using c)) i j vs (by simpa using c) d
def az.sl{w:World}{base:Nat}{E:TypeId}{d:Nat}{R:(Nat->Prop)->World->α->List Value->Prop}{A:Nat->Prop}{xs:List α}{v:Value}(G:iy R)(h:az w base E d R A xs v)(m:xs.length<=1048576)(H:∀b,base<=b->A b):ag d R A w xs v:=by
 obtain⟨c,M,B,D⟩:=h;have s:∀(i:Nat)(n:List Value),c[i]?=some n->n.length=d:=λi n f=>by
  have p:i<xs.length:=by have :=(jQ.1 f).1;omega
  exact(D i _ n (aJ p) f).1
 rcases B.2 with⟨r,a,rfl⟩|⟨g,l,L,rfl,F,q,N,t,k,K,z⟩;·have :xs=[]:=F5 r;subst this;exact⟨0,0,⟨zh,.inl ⟨rfl,a,0,rfl,by simp[maxLen]⟩⟩,λi x e=>by simp at e⟩
 ·by_cases r:xs.length=0;·have :xs=[]:=F5 r;subst this;exact⟨0,0,⟨zh,.inl ⟨rfl,_,l,rfl,k⟩⟩,λi x e=>by simp at e⟩
  refine⟨g,0,⟨m,.inr ⟨zB,H g q,l,rfl,t,k⟩⟩,λi x e=>?_⟩;have p:i<c.length:=by have :=(jQ.1 e).1;omega
  have f:=aJ p;obtain⟨J,I⟩:=D i x _ e f;refine⟨c[i],J,G.2.1 _ _ w x _ I (λb _ q=>q.1),λj u C=>?_⟩;have y:j<d:=by have :=(jQ.1 C).1;omega
  rw[qH];exact B.cells rfl F _ u (by rw[Jh c s i j _ f y];exact C)
def az.sl'{w:World}{base:Nat}{E:TypeId}{d:Nat}{R:(Nat->Prop)->World->α->List Value->Prop}{A:Nat->Prop}{xs:List α}{v:Value}(G:iy R)(h:az w base E d R A xs v)(m:xs.length<=1048576)(H:∀b,ownB v=some b->A b):ag d R A w xs v:=by
 obtain⟨c,M,z,C⟩:=h;have r:∀(i:Nat)(n:List Value),c[i]?=some n->n.length=d:=λi n f=>by
  have p:i<xs.length:=by have :=(jQ.1 f).1;omega
  exact(C i _ n (aJ p) f).1
 rcases z.2 with⟨q,a,rfl⟩|⟨g,l,L,rfl,D,F,N,s,k,K,y⟩;·have :xs=[]:=F5 q;subst this;exact⟨0,0,⟨zh,.inl ⟨rfl,a,0,rfl,by simp[maxLen]⟩⟩,λi x e=>by simp at e⟩
 ·by_cases q:xs.length=0;·have :xs=[]:=F5 q;subst this;exact⟨0,0,⟨zh,.inl ⟨rfl,_,l,rfl,k⟩⟩,λi x e=>by simp at e⟩
  refine⟨g,0,⟨m,.inr ⟨zB,H g (by simp[ownB,BZ.1 D]),l,rfl,s,k⟩⟩,λi x e=>?_⟩;have p:i<c.length:=by have :=(jQ.1 e).1;omega
  have f:=aJ p;obtain⟨J,I⟩:=C i x _ e f;refine⟨c[i],J,G.2.1 _ _ w x _ I (λb _ F=>F.1),λj u B=>?_⟩;have t:j<d:=by have :=(jQ.1 B).1;omega
  rw[qH];exact z.cells rfl D _ u (by rw[Jh c r i j _ f t];exact B)
def adX{P:Program}(w:World)(base:Nat)(t ty e:TypeId)(i:TypeInfo)(z:Value)(a bytes:Nat)(ht:P.underlying t=some (.slice e))(D:P.info? e=some i)(hz:i.zero=some z)(F:i.size=a)(hby:i.bytes=bytes)(X:z.cells.size=a)(hs0:0<a){R:(Nat->Prop)->World->α->List Value->Prop}(V:iy R){A:Nat->Prop}(v:Value)(xs:List α)(T:az w base e a R A xs v)(E f c:Nat)(l:List α)(Y:nE (λb=>A b/\ownB v≠some b) w a R l E f)(h63:xs.length+l.length<=maxLen)(s:(xs.length+l.length)*bytes<=140737488355328)(I:base<=w):∃y w',(Builtin.append_ #[t,t] ty #[v,.slice (some (E,f)) l.length c]).run P w= .ok y w'/\az w' base e a R A (xs++l) y/\w.grownBy w' (ownB v)/\(ownB y=ownB v\/∀k,ownB y=some k->w<=k):=by
 obtain⟨Q,hl,ho,he⟩:=T;have hch:∀n,n<=l.length->∃m:List (List Value),m.length=n/\∀(i:Nat)x(d:List Value),l[i]?=some x->m[i]?=some d->d.length=a/\R (λb=>A b/\ownB v≠some b) w x d/\qJ w E (f+i*a) d:=by
  intro n;induction n with
   |zero=>exactλ_=>⟨[],rfl,λi x d _ h=>by simp at h⟩
   |succ n ih=>
    intro L;obtain⟨m,r,C⟩:=ih zB;obtain⟨d,M,h4,h5⟩:=Y n _ (aJ zB);refine⟨m++[d],by simp[r],λi x us o B=>?_⟩;by_cases hin:i<n;·rw[vG zB]at B;exact C i x us o B
    ·have :i=n:=by have :=(jQ.1 B).1;simp at this;omega
     subst this;rw[yw zB,r]at B;simp at B;subst B;rw[aJ zB]at o;simp at o;subst o;exact⟨M,h4,h5⟩
 obtain⟨m,O,L⟩:=hch l.length (zL _);have N:∀(i:Nat)(d:List Value),m[i]?=some d->d.length=a:=λi d p=>by
  have D:i<l.length:=by have :=(jQ.1 p).1;omega
  exact(L i _ d (aJ D) p).1
 have hfl:=WG m N;have H:∀j u,m.flatten[j]?=some u->w.cell? (((E,f):Addr).add j)=some u:=by
  intro j u W;have hjl:j<m.length*a:=by have :=(jQ.1 W).1;omega
  have U:((E,f):Addr).add j=(E,f+j):=by unfold Addr.add;split<;>simp_all
  have WH:j=j/a*a+j%a:=by rw[Nat.mul_comm];exact(Nat.div_add_mod j a).symm
  have D:j/a<m.length:=Nat.div_lt_of_lt_mul (by rw[Nat.mul_comm];exact hjl);have p:=aJ D;have o:l[j/a]?=some (l[j/a]' zB):=aJ zB;obtain⟨r,C,M⟩:=L (j/a) _ _ o p;rw[WH,Jh m N _ _ _ p (Nat.mod_lt _ hs0)]at W;have :=M _ u W;rw[U,show f+j=f+j/a*a+j%a by omega];exact this
 have r:∀u∈m.flatten,u.oneCell'=true:=by intro u B;obtain⟨d,Z,huv⟩:=List.mem_flatten.1 B;obtain⟨i,D,rfl⟩:=vH.1 Z;have p:=aJ D;have o:l[i]?=some (l[i]' zB):=aJ zB;exact V.2.2 _ _ _ _ (L i _ _ o p).2.1 u huv
 obtain⟨y,w',S,G,hg,K⟩:=ann w base t ty e i z a bytes ht D hz F hby X v xs.length _ ho (E,f) l.length c m.flatten (by rw[hfl,O]) H r h63 s I;refine⟨y,w',S,⟨Q++m,by simp[hl,O],?_,?_⟩,hg,K⟩;·simpa using G
 ·have q:∀x d,R (λb=>A b/\ownB v≠some b) w x d->R (λb=>A b/\ownB y≠some b) w' x d:=by
   intro x d hr;have C:R (λb=>(A b/\ownB y≠some b)/\ownB v≠some b) w x d:=by
    refine V.2.1 _ _ w x d hr λb hbl g=>⟨⟨g.1,?_⟩,g.2⟩;rcases K with K|K;·rw[K];exact g.2
    ·intro e;have :=K b e;omega
   have M:=V.1 _ w w' x d C (J.grown hg λb g=>g.2);exact V.2.1 _ _ w' x d M λb _ g=>g.1
  intro i x d o p;by_cases hi':i<xs.length;·rw[vG zB]at o p;obtain⟨r,C⟩:=he i x d o p;exact⟨r,q _ _ C⟩
  ·rw[yw zB]at o p;rw[hl]at p;obtain⟨r,C,_⟩:=L _ x d o p;exact⟨r,q _ _ C⟩
end
def oU(P:Program)(t e:TypeId)(a bytes:Nat):Prop:=(∃i z,P.underlying t=some (.slice e)/\P.info? e=some i/\i.zero=some z/\i.size=a/\i.bytes=bytes/\z.cells.size=a)/\0<a/\bytes<=256
def oU.mk'{P:Program}{t e:TypeId}{a bytes:Nat}{z:Value}(ht:P.underlying t=some (.slice e))(f:(P.info? e).map (λi=>(i.zero,i.size,i.bytes))=some (some z,a,bytes))(d:z.cells.size=a)(l:0<a)(g:bytes<=256):oU P t e a bytes:=by obtain⟨c,b,k,j,h⟩:=info_parts f;exact⟨⟨c,z,ht,b,k,j,h,d⟩,l,g⟩
structure jJ (w w' : World) (v v' : Value) : Prop where
  grown : w.grownBy w' (ownB v)
  block : ownB v' = ownB v ∨ ∀ k, ownB v' = some k → w.heap.size ≤ k
def jJ.below{B:Nat}{a w w':World}{v b:Value}(h:jJ w w' v b)(d:Below B a w)(e:B<=w)(c:∀k,ownB v=some k->B<=k):Below B a w':=d.grown h.grown e c
def jJ.ch{M:Nat->Prop}{a w w':World}{v b:Value}(h:jJ w w' v b)(d:Ch M a w)(c:∀k,ownB v=some k->M k\/a<=k):Ch M a w':=d.grown h.grown c
def jJ.size{w w':World}{v a:Value}(h:jJ w w' v a):w.heap.size<=w'.heap.size:=h.grown.size
def jJ.keeps{A:Nat->Prop}{w w':World}{v a:Value}(h:jJ w w' v a)(c:∀b,A b->ownB v≠some b):J A w w':=J.grown h.grown c
section
variable {α : Type}
def Q3{A:Nat->Prop}{w:World}{a:Nat}{R:(Nat->Prop)->World->α->List Value->Prop}(g:iy R){x:α}{vs:List Value}(E:TypeId)(e:vs.length=a)(h:R A w x vs):nE A (w.alloc (.cells vs.toArray E)) a R [x] w 0:=by intro i y hy;cases i with|succ i=>simp at hy|zero=>simp at hy;subst hy;refine⟨vs,e,g.1 _ _ _ _ _ h (J.alloc _ _ _),λj u f=>?_⟩;simp only[D7,qH,World.cell?_alloc_new];simpa using f
def uC{P:Program}{w:World}{o:Oper}{a:Act}{K:Act->World->Prop}{Q:Exit->Act->World->Prop}(s x:Operand)(t:TypeId)(F:o.op= .call {callee:= .builtin .append,args:=#[s,x],argTypes:=#[t,t]})(base:Nat)(e:TypeId)(c bytes:Nat)(m:oU P t e c bytes){R:(Nat->Prop)->World->α->List Value->Prop}(j:iy R){A:Nat->Prop}(v:Value)(xs:List α)(E:a.eval s=v)(f:az w base e c R A xs v)(y:α)(vs:List Value)(C:a.eval x= .slice (some ⟨w.heap.size,0,none⟩) 1 1)(l:vs.length=c)(k:R (λb=>A b/\ownB v≠some b) w y vs)(p:xs.length<4194304/\base<=w)(h:∀d w',az w' base e c R A (xs++[y]) d->jJ (w.alloc (.cells vs.toArray e)) w' v d->K (a.put o.dst d) w'):o.wp P a (w.alloc (.cells vs.toArray e)) K Q:=by obtain⟨⟨i,z,D,G,B,L,J,I⟩,M,H⟩:=m;have g:(xs.length+[y].length)*bytes<=(xs.length+[y].length)*256:=amZ _ H;obtain⟨d,w',n,u,r,q⟩:=adX (P:=P) (w.alloc (.cells vs.toArray e)) base t o.type e i z c bytes D G B L J I M j v xs (f.alloc j _) w 0 1 [y] (Q3 j e l k) (by simp only[maxLen,dZ];omega) (by simp only[dZ]at g ⊢;omega) (by simp only[bO];omega);unfold Oper.wp execOp;simp only[F,resolve,invoke,builtin,Sem.run_bind,Sem.run_pure,ani,anf,sH,D8,E,C];rw[show([y]:List α).length=1 from rfl]at n;rw[n];exact h d w' u ⟨r,q⟩
def ja{P:Program}{w:World}{d:Array Oper}{rest:List Oper}{o:Oper}{a:Act}{Q:Exit->Act->World->Prop}(m:o.guard=none)(s x:Operand)(t:TypeId)(u:o.op= .call {callee:= .builtin .append,args:=#[s,x],argTypes:=#[t,t]})(base:Nat)(e:TypeId)(c bytes:Nat)(l:oU P t e c bytes){R:(Nat->Prop)->World->α->List Value->Prop}(z:iy R){A:Nat->Prop}(v:Value)(xs:List α)(r:a.eval s=v)(f:az w base e c R A xs v)(y:α)(vs:List Value)(q:a.eval x= .slice (some ⟨w.heap.size,0,none⟩) 1 1)(k:vs.length=c)(j:R (λb=>A b/\ownB v≠some b) w y vs)(g:xs.length<4194304/\base<=w)(h:∀v' w',az w' base e c R A (xs++[y]) v'->jJ (w.alloc (.cells vs.toArray e)) w' v v'->wpList P d Q rest (a.put o.dst v') w'):wpList P d Q (o::rest) a (w.alloc (.cells vs.toArray e)):=wpList_plain m λ_ B=>uC s x t u base e c bytes l z v xs r f y vs q k j g λv' w' p n=>B _ _ (h v' w' p n)
def Q4{w wc d:World}{base:Nat}{E:TypeId}{a:Nat}{S:(Nat->Prop)->World->α->List Value->Prop}{β:Type}{T:(Nat->Prop)->World->β->List Value->Prop}{A:Nat->Prop}{xs:List β}{v:Value}(g:iy S){y:α}{vs:List Value}(c:az w base E a T A xs v)(j:w.heap.size<=wc.heap.size)(i:∀b,wc.heap.size<=b->A b)(h:S (New wc) d y vs):S (λb=>A b/\ownB v≠some b) d y vs:=g.2.1 _ _ _ _ _ h λb _ f=>⟨i b f,λe=>by have k:=(c.lt b e).2;unfold New at f;omega⟩
end
inductive Tm where
  | mk (kind n : Int) (s : ByteArray) (args : List Tm)
  deriving Inhabited
namespace Tm
def kind:Tm->Int|mk k _ _ _=>k
def n:Tm->Int|mk _ n _ _=>n
def s:Tm->ByteArray|mk _ _ s _=>s
def args:Tm->List Tm|mk _ _ _ l=>l
def induct{P:Tm->Prop}(h:∀k n s l,(∀t∈l,P t)->P (mk k n s l)):∀t,P t:=by intro t;refine Tm.rec (motive_1:=P) (motive_2:=λl=>∀t∈l,P t) (λk n s l d=>h k n s l d) (λt a=>by cases a) (λx r hx f t a=>?_) t;cases a with|head=>exact hx|tail _ g=>exact f t g
mutual
def rep (A : Nat → Prop) (w : World) : Tm → List Value → Prop
  | mk k n s l, vs => ah k ∧ ah n ∧ s.size ≤ 1048576 ∧ ∃ v b off, vs = [.int .i64 k, .int .i64 n, .string s, v] ∧ Gd A l.length v b off ∧ Mm A w l b off
def Mm (A : Nat → Prop) (w : World) : List Tm → Nat → Nat → Prop
  | [], _, _ => True
  | t :: r, b, off => (∃ vs, rep A w t vs ∧ qJ w b off vs) ∧ Mm A w r b (off + 4)
end
def ano{A:Nat->Prop}{w:World}{t:Tm}{vs:List Value}(h:rep A w t vs):vs.length=4:=by cases t;simp only[rep]at h;obtain⟨_,_,_,v,b,a,rfl,_⟩:=h;rfl
def anp{A:Nat->Prop}{w:World}(l:List Tm):∀(b off:Nat),Mm A w l b off↔nE A w 4 rep l b off:=by
 induction l with
  |nil=>intro b off;simp[Mm,nE]
  |cons t r ih=>
   intro b off;simp only[Mm,ih];constructor;·rintro⟨⟨vs,h1,h2⟩,h3⟩i x hx;cases i with|zero=>simp at hx;subst hx;exact⟨vs,ano h1,h1,by simpa using h2⟩|succ i=>obtain⟨us,h4,h5,h6⟩:=h3 i x (by simpa using hx);exact⟨us,h4,h5,by rw[show off+(i+1)*4=off+4+i*4 by omega];exact h6⟩
   ·intro h;refine⟨?_,λi x hx=>?_⟩;·obtain⟨vs,_,h1,h2⟩:=h 0 t rfl;exact⟨vs,h1,by simpa using h2⟩
    ·obtain⟨vs,h1,h2,h3⟩:=h (i+1) x (by simpa using hx);exact⟨vs,h1,h2,by rw[show off+4+i*4=off+(i+1)*4 by omega];exact h3⟩
def jv{A:Nat->Prop}{w:World}{k n:Int}{s:ByteArray}{l:List Tm}{vs:List Value}:rep A w (mk k n s l) vs↔ah k/\ah n/\s.size<=1048576/\∃v,vs=[↑k,↑n,.string s,v]/\ag 4 rep A w l v:=by
 simp only[rep,anp,ag];constructor;·rintro⟨g,f,e,v,b,a,rfl,d,c⟩;exact⟨g,f,e,v,rfl,b,a,d,c⟩
 ·rintro⟨g,f,e,v,rfl,b,a,d,c⟩;exact⟨g,f,e,v,b,a,rfl,d,c⟩
def ae:iy rep:=by
 refine⟨λA w E t=>?_,λA H w t=>?_,λA w t B h=>?_⟩
 ·induction t using induct with
   |h k n s l p=>
    intro B h j;rw[jv]at h ⊢;obtain⟨z,y,u,v,rfl,b,c,e,o⟩:=h;refine⟨z,y,u,v,rfl,b,c,e,λi x f=>?_⟩;obtain⟨g,m,d,r⟩:=o i x f;have q:A b:=by
     obtain⟨_,⟨G,_⟩|⟨_,q,_⟩⟩:=e;·have :=(jQ.1 f).1;omega
     ·exact q
    exact⟨g,m,p x (Wh f) g d j,r.keeps q j⟩
 ·induction t using induct with
   |h k n s l p=>
    intro B h j;rw[jv]at h ⊢;obtain⟨z,y,u,v,rfl,b,c,e,o⟩:=h;refine⟨z,y,u,v,rfl,b,c,?_,λi x f=>?_⟩
    ·by_cases C:l=[]
     ·subst C;obtain⟨m,d|⟨d,_⟩⟩:=e;·exact⟨m,.inl d⟩
      ·simp at d
     ·exact e.mono (j b (o.block_lt zB C))
    ·obtain⟨g,m,d,r⟩:=o i x f;exact⟨g,m,p x (Wh f) g d j,r⟩
 ·cases t with|mk k n s l=>rw[jv]at h;obtain⟨_,_,_,v,rfl,b,c,e,_⟩:=h;obtain⟨a,D,rfl,_⟩:=e.val;simp[Value.oneCell']
def dV{A:Nat->Prop}{w:World}{t:Tm}{vs:List Value}(h:rep A w t vs):∃a cap,vs=[↑t.kind,↑t.n,.string t.s,.slice a t.args.length cap]/\ah t.kind/\ah t.n/\t.s.size<=1048576/\t.args.length<=cap/\cap<=maxLen/\t.args.length<=1048576/\ag 4 rep A w t.args (.slice a t.args.length cap):=by cases t with|mk k n s l=>rw[jv]at h;obtain⟨j,i,g,v,rfl,c⟩:=h;obtain⟨a,cap,b,m,rfl,f,e,d,_,_⟩:=c.at;exact⟨a,cap,rfl,j,i,g,f,e,d,c⟩
end Tm
def adY{w:World}{b a:Nat}{v0 v1 v2 v3:Value}(h:qJ w b a [v0,v1,v2,v3]):w.cell? (b,a)=some v0/\w.cell? (b,a+1)=some v1/\w.cell? (b,a+2)=some v2/\w.cell? (b,a+3)=some v3:=⟨h 0 _ rfl,h 1 _ rfl,h 2 _ rfl,h 3 _ rfl⟩
def lJ{A:Nat->Prop}{w d:World}{l:List Tm}{b c:Nat}(o:nE A w 4 Tm.rep l b c)(p:A b)(h:J A w d){k:Nat}(g:k<l.length):∃a cap,d.cell? (b,c+k*4)=some ↑l[k].kind/\d.cell? (b,c+k*4+1)=some ↑l[k].n/\d.cell? (b,c+k*4+2)=some (.string l[k].s)/\d.cell? (b,c+k*4+3)=some (.slice a l[k].args.length cap)/\Tm.rep A d l[k] [↑l[k].kind,↑l[k].n,.string l[k].s,.slice a l[k].args.length cap]:=by obtain⟨y,x,i,f⟩:=o k _ (aJ g);have v:=Tm.ae.1 _ _ d _ _ i h;have e:=qJ.keeps p f h;obtain⟨m,j,rfl, -⟩:=Tm.dV i;obtain⟨u,t,r,q⟩:=adY e;exact⟨m,j,u,t,r,q,v⟩
abbrev iN:=ag 4 Tm.rep
def iN.keeps{A:Nat->Prop}{w w':World}{l:List Tm}{v:Value}(h:iN A w l v)(a:J A w w'):iN A w' l v:=ag.keeps Tm.ae h a
abbrev Str:=List UInt8
def bs(l:Str):ByteArray:=⟨l.toArray⟩
def D9(c:UInt8):Bool:=c==32||c==10||c==9||c==13
def yD(c:UInt8):Bool:=decide (97<=c.toNat)&&decide (c.toNat<=122)
def Cf(c:UInt8):Bool:=decide (65<=c.toNat)&&decide (c.toNat<=90)
def mQ(c:UInt8):Bool:=decide (48<=c.toNat)&&decide (c.toNat<=57)
def Gf(s:Str):Nat:=(s.takeWhile yD).length
def vJ(s:Str):Nat:=(s.takeWhile mQ).length
def bP(s:Str):Str:=s.dropWhile D9
def xk:Tm:= .mk 0 0 ⟨#[]⟩ []
structure Rd where
  s : Str
  vars : List Str
  bad : Bool
def Rd.space(r:Rd):Rd:={r with s:=bP r.s}
def Rd.kill(r:Rd):Rd:={r with bad:=true}
def Rd.at_(a:Str)(r:Rd):Bool×Rd:=if a <+: bP r.s then(true,{r with s:=(bP r.s).drop a.length})else(false,r.space)
def dB:Str->Nat|[]=>0|c::r=>if yD c||Cf c then 1+Gf r else 0
def ed:Str->Nat|[]=>0|c::r=>if c=45 then 1+vJ r else vJ (c::r)
def Mr(d:Str):Int:=d.foldl (λ(n:Int)(c:UInt8)=>10*n+((c.toNat:Int) - 48)) 0
def digitsOf(t:Str):Str:=if t.head?=some 45 then t.tail else t
def Ji(t:Str):Option Int:=if digitsOf t=[]\/(digitsOf t).length>13\/((digitsOf t).head?=some 48/\t≠[48])then none else if Mr (digitsOf t)>1099511627776 then none else some (if digitsOf t=t then Mr (digitsOf t)else - Mr (digitsOf t))
def Gg(vars:List Str)(w:Str):Int×List Str:=if w∈vars then((vars.idxOf w:Nat),vars)else((vars.length:Nat),vars++[w])
def jK(f:Rd->Tm×Rd):Nat->List Tm->Rd->List Tm×Rd|0,l,r=>(l,r)|k+1,l,r=>if(f r).2.bad then(l++[(f r).1],(f r).2)else if((f r).2.at_ [44]).1 then jK f k (l++[(f r).1]) ((f r).2.at_ [44]).2 else(l++[(f r).1],((f r).2.at_ [44]).2)
def Ea(f:Rd->Tm×Rd)(w:Str)(r:Rd):Tm×Rd:=if(r.at_ [40]).1=false then(.mk 1 0 (bs w) [],(r.at_ [40]).2)else let l:=jK f ((r.at_ [40]).2.s.length+1) [] (r.at_ [40]).2;(.mk 3 0 (bs w) l.1,if(l.2.at_ [41]).1 then(l.2.at_ [41]).2 else(l.2.at_ [41]).2.kill)
def Eb(f:Rd->Tm×Rd)(c:UInt8)(rest:Str)(vars:List Str):Tm×Rd:=if Cf c then(.mk 0 (Gg vars ((c::rest).take (dB (c::rest)))).1 ⟨#[]⟩ [],⟨(c::rest).drop (dB (c::rest)),(Gg vars ((c::rest).take (dB (c::rest)))).2,false⟩)else if c=33 then(.mk 1 0 (bs [33]) [],⟨rest,vars,false⟩)else if c=45\/mQ c=true then match Ji ((c::rest).take (ed (c::rest)))with|some k=>(.mk 2 k ⟨#[]⟩ [],⟨(c::rest).drop (ed (c::rest)),vars,false⟩)|none=>(.mk 2 0 ⟨#[]⟩ [],⟨c::rest,vars,true⟩)else Ea f ((c::rest).take (dB (c::rest))) ⟨(c::rest).drop (dB (c::rest)),vars,false⟩
def cz:Nat->Rd->Tm×Rd|0,r=>(xk,r.space.kill)|n+1,r=>if r.bad then(xk,r.space.kill)else match bP r.s with|[]=>(xk,r.space.kill)|c::rest=>Eb (cz n) c rest r.vars
structure Ps where
  l : List Str
  vars : List Str
  bad : Bool
def Ps.kill(p:Ps):Ps:={p with bad:=true}
def Ps.take(w:Str)(p:Ps):Bool×Ps:=match p.l with|[]=>(false,p)|x::l=>if x=w then(true,{p with l:=l})else(false,p)
def WJ:Str->Nat|[]=>0|c::r=>if yD c||Cf c then 1+Gf r else if mQ c||c==45 then 1+vJ r else if c=58/\r.head?=some 45 then 2 else if c=40\/c=41\/c=44\/c=46\/c=33 then 1 else 0
def WK:Nat->Str->List Str|0,_=>[]|n+1,s=>match s with|[]=>[]|c::r=>if D9 c then WK n r else if WJ (c::r)=0 then[[]]else(c::r).take (WJ (c::r))::WK n ((c::r).drop (WJ (c::r)))
def words(s:Str):List Str:=WK s.length s
def anq{s:Str}{c:UInt8}{r:Str}(h:bP s=c::r):D9 c=false:=by
 induction s with
  |nil=>simp[bP]at h
  |cons x s a=>
   unfold bP at h a;rw[adF]at h;split at h;·exact a h
   ·rename_i d;simp only[sF]at h;obtain⟨rfl, -⟩:=h;simpa using d
def Ms(s:Str):bP (bP s)=bP s:=by cases h:bP s with|nil=>rfl|cons c r=>have :=anq h;unfold bP;rw[adF,this];simp
def Ar(s:Str):(bP s).length<=s.length:=by unfold bP;exact(List.dropWhile_sublist _).length_le
def at_len{sg:Str}(r:Rd):(r.at_ sg).2.s.length<=r.s.length/\((r.at_ sg).1=true->(r.at_ sg).2.s.length+sg.length<=r.s.length):=by
 have :=Ar r.s;unfold Rd.at_;split;·rename_i a;have :=a.length_le;simp only[yA];exact⟨zB,λ_=>zB⟩
 ·exact⟨this,zh⟩
def adZ{f:Rd->Tm×Rd}(a:∀r,(f r).2.s.length<=r.s.length):∀(k:Nat)(l:List Tm)(r:Rd),(jK f k l r).2.s.length<=r.s.length
 |0,l,r=>zL _
 |k+1,l,r=>by
  rw[jK];have b:=a r;have c:=(at_len (sg:=[44]) (f r).2).1;split;·exact b
  ·split;·have :=adZ a k (l++[(f r).1]) ((f r).2.at_ [44]).2;omega
   ·simp only;omega
def Jj(n:Nat)(s:Str):(s.drop n).length<=s.length:=zh
def anr{f:Rd->Tm×Rd}(a:∀r,(f r).2.s.length<=r.s.length)(w:Str)(r:Rd):(Ea f w r).2.s.length<=r.s.length:=by
 unfold Ea;have b:=(at_len (sg:=[40]) r).1;split;·exact b
 ·simp only;have d:=adZ a ((r.at_ [40]).2.s.length+1) [] (r.at_ [40]).2;have c:=(at_len (sg:=[41]) (jK f ((r.at_ [40]).2.s.length+1) [] (r.at_ [40]).2).2).1;split;·omega
  ·simp only[Rd.kill];omega
def ant{f:Rd->Tm×Rd}(a:∀r,(f r).2.s.length<=r.s.length)(c:UInt8)(rest:Str)(vars:List Str):(Eb f c rest vars).2.s.length<=rest.length+1:=by
 unfold Eb;split;·have :=Jj (dB (c::rest)) (c::rest);simp only[bn]at this ⊢;omega
 ·split;·simp only;omega
  ·split
   ·split;·have :=Jj (ed (c::rest)) (c::rest);simp only[bn]at this ⊢;omega
    ·simp
   ·have d:=anr a ((c::rest).take (dB (c::rest))) ⟨(c::rest).drop (dB (c::rest)),vars,false⟩;have b:=Jj (dB (c::rest)) (c::rest);simp only[bn]at d b ⊢;omega
def Jk:∀(n:Nat)(r:Rd),(cz n r).2.s.length<=r.s.length
 |0,r=>Ar _
 |n+1,r=>by
  have b:=Ar r.s;unfold cz;split;·exact b
  ·split;·exact b
   ·rename_i c a d;have :=ant (Jk n) c a r.vars;rw[d]at b;simp only[bn]at b;omega
inductive WL : Tm → Prop where
  | name (k n : Int) (l : List Tm) (h : k = 1 ∨ k = 3) : WL (.mk k n (bs []) l)
  | arg (k n : Int) (s : ByteArray) (l : List Tm) (t : Tm) (ht : t ∈ l) (h : WL t) : WL (.mk k n s l)
structure aAs (r : Rd) (p : Ps) : Prop where
  rb : r.bad = false
  pb : p.bad = false
  vars : p.vars = r.vars
  l : p.l = words r.s
theorem WM(c:UInt8)(r:Str):dB (c::r)=if yD c||Cf c then 1+Gf r else 0:=rfl
def anu{c:UInt8}{rest:Str}(h:c=45\/mQ c=true):ed (c::rest)=1+vJ rest:=by
 unfold ed;by_cases a:c=45;·simp only[a,if_true]
 ·have b:mQ c=true:=h.resolve_left a;simp only[a,if_false];unfold vJ;rw[adA,b];simp only[if_true,bn];omega
def anv(w:World)(p:Prop)(e:Ending)(w':World):Prop:=∃r,e= .returned (.bool r)/\(r=true↔p)/\w=w'
def Ec(s:ByteArray):Prop:=s=⟨#[33]⟩\/(1<=s.size/\s.size<=8/\∀i(h:i<s.size),97<=(s[i].toNat:Int)/\(s[i].toNat:Int)<=122)
def Q5{s s':ByteArray}(h:s.toList=s'.toList):s=s':=by rw[Me,Me]at h;cases s;cases s';congr 1;exact anh.1 h
def ad1(s:ByteArray)(w:World)(v:s.size<=1048576):Calls Tryz.prog 151 #[.string s] w (anv w (Ec s)):=by
 have f:(⟨#[33]⟩:ByteArray).toList=[33]:=by decide+kernel
 by_cases a:s.toList=(⟨#[33]⟩:ByteArray).toList
 ·have l:(s.toList==[33])=true:=by rw[a,f];rfl
  have n:Ec s:= .inl (Q5 a);have b:=Y n;clear n a f;go_enter Tryz.func151,Tryz.ntmps151;go_wp2_with fail;go_ret;exact⟨true,rfl,by simp[b.o],rfl⟩
 ·have d:¬s=⟨#[33]⟩:=λe=>a (by rw[e]);have l:(s.toList==[33])=false:=by rw[f]at a;simpa using a
  have b:=Y d;clear d a f;go_enter Tryz.func151,Tryz.ntmps151;go_wp2_with fail;go_loop[8](λi=>∃k:Nat,k<=s.size/\i= ↑k/\∀j(h:j<s.size),j<k->97<=(s[j].toNat:Int)/\(s[j].toNat:Int)<=122)(λi=>s.size - (intOf i).toNat);case atStart=>exact⟨0,dA _,rfl,λj _ h=>zB⟩
  case round=>
   obtain⟨k,x,rfl,m⟩:=hrel;have r:=Y m;clear m;by_cases c:k<s.size
   ·by_cases q:(s[k].toNat:Int)<97
    ·go_wp2_with fail;go_ret;refine⟨false,rfl,?_,rfl⟩;simp only[xe,false_iff];rintro(h|⟨_,_,h⟩);·exact b h
     ·have :=h k c;omega
    ·by_cases z:122<(s[k].toNat:Int)
     ·go_wp2_with fail;go_ret;refine⟨false,rfl,?_,rfl⟩;simp only[xe,false_iff];rintro(h|⟨_,_,h⟩);·exact b h
      ·have :=h k c;omega
     ·go_wp2_with fail;go_round;case rel=>
       refine⟨k+1,zB,zd,λj h y=>?_⟩;by_cases g:j=k;·subst g;omega
       ·exact r j h zB
      case measure=>simp[intOf];omega
   ·have :k=s.size:=zB;subst this;by_cases q:1<=s.size
    ·go_wp2_with fail;go_ret;refine⟨decide ((s.size:Int)<=8),zh,?_,rfl⟩;rw[Wm];constructor;·exactλh=> .inr ⟨q,zB,λi p=>r i p p⟩
     ·rintro(h|⟨_,h,_⟩);·exact absurd h b
      ·omega
    ·have u:decide ((1:Int)<=(s.size:Int))=false:=by simp;omega
     go_wp2_with fail;go_ret;refine⟨false,zh,?_,rfl⟩;simp only[xe,false_iff];rintro(h|⟨h,_,_⟩);·exact b h
     ·omega
def Au:oU Tryz.prog 23 34 4 56:= .mk' (z:= .agg #[.int .i64 0,.int .i64 0,.string .empty,.slice none 0 0]) Tryz.underlying23 zP rfl zB zB
def iO{w a:World}{o:Obj}(h:Below (w.alloc o).heap.size (w.alloc o) a):Below w w a:=((Z _ _).alloc (zL _) o).trans (h.mono zh)
