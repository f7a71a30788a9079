import Derived.Test.YtlpmfkpefoegeacGreatDoorQUbind
namespace Go.Proofs.YtlpmfkpefoegeacGreatDoor
set_option maxRecDepth 99999
set_option maxHeartbeats 0
set_option linter.all false
open Go.RowKit
def Out(B:Nat)(av bv:Value)(b:Nat):Prop:=B<=b/\ownB av≠some b/\ownB bv≠some b
structure Two (B : Nat) (w : World) (la lb : List Tm) (av bv : Value) : Prop where
  a : az w B 34 4 Tm.rep (fun b => B ≤ b ∧ ownB bv ≠ some b) la av
  b : az w B 34 4 Tm.rep (fun b => B ≤ b ∧ ownB av ≠ some b) lb bv
  sep : ∀ k, ownB av = some k → ownB bv ≠ some k
theorem jJ.new{w w':World}{v v':Value}(h:jJ w w' v v'){b:Nat}(hb:b<w.heap.size)(hn:ownB v≠some b):ownB v'≠some b:=fun e=>by
 rcases h.block with h1|h1;·exact hn (h1▸e)
 ·have :=h1 b e;omega
section
variable {P : Program} {ops : Array Oper} {Q : Exit → Act → World → Prop}
theorem EB{w:World}{o:Oper}{a:Act}{K:Act->World->Prop}(s x:Operand)(t:TypeId)(ho:o.op= .call {callee:= .builtin .append,args:=#[s,x],argTypes:=#[t,t]})(base:Nat)(e:TypeId)(size bytes:Nat)(hty:oU P t e size bytes){α:Type}{R:(Nat->Prop)->World->α->List Value->Prop}(hR:iy R){A:Nat->Prop}(v:Value)(xs:List α)(hs:a.eval s=v)(hown:az w base e size R A xs v)(xv:Value)(hxv:a.eval x=xv)(ys:List α)(hx:ag size R (fun b=>A b/\ownB v≠some b) w ys xv)(hlen:xs.length+ys.length<=4194304)(hbase:base<=w.heap.size)(h:∀v' w',az w' base e size R A (xs++ys) v'->jJ w w' v v'->K (a.put o.dst v') w'):o.wp P a w K Q:=by obtain⟨v',w',hr,k1,k2⟩:=aeC (P:=P) w base t o.type e size bytes hty hR v xs hown xv ys hx hlen hbase;unfold Oper.wp execOp;simp only[ho,resolve,invoke,builtin,Sem.run_bind,Sem.run_pure,ani,anf,sH,D8,hs,hxv,hr];exact h v' w' k1 k2
theorem JP{F:Nat->World->Prop}{i j:Nat}{fuel:Nat}{listed:Array Bool}{a:Act}{w:World}(hr:Region.ready .any ops listed=[i,j])(h1:wpOp P ops Q i (fun a' w'=>Mt ops F i w w'/\mo P ops Q F fuel (listed.setIfInBounds i true) a' w') a w)(h2:wpOp P ops Q j (fun a' w'=>Mt ops F j w w'/\mo P ops Q F fuel (listed.setIfInBounds j true) a' w') a w):mo P ops Q F (fuel+1) listed a w:=⟨fun h0=>(by rw[hr]at h0;cases h0),fun k hk=>(by
 rw[hr]at hk;simp only[jr,yz,vI]at hk;rcases hk with rfl|rfl;·exact h1
 ·exact h2)⟩
end
