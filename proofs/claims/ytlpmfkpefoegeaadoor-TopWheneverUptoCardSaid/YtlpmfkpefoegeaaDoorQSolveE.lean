/-
  The solver: end, undo, like.
-/
import Derived.Test.YtlpmfkpefoegeaaDoorPPrint
import Derived.Test.YtlpmfkpefoegeaaDoorPMEnd
import Derived.Test.YtlpmfkpefoegeaaDoorPSolve
import Derived.Test.YtlpmfkpefoegeaaDoorQSolve1
import Derived.StillTailTactics
namespace Go.Proofs.YtlpmfkpefoegeaaDoor
set_option linter.unusedVariables false
set_option linter.unusedSimpArgs false
noncomputable def Zgw(run:List Cl->List Tm->Int->List Ev×Int)(p q:Str):List Str×Int:=if(ZbG p).2≠0 then([],(ZbG p).2)else if(ZaO q).2.2≠0 then([],(ZaO q).2.2)else if(run (ZbG p).1 (ZaO q).1 (ZaO q).2.1).2≠0 then([],(run (ZbG p).1 (ZaO q).1 (ZaO q).2.1).2)else((run (ZbG p).1 (ZaO q).1 (ZaO q).2.1).1.map ZeC,0)
noncomputable def Zpd(p q:Str)(fuel every:Int):List Str×Int:=Zgw (fun P Q v=>Zcd P Q v fuel every) p q
theorem Ziv(p q:Str)(fuel every:Int)(h:0<=every):Zpd p q fuel every=Zgw (fun P Q v=>ZcI P Q v fuel) p q:=by unfold Zpd;congr 1;funext P Q v;exact Zgv P Q v fuel every h
theorem Zkg(P:List Cl)(Q:List Tm)(v fuel every:Int)(h:every<0):(Zcd P Q v fuel every).2≠0:=by
 unfold Zcd;split;·simp
 ·rw[if_pos (by omega)];simp
theorem Zjc{P:List Cl}{Q:List Tm}{v fuel:Int}(h:(ZcI P Q v fuel).2=0):∀e∈(ZcI P Q v fuel).1,Tm.nodesL e.terms<=200:=by
 obtain⟨ans,k,he, -, -, -, -,ha⟩:=Zgq h;rw[he];intro e hm;rcases List.mem_append.1 hm with hm|hm;·obtain⟨l,hl,rfl⟩:=List.mem_map.1 hm;exact(ha l hl).2.2
 ·simp only[List.mem_singleton]at hm;subst hm;simp[Tm.nodesL]
theorem Zk3{P:List Cl}{Q:List Tm}{v fuel every:Int}(h:(Zcd P Q v fuel every).2=0):∀e∈(Zcd P Q v fuel every).1,Tm.nodesL e.terms<=200:=by
 by_cases he:0<=every;·rw[Zgv _ _ _ _ _ he]at h ⊢;exact Zjc h
 ·exact absurd h (Zkg _ _ _ _ _ (by omega))
theorem Znt{P:List Cl}{Q:List Tm}{v fuel every:Int}(h:(Zcd P Q v fuel every).2=0):(Zcd P Q v fuel every).1.length<=13:=by
 by_cases he:0<=every;·rw[Zgv _ _ _ _ _ he]at h ⊢;obtain⟨ans,k,he, -, -,h4, -, -⟩:=Zgq h;rw[he];simp only[List.length_append,List.length_map,List.length_singleton];omega
 ·exact absurd h (Zkg _ _ _ _ _ (by omega))
theorem Zgx(s:Str):I64 (ZbG s).2/\I64 (ZaO s).2.2/\0<=(ZaO s).2.1/\(ZaO s).2.1<=2000:=by
 refine⟨?_,?_,?_⟩;·rcases Zlv s with h|⟨-,h|h⟩<;>rw[h]<;>unfold I64<;>omega
 ·rcases ZgU s with h|⟨-, -,h|h⟩<;>rw[h]<;>unfold I64<;>omega
 ·rcases ZgU s with h|⟨-,h, -⟩;·have :=ZiS h;have h1:=this.1;have h2:=this.2.1;omega
  ·rw[h];omega
end Go.Proofs.YtlpmfkpefoegeaaDoor
namespace Go.Proofs.YtlpmfkpefoegeaaDoor
set_option linter.unusedVariables false
set_option linter.unusedSimpArgs false
open Go.RowKit
section
variable {base : Nat} {P : List Cl} {q g mb xb : Nat} {pv tv cv ov tv' cv' ov' : Value} {s : Sv} {N : Int} {w w' : World}
theorem Zci{E:TypeId}{size n:Nat}{v:Value}{xs:List Value}{k:Nat}(h:Own w base E size v n xs)(hk:Zai v=some k):∃c,w.heap[k]?=some (.cells c E (0,0)):=by
 rcases h.2 with⟨_,a,rfl⟩|⟨g,cap,cur,rfl,hc,hb,hg,_⟩;·cases a<;>simp[Zai]at hk
 ·simp only[Zai,Nat.pos_iff_ne_zero.1 hc,if_false,Option.some.injEq]at hk;subst hk;exact⟨cur,hg⟩
theorem OwnR.ty{α:Type}{E:TypeId}{size:Nat}{R:(Nat->Prop)->World->α->List Value->Prop}{A:Nat->Prop}{xs:List α}{v:Value}{k:Nat}(h:OwnR w base E size R A xs v)(hk:Zai v=some k):∃c,w.heap[k]?=some (.cells c E (0,0)):=by obtain⟨vals,_,ho,_⟩:=h;exact Zci ho hk
theorem Zec{E E':TypeId}{c c':Array Value}{k:Nat}(h:w.heap[k]?=some (.cells c E (0,0)))(h':w.heap[k]?=some (.cells c' E' (0,0))):E=E':=by rw[h]at h';simp only[Option.some.injEq,Obj.cells.injEq]at h';exact h'.2.1
structure Apart (g mb : Nat) (tv cv ov : Value) : Prop where
  tg : Zai tv ≠ some g
  tm : Zai tv ≠ some mb
  cg : Zai cv ≠ some g
  cm : Zai cv ≠ some mb
  og : Zai ov ≠ some g
  om : Zai ov ≠ some mb
  tc : ∀ b, Zai tv = some b → Zai cv ≠ some b
  too : ∀ b, Zai tv = some b → Zai ov ≠ some b
  co : ∀ b, Zai cv = some b → Zai ov ≠ some b
end
theorem Zk4{s s':ByteArray}(h:¬s=s'):¬s.toList=s'.toList:=by intro e;rw[ByteArray.toList_eq,ByteArray.toList_eq]at e;apply h;cases s;cases s';simp only[ByteArray.mk.injEq];exact Array.toList_inj.1 e
section
variable {base : Nat} {P : List Cl} {q g mb xb : Nat} {pv cv ov : Value} {N : Int}
end
theorem Zpe:ElemTy Tryd.prog 35 39 2 32:= .mk' (z:= .agg #[.int .i64 0,.slice none 0 0]) Tryd.underlying35 (by kernel_rfl) rfl (by omega) (by omega)
section
variable {base : Nat} {P : List Cl} {q g mb xb : Nat} {pv tv cv ov tv' cv' ov' : Value} {s s' : Sv} {N : Int} {w w' : World}
end
end Go.Proofs.YtlpmfkpefoegeaaDoor
