import Derived.Test.YtlpmfkpefoegeabDoorPPrint
import Derived.Test.YtlpmfkpefoegeabDoorPMEnd
import Derived.Test.YtlpmfkpefoegeabDoorQMap
import Derived.Test.YtlpmfkpefoegeabDoorQSolve1
import Derived.StillTailTactics
namespace Go.Proofs.YtlpmfkpefoegeabDoor
set_option maxRecDepth 100000
set_option maxHeartbeats 16000000
set_option linter.all false
noncomputable def ZcI(run:List Cl->List Tm->Int->List Ev×Int)(p q:Str):List Str×Int:=if(Zbd p).2≠0 then([],(Zbd p).2)else if(ZaF q).2.2≠0 then([],(ZaF q).2.2)else if(run (Zbd p).1 (ZaF q).1 (ZaF q).2.1).2≠0 then([],(run (Zbd p).1 (ZaF q).1 (ZaF q).2.1).2)else((run (Zbd p).1 (ZaF q).1 (ZaF q).2.1).1.map ZcR,0)
noncomputable def Ze5(p q:Str)(fuel every:Int):List Str×Int:=ZcI (fun P Q v=>Zcd P Q v fuel every) p q
theorem Zc4(p q:Str)(fuel every:Int)(h:0<=every):Ze5 p q fuel every=ZcI (fun P Q v=>Zcg P Q v fuel) p q:=by unfold Ze5;congr 1;funext P Q v;exact ZdN P Q v fuel every h
theorem ZfW(P:List Cl)(Q:List Tm)(v fuel every:Int)(h:every<0):(Zcd P Q v fuel every).2≠0:=by
 unfold Zcd;split;·simp
 ·rw[if_pos (by omega)];simp
theorem Zjq{P:List Cl}{Q:List Tm}{v fuel:Int}(h:(Zcg P Q v fuel).2=0):∀e∈(Zcg P Q v fuel).1,Tm.nodesL e.terms<=200:=by
 obtain⟨ans,k,he, -, -, -, -,ha⟩:=Zes h;rw[he];intro e hm;rcases List.mem_append.1 hm with hm|hm;·obtain⟨l,hl,rfl⟩:=List.mem_map.1 hm;exact(ha l hl).2.2
 ·simp only[List.mem_singleton]at hm;subst hm;simp[Tm.nodesL]
theorem Zlg{P:List Cl}{Q:List Tm}{v fuel every:Int}(h:(Zcd P Q v fuel every).2=0):∀e∈(Zcd P Q v fuel every).1,Tm.nodesL e.terms<=200:=by
 by_cases he:0<=every;·rw[ZdN _ _ _ _ _ he]at h ⊢;exact Zjq h
 ·exact absurd h (ZfW _ _ _ _ _ (by omega))
theorem ZnJ{P:List Cl}{Q:List Tm}{v fuel every:Int}(h:(Zcd P Q v fuel every).2=0):(Zcd P Q v fuel every).1.length<=13:=by
 by_cases he:0<=every;·rw[ZdN _ _ _ _ _ he]at h ⊢;obtain⟨ans,k,he, -, -,h4, -, -⟩:=Zes h;rw[he];simp only[List.length_append,List.length_map,List.length_singleton];omega
 ·exact absurd h (ZfW _ _ _ _ _ (by omega))
theorem ZgG(s:Str):I64 (Zbd s).2/\I64 (ZaF s).2.2/\0<=(ZaF s).2.1/\(ZaF s).2.1<=2000:=by
 refine⟨?_,?_,?_⟩;·rcases ZlJ s with h|⟨-,h|h⟩<;>rw[h]<;>unfold I64<;>omega
 ·rcases Zg7 s with h|⟨-, -,h|h⟩<;>rw[h]<;>unfold I64<;>omega
 ·rcases Zg7 s with h|⟨-,h, -⟩;·have :=Zgg h;have h1:=this.1;have h2:=this.2.1;omega
  ·rw[h];omega
end Go.Proofs.YtlpmfkpefoegeabDoor
namespace Go.Proofs.YtlpmfkpefoegeabDoor
set_option maxRecDepth 100000
set_option maxHeartbeats 16000000
set_option linter.all false
open Go.RowKit
section
variable {base : Nat} {P : List Cl} {q g mb xb : Nat} {pv tv cv ov tv' cv' ov' : Value} {s : Sv} {N : Int} {w w' : World}
theorem Zcq{E:TypeId}{size n:Nat}{v:Value}{xs:List Value}{k:Nat}(h:Own w base E size v n xs)(hk:Zai v=some k):∃c,w.heap[k]?=some (.cells c E (0,0)):=by
 rcases h.2 with⟨_,a,rfl⟩|⟨g,cap,cur,rfl,hc,hb,hg,_⟩;·cases a<;>simp[Zai]at hk
 ·simp only[Zai,Nat.pos_iff_ne_zero.1 hc,if_false,Option.some.injEq]at hk;subst hk;exact⟨cur,hg⟩
theorem OwnR.ty{α:Type}{E:TypeId}{size:Nat}{R:(Nat->Prop)->World->α->List Value->Prop}{A:Nat->Prop}{xs:List α}{v:Value}{k:Nat}(h:OwnR w base E size R A xs v)(hk:Zai v=some k):∃c,w.heap[k]?=some (.cells c E (0,0)):=by obtain⟨vals,_,ho,_⟩:=h;exact Zcq ho hk
theorem Zek{E E':TypeId}{c c':Array Value}{k:Nat}(h:w.heap[k]?=some (.cells c E (0,0)))(h':w.heap[k]?=some (.cells c' E' (0,0))):E=E':=by rw[h]at h';simp only[Option.some.injEq,Obj.cells.injEq]at h';exact h'.2.1
structure Apart (g mb : Nat) (tv cv ov : Value) : Prop where
  tg : Zai tv ≠ some g
  tm : Zai tv ≠ some mb
  cg : Zai cv ≠ some g
  cm : Zai cv ≠ some mb
  og : Zai ov ≠ some g
  om : Zai ov ≠ some mb
  tc : ∀ b, Zai tv = some b → Zai cv ≠ some b
  too : ∀ b, Zai tv = some b → Zai ov ≠ some b
  co : ∀ b, Zai cv = some b → Zai ov ≠ some b
end
theorem Zlh{s s':ByteArray}(h:¬s=s'):¬s.toList=s'.toList:=by intro e;rw[ByteArray.toList_eq,ByteArray.toList_eq]at e;apply h;cases s;cases s';simp only[ByteArray.mk.injEq];exact Array.toList_inj.1 e
section
variable {base : Nat} {P : List Cl} {q g mb xb : Nat} {pv cv ov : Value} {N : Int}
end
theorem ZpA:ElemTy Tryd.prog 55 69 2 32:= .mk' (z:= .agg #[.int .i64 0,.slice none 0 0]) Tryd.underlying55 (by kernel_rfl) rfl (by omega) (by omega)
section
variable {base : Nat} {P : List Cl} {q g mb xb : Nat} {pv tv cv ov tv' cv' ov' : Value} {s s' : Sv} {N : Int} {w w' : World}
end
end Go.Proofs.YtlpmfkpefoegeabDoor
