import Derived.Test.YtlpmfkpefoegeabDoorPPrint
import Derived.Test.YtlpmfkpefoegeabDoorPMEnd
import Derived.Test.YtlpmfkpefoegeabDoorQMap
import Derived.Test.YtlpmfkpefoegeabDoorQSolve1
import Derived.StillTailTactics
namespace Go.Proofs.YtlpmfkpefoegeabDoor
set_option maxRecDepth 100000
set_option maxHeartbeats 16000000
set_option linter.all false
noncomputable def Zc6(run:List Cl->List Tm->Int->List Ev×Int)(p q:Str):List Str×Int:=if(Zbw p).2≠0 then([],(Zbw p).2)else if(ZaK q).2.2≠0 then([],(ZaK q).2.2)else if(run (Zbw p).1 (ZaK q).1 (ZaK q).2.1).2≠0 then([],(run (Zbw p).1 (ZaK q).1 (ZaK q).2.1).2)else((run (Zbw p).1 (ZaK q).1 (ZaK q).2.1).1.map Zdc,0)
noncomputable def Zlj(p q:Str)(fuel every:Int):List Str×Int:=Zc6 (fun P Q v=>Zcb P Q v fuel every) p q
theorem Zmg(p q:Str)(fuel every:Int)(h:0<=every):Zlj p q fuel every=Zc6 (fun P Q v=>Zc9 P Q v fuel) p q:=by unfold Zlj;congr 1;funext P Q v;exact ZeQ P Q v fuel every h
theorem Zhy(P:List Cl)(Q:List Tm)(v fuel every:Int)(h:every<0):(Zcb P Q v fuel every).2≠0:=by
 unfold Zcb;split;·simp
 ·rw[if_pos (by omega)];simp
theorem Zjf{P:List Cl}{Q:List Tm}{v fuel:Int}(h:(Zc9 P Q v fuel).2=0):∀e∈(Zc9 P Q v fuel).1,Tm.nodesL e.terms<=200:=by
 obtain⟨ans,k,he, -, -, -, -,ha⟩:=Zen h;rw[he];intro e hm;rcases List.mem_append.1 hm with hm|hm;·obtain⟨l,hl,rfl⟩:=List.mem_map.1 hm;exact(ha l hl).2.2
 ·simp only[List.mem_singleton]at hm;subst hm;simp[Tm.nodesL]
theorem Zk5{P:List Cl}{Q:List Tm}{v fuel every:Int}(h:(Zcb P Q v fuel every).2=0):∀e∈(Zcb P Q v fuel every).1,Tm.nodesL e.terms<=200:=by
 by_cases he:0<=every;·rw[ZeQ _ _ _ _ _ he]at h ⊢;exact Zjf h
 ·exact absurd h (Zhy _ _ _ _ _ (by omega))
theorem Znx{P:List Cl}{Q:List Tm}{v fuel every:Int}(h:(Zcb P Q v fuel every).2=0):(Zcb P Q v fuel every).1.length<=13:=by
 by_cases he:0<=every;·rw[ZeQ _ _ _ _ _ he]at h ⊢;obtain⟨ans,k,he, -, -,h4, -, -⟩:=Zen h;rw[he];simp only[List.length_append,List.length_map,List.length_singleton];omega
 ·exact absurd h (Zhy _ _ _ _ _ (by omega))
theorem Zgx(s:Str):I64 (Zbw s).2/\I64 (ZaK s).2.2/\0<=(ZaK s).2.1/\(ZaK s).2.1<=2000:=by
 refine⟨?_,?_,?_⟩;·rcases Zlz s with h|⟨-,h|h⟩<;>rw[h]<;>unfold I64<;>omega
 ·rcases ZgU s with h|⟨-, -,h|h⟩<;>rw[h]<;>unfold I64<;>omega
 ·rcases ZgU s with h|⟨-,h, -⟩;·have :=ZiV h;have h1:=this.1;have h2:=this.2.1;omega
  ·rw[h];omega
end Go.Proofs.YtlpmfkpefoegeabDoor
namespace Go.Proofs.YtlpmfkpefoegeabDoor
set_option maxRecDepth 100000
set_option maxHeartbeats 16000000
set_option linter.all false
open Go.RowKit
section
variable {base : Nat} {P : List Cl} {q g mb xb : Nat} {pv tv cv ov tv' cv' ov' : Value} {s : Sv} {N : Int} {w w' : World}
theorem Zci{E:TypeId}{size n:Nat}{v:Value}{xs:List Value}{k:Nat}(h:Own w base E size v n xs)(hk:Zaj v=some k):∃c,w.heap[k]?=some (.cells c E (0,0)):=by
 rcases h.2 with⟨_,a,rfl⟩|⟨g,cap,cur,rfl,hc,hb,hg,_⟩;·cases a<;>simp[Zaj]at hk
 ·simp only[Zaj,Nat.pos_iff_ne_zero.1 hc,if_false,Option.some.injEq]at hk;subst hk;exact⟨cur,hg⟩
theorem OwnR.ty{α:Type}{E:TypeId}{size:Nat}{R:(Nat->Prop)->World->α->List Value->Prop}{A:Nat->Prop}{xs:List α}{v:Value}{k:Nat}(h:OwnR w base E size R A xs v)(hk:Zaj v=some k):∃c,w.heap[k]?=some (.cells c E (0,0)):=by obtain⟨vals,_,ho,_⟩:=h;exact Zci ho hk
theorem Zee{E E':TypeId}{c c':Array Value}{k:Nat}(h:w.heap[k]?=some (.cells c E (0,0)))(h':w.heap[k]?=some (.cells c' E' (0,0))):E=E':=by rw[h]at h';simp only[Option.some.injEq,Obj.cells.injEq]at h';exact h'.2.1
structure Apart (g mb : Nat) (tv cv ov : Value) : Prop where
  tg : Zaj tv ≠ some g
  tm : Zaj tv ≠ some mb
  cg : Zaj cv ≠ some g
  cm : Zaj cv ≠ some mb
  og : Zaj ov ≠ some g
  om : Zaj ov ≠ some mb
  tc : ∀ b, Zaj tv = some b → Zaj cv ≠ some b
  too : ∀ b, Zaj tv = some b → Zaj ov ≠ some b
  co : ∀ b, Zaj cv = some b → Zaj ov ≠ some b
end
theorem Zk6{s s':ByteArray}(h:¬s=s'):¬s.toList=s'.toList:=by intro e;rw[ByteArray.toList_eq,ByteArray.toList_eq]at e;apply h;cases s;cases s';simp only[ByteArray.mk.injEq];exact Array.toList_inj.1 e
section
variable {base : Nat} {P : List Cl} {q g mb xb : Nat} {pv cv ov : Value} {N : Int}
end
theorem Zpl:ElemTy Tryd.prog 55 69 2 32:= .mk' (z:= .agg #[.int .i64 0,.slice none 0 0]) Tryd.underlying55 (by kernel_rfl) rfl (by omega) (by omega)
section
variable {base : Nat} {P : List Cl} {q g mb xb : Nat} {pv tv cv ov tv' cv' ov' : Value} {s s' : Sv} {N : Int} {w w' : World}
end
end Go.Proofs.YtlpmfkpefoegeabDoor
