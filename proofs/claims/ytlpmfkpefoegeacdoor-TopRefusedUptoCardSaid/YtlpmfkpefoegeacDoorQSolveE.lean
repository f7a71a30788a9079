import Derived.Test.YtlpmfkpefoegeacDoorPPrint
import Derived.Test.YtlpmfkpefoegeacDoorPMEnd
import Derived.Test.YtlpmfkpefoegeacDoorPSolve
import Derived.Test.YtlpmfkpefoegeacDoorQSolve1
import Derived.StillTailTactics
namespace Go.Proofs.YtlpmfkpefoegeacDoor
set_option maxRecDepth 100000
set_option maxHeartbeats 16000000
set_option linter.all false
noncomputable def ZcP(run:List Cl->List Tm->Int->List Ev×Int)(p q:Str):List Str×Int:=if(Zbc p).2≠0 then([],(Zbc p).2)else if(ZaE q).2.2≠0 then([],(ZaE q).2.2)else if(run (Zbc p).1 (ZaE q).1 (ZaE q).2.1).2≠0 then([],(run (Zbc p).1 (ZaE q).1 (ZaE q).2.1).2)else((run (Zbc p).1 (ZaE q).1 (ZaE q).2.1).1.map Zef,0)
noncomputable def ZmD(p q:Str)(fuel every:Int):List Str×Int:=ZcP (fun P Q v=>Zcd P Q v fuel every) p q
theorem Ziw(p q:Str)(fuel every:Int)(h:0<=every):ZmD p q fuel every=ZcP (fun P Q v=>Zda P Q v fuel) p q:=by unfold ZmD;congr 1;funext P Q v;exact ZeO P Q v fuel every h
theorem Zhz(P:List Cl)(Q:List Tm)(v fuel every:Int)(h:every<0):(Zcd P Q v fuel every).2≠0:=by
 unfold Zcd;split;·simp
 ·rw[if_pos (by omega)];simp
theorem Zjc{P:List Cl}{Q:List Tm}{v fuel:Int}(h:(Zda P Q v fuel).2=0):∀e∈(Zda P Q v fuel).1,Tm.nodesL e.terms<=200:=by
 obtain⟨ans,k,he, -, -, -, -,ha⟩:=Zgq h;rw[he];intro e hm;rcases List.mem_append.1 hm with hm|hm;·obtain⟨l,hl,rfl⟩:=List.mem_map.1 hm;exact(ha l hl).2.2
 ·simp only[List.mem_singleton]at hm;subst hm;simp[Tm.nodesL]
theorem Zk6{P:List Cl}{Q:List Tm}{v fuel every:Int}(h:(Zcd P Q v fuel every).2=0):∀e∈(Zcd P Q v fuel every).1,Tm.nodesL e.terms<=200:=by
 by_cases he:0<=every;·rw[ZeO _ _ _ _ _ he]at h ⊢;exact Zjc h
 ·exact absurd h (Zhz _ _ _ _ _ (by omega))
theorem Znu{P:List Cl}{Q:List Tm}{v fuel every:Int}(h:(Zcd P Q v fuel every).2=0):(Zcd P Q v fuel every).1.length<=13:=by
 by_cases he:0<=every;·rw[ZeO _ _ _ _ _ he]at h ⊢;obtain⟨ans,k,he, -, -,h4, -, -⟩:=Zgq h;rw[he];simp only[List.length_append,List.length_map,List.length_singleton];omega
 ·exact absurd h (Zhz _ _ _ _ _ (by omega))
theorem Zgv(s:Str):I64 (Zbc s).2/\I64 (ZaE s).2.2/\0<=(ZaE s).2.1/\(ZaE s).2.1<=2000:=by
 refine⟨?_,?_,?_⟩;·rcases Zly s with h|⟨-,h|h⟩<;>rw[h]<;>unfold I64<;>omega
 ·rcases ZgV s with h|⟨-, -,h|h⟩<;>rw[h]<;>unfold I64<;>omega
 ·rcases ZgV s with h|⟨-,h, -⟩;·have :=Zf5 h;have h1:=this.1;have h2:=this.2.1;omega
  ·rw[h];omega
end Go.Proofs.YtlpmfkpefoegeacDoor
namespace Go.Proofs.YtlpmfkpefoegeacDoor
set_option maxRecDepth 100000
set_option maxHeartbeats 16000000
set_option linter.all false
open Go.RowKit
section
variable {base : Nat} {P : List Cl} {q g mb xb : Nat} {pv tv cv ov tv' cv' ov' : Value} {s : Sv} {N : Int} {w w' : World}
theorem Zck{E:TypeId}{size n:Nat}{v:Value}{xs:List Value}{k:Nat}(h:Own w base E size v n xs)(hk:Zai v=some k):∃c,w.heap[k]?=some (.cells c E (0,0)):=by
 rcases h.2 with⟨_,a,rfl⟩|⟨g,cap,cur,rfl,hc,hb,hg,_⟩;·cases a<;>simp[Zai]at hk
 ·simp only[Zai,Nat.pos_iff_ne_zero.1 hc,if_false,Option.some.injEq]at hk;subst hk;exact⟨cur,hg⟩
theorem OwnR.ty{α:Type}{E:TypeId}{size:Nat}{R:(Nat->Prop)->World->α->List Value->Prop}{A:Nat->Prop}{xs:List α}{v:Value}{k:Nat}(h:OwnR w base E size R A xs v)(hk:Zai v=some k):∃c,w.heap[k]?=some (.cells c E (0,0)):=by obtain⟨vals,_,ho,_⟩:=h;exact Zck ho hk
theorem Zec{E E':TypeId}{c c':Array Value}{k:Nat}(h:w.heap[k]?=some (.cells c E (0,0)))(h':w.heap[k]?=some (.cells c' E' (0,0))):E=E':=by rw[h]at h';simp only[Option.some.injEq,Obj.cells.injEq]at h';exact h'.2.1
structure Apart (g mb : Nat) (tv cv ov : Value) : Prop where
  tg : Zai tv ≠ some g
  tm : Zai tv ≠ some mb
  cg : Zai cv ≠ some g
  cm : Zai cv ≠ some mb
  og : Zai ov ≠ some g
  om : Zai ov ≠ some mb
  tc : ∀ b, Zai tv = some b → Zai cv ≠ some b
  too : ∀ b, Zai tv = some b → Zai ov ≠ some b
  co : ∀ b, Zai cv = some b → Zai ov ≠ some b
end
theorem Zk7{s s':ByteArray}(h:¬s=s'):¬s.toList=s'.toList:=by intro e;rw[ByteArray.toList_eq,ByteArray.toList_eq]at e;apply h;cases s;cases s';simp only[ByteArray.mk.injEq];exact Array.toList_inj.1 e
section
variable {base : Nat} {P : List Cl} {q g mb xb : Nat} {pv cv ov : Value} {N : Int}
end
theorem Zpg:ElemTy Tryd.prog 62 66 2 32:= .mk' (z:= .agg #[.int .i64 0,.slice none 0 0]) Tryd.underlying62 (by kernel_rfl) rfl (by omega) (by omega)
section
variable {base : Nat} {P : List Cl} {q g mb xb : Nat} {pv tv cv ov tv' cv' ov' : Value} {s s' : Sv} {N : Int} {w w' : World}
end
end Go.Proofs.YtlpmfkpefoegeacDoor
