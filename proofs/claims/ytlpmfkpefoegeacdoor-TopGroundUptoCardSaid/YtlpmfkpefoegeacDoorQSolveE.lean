import Derived.Test.YtlpmfkpefoegeacDoorPPrint
import Derived.Test.YtlpmfkpefoegeacDoorPMEnd
import Derived.Test.YtlpmfkpefoegeacDoorPSolve
import Derived.Test.YtlpmfkpefoegeacDoorQSolve1
import Derived.StillTailTactics
namespace Go.Proofs.YtlpmfkpefoegeacDoor
set_option maxRecDepth 100000
set_option maxHeartbeats 16000000
set_option linter.all false
noncomputable def Zfg(run:List Cl->List Tm->Int->List Ev×Int)(p q:Str):List Str×Int:=if(Zbv p).2≠0 then([],(Zbv p).2)else if(ZaH q).2.2≠0 then([],(ZaH q).2.2)else if(run (Zbv p).1 (ZaH q).1 (ZaH q).2.1).2≠0 then([],(run (Zbv p).1 (ZaH q).1 (ZaH q).2.1).2)else((run (Zbv p).1 (ZaH q).1 (ZaH q).2.1).1.map Zc3,0)
noncomputable def ZmE(p q:Str)(fuel every:Int):List Str×Int:=Zfg (fun P Q v=>Zce P Q v fuel every) p q
theorem Zmc(p q:Str)(fuel every:Int)(h:0<=every):ZmE p q fuel every=Zfg (fun P Q v=>Zc9 P Q v fuel) p q:=by unfold ZmE;congr 1;funext P Q v;exact ZeO P Q v fuel every h
theorem Zhx(P:List Cl)(Q:List Tm)(v fuel every:Int)(h:every<0):(Zce P Q v fuel every).2≠0:=by
 unfold Zce;split;·simp
 ·rw[if_pos (by omega)];simp
theorem Zjc{P:List Cl}{Q:List Tm}{v fuel:Int}(h:(Zc9 P Q v fuel).2=0):∀e∈(Zc9 P Q v fuel).1,Tm.nodesL e.terms<=200:=by
 obtain⟨ans,k,he, -, -, -, -,ha⟩:=Zel h;rw[he];intro e hm;rcases List.mem_append.1 hm with hm|hm;·obtain⟨l,hl,rfl⟩:=List.mem_map.1 hm;exact(ha l hl).2.2
 ·simp only[List.mem_singleton]at hm;subst hm;simp[Tm.nodesL]
theorem Zk2{P:List Cl}{Q:List Tm}{v fuel every:Int}(h:(Zce P Q v fuel every).2=0):∀e∈(Zce P Q v fuel every).1,Tm.nodesL e.terms<=200:=by
 by_cases he:0<=every;·rw[ZeO _ _ _ _ _ he]at h ⊢;exact Zjc h
 ·exact absurd h (Zhx _ _ _ _ _ (by omega))
theorem Znv{P:List Cl}{Q:List Tm}{v fuel every:Int}(h:(Zce P Q v fuel every).2=0):(Zce P Q v fuel every).1.length<=13:=by
 by_cases he:0<=every;·rw[ZeO _ _ _ _ _ he]at h ⊢;obtain⟨ans,k,he, -, -,h4, -, -⟩:=Zel h;rw[he];simp only[List.length_append,List.length_map,List.length_singleton];omega
 ·exact absurd h (Zhx _ _ _ _ _ (by omega))
theorem Zgu(s:Str):I64 (Zbv s).2/\I64 (ZaH s).2.2/\0<=(ZaH s).2.1/\(ZaH s).2.1<=2000:=by
 refine⟨?_,?_,?_⟩;·rcases Zlw s with h|⟨-,h|h⟩<;>rw[h]<;>unfold I64<;>omega
 ·rcases ZgS s with h|⟨-, -,h|h⟩<;>rw[h]<;>unfold I64<;>omega
 ·rcases ZgS s with h|⟨-,h, -⟩;·have :=ZiS h;have h1:=this.1;have h2:=this.2.1;omega
  ·rw[h];omega
end Go.Proofs.YtlpmfkpefoegeacDoor
namespace Go.Proofs.YtlpmfkpefoegeacDoor
set_option maxRecDepth 100000
set_option maxHeartbeats 16000000
set_option linter.all false
open Go.RowKit
section
variable {base : Nat} {P : List Cl} {q g mb xb : Nat} {pv tv cv ov tv' cv' ov' : Value} {s : Sv} {N : Int} {w w' : World}
theorem Zci{E:TypeId}{size n:Nat}{v:Value}{xs:List Value}{k:Nat}(h:Own w base E size v n xs)(hk:Zai v=some k):∃c,w.heap[k]?=some (.cells c E (0,0)):=by
 rcases h.2 with⟨_,a,rfl⟩|⟨g,cap,cur,rfl,hc,hb,hg,_⟩;·cases a<;>simp[Zai]at hk
 ·simp only[Zai,Nat.pos_iff_ne_zero.1 hc,if_false,Option.some.injEq]at hk;subst hk;exact⟨cur,hg⟩
theorem OwnR.ty{α:Type}{E:TypeId}{size:Nat}{R:(Nat->Prop)->World->α->List Value->Prop}{A:Nat->Prop}{xs:List α}{v:Value}{k:Nat}(h:OwnR w base E size R A xs v)(hk:Zai v=some k):∃c,w.heap[k]?=some (.cells c E (0,0)):=by obtain⟨vals,_,ho,_⟩:=h;exact Zci ho hk
theorem Zed{E E':TypeId}{c c':Array Value}{k:Nat}(h:w.heap[k]?=some (.cells c E (0,0)))(h':w.heap[k]?=some (.cells c' E' (0,0))):E=E':=by rw[h]at h';simp only[Option.some.injEq,Obj.cells.injEq]at h';exact h'.2.1
structure Apart (g mb : Nat) (tv cv ov : Value) : Prop where
  tg : Zai tv ≠ some g
  tm : Zai tv ≠ some mb
  cg : Zai cv ≠ some g
  cm : Zai cv ≠ some mb
  og : Zai ov ≠ some g
  om : Zai ov ≠ some mb
  tc : ∀ b, Zai tv = some b → Zai cv ≠ some b
  too : ∀ b, Zai tv = some b → Zai ov ≠ some b
  co : ∀ b, Zai cv = some b → Zai ov ≠ some b
end
theorem Zk3{s s':ByteArray}(h:¬s=s'):¬s.toList=s'.toList:=by intro e;rw[ByteArray.toList_eq,ByteArray.toList_eq]at e;apply h;cases s;cases s';simp only[ByteArray.mk.injEq];exact Array.toList_inj.1 e
section
variable {base : Nat} {P : List Cl} {q g mb xb : Nat} {pv cv ov : Value} {N : Int}
end
theorem Zpj:ElemTy Tryd.prog 62 66 2 32:= .mk' (z:= .agg #[.int .i64 0,.slice none 0 0]) Tryd.underlying62 (by kernel_rfl) rfl (by omega) (by omega)
section
variable {base : Nat} {P : List Cl} {q g mb xb : Nat} {pv tv cv ov tv' cv' ov' : Value} {s s' : Sv} {N : Int} {w w' : World}
end
end Go.Proofs.YtlpmfkpefoegeacDoor
