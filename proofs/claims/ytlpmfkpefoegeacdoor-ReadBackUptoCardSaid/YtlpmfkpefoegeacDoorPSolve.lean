/-
  Answers by terms alone, in plain data: what is bound, what is still to be shown, which choices there are.
-/
import Derived.Test.YtlpmfkpefoegeacDoorQClause2
import Derived.Test.YtlpmfkpefoegeacDoorPTidy
namespace Go.Proofs.YtlpmfkpefoegeacDoor
set_option linter.unusedVariables false
set_option linter.unusedSimpArgs false
abbrev Env := List (Int × Tm)
abbrev Tm.In (N : Int) (t : Tm) : Prop := t.Good N
structure EnvOk (N : Int) (E : Env) : Prop where
  key : ∀ p ∈ E, 0 ≤ p.1 ∧ p.1 < N
  tm : ∀ p ∈ E, p.2.In N
  less : ∀ p ∈ E, p.2.kind = 0 → p.2.n < p.1
  nodup : (E.map (·.1)).Nodup
section
variable {N : Int} {E : Env}
end
structure US where
  ok : Bool
  env : Env
  work : Int
structure Ev where
  kind : Int
  terms : List Tm
structure Gl where
  t : Tm
  bar : Nat
structure Chc where
  g : List Gl
  at_ : Nat
  trail : Nat
structure Sv where
  env : Env
  choices : List Chc
  vars : Int
  fuel : Nat
  out : List Ev
inductive Res where
  | next (g : List Gl)
  | no
  | off
def Sv.put (s : Sv) (kind : Int) : Sv := { s with out := s.out ++ [⟨kind, []⟩] }
def likeF (a b : Tm) : Prop := a.s = b.s ∧ a.args.length = b.args.length
noncomputable instance (a b : Tm) : Decidable (likeF a b) := by unfold likeF; infer_instance
end Go.Proofs.YtlpmfkpefoegeacDoor
