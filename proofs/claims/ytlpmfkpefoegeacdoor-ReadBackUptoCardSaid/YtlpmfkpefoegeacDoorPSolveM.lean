/-
  Plain laws of the solver: with more fuel; with one more clause that nobody asks for.
-/
import Derived.Test.YtlpmfkpefoegeacDoorPSolve
namespace Go.Proofs.YtlpmfkpefoegeacDoor
set_option linter.unusedVariables false
set_option linter.unusedSimpArgs false
def pot (fuel : Nat) (cs : List Chc) : Nat := 25 * fuel + (cs.map fun c => 24 - c.at_).sum
def GlsOk (N : Int) (gl : List Gl) : Prop := ∀ g ∈ gl, g.t.In N ∧ g.bar ≤ 150
structure ChcOk (P : List Cl) (N : Int) (L : Nat) (c : Chc) : Prop where
  ne : c.g ≠ []
  gls : GlsOk N c.g
  one : 1 ≤ c.at_
  lt : c.at_ < P.length
  trail : c.trail ≤ L
structure SvOk (P : List Cl) (s : Sv) : Prop where
  prog : GoodP P
  vars0 : 0 ≤ s.vars
  env : EnvOk s.vars s.env
  chc : ∀ c ∈ s.choices, ChcOk P s.vars s.env.length c
  trails : s.choices.Pairwise fun c d => d.trail ≤ c.trail
  potV : s.vars + 8 * (pot s.fuel s.choices : Nat) ≤ 30008
  potE : s.env.length + 400 * pot s.fuel s.choices ≤ 1500000
  few : s.choices.length + s.fuel ≤ 150
section
variable {P : List Cl} {g : Gl} {rest : List Gl}
end
section
variable {P : List Cl}
end
namespace Tm
theorem renS_nodes {σ : Type} (f : σ → Int → Int × σ) : ∀ (t : Tm) (st : σ), (renS f st t).1.nodes = t.nodes := by
  intro t
  induction t using induct with
  | h k n s l ih =>
    intro st
    have hL : ∀ (r : List Tm), (∀ t ∈ r, t ∈ l) → ∀ st : σ, nodesL (renSL f st r).1 = nodesL r := by
      intro r
      induction r with
      | nil => intro _ st; rfl
      | cons x r ihr =>
        intro hm st
        simp only [renSL, nodesL, ih x (hm x (by simp)), ihr (fun t ht => hm t (by simp [ht]))]
    simp only [renS, nodes, hL l (fun _ h => h)]
theorem renSL_nodes {σ : Type} (f : σ → Int → Int × σ) : ∀ (l : List Tm) (st : σ), nodesL (renSL f st l).1 = nodesL l
  | [], st => rfl
  | x :: r, st => by simp only [renSL, nodesL, renS_nodes, renSL_nodes f r]
end Tm
section
variable {P : List Cl}
end
section
variable {P : List Cl}
def Sv.more (s : Sv) (m : Nat) : Sv := { s with fuel := s.fuel + m }
end
end Go.Proofs.YtlpmfkpefoegeacDoor
