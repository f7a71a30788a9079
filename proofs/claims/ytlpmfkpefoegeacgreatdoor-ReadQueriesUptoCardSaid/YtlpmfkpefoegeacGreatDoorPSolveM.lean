/-
  Plain laws of the solver: with more fuel; with one more clause that nobody asks for.
-/
import Derived.Test.YtlpmfkpefoegeacGreatDoorPSolve
namespace Go.Proofs.YtlpmfkpefoegeacGreatDoor
set_option linter.unusedVariables false
set_option linter.unusedSimpArgs false
def pot (fuel : Nat) (cs : List Chc) : Nat := 25 * fuel + (cs.map fun c => 24 - c.at_).sum
def GlsOk (N : Int) (gl : List Gl) : Prop := ∀ g ∈ gl, g.t.In N ∧ g.bar ≤ 150
theorem GlsOk.mono {N N' : Int} {gl : List Gl} (h : GlsOk N gl) (hN : N ≤ N') : GlsOk N' gl := fun g hg => ⟨(h g hg).1.mono hN, (h g hg).2⟩
structure ChcOk (P : List Cl) (N : Int) (L : Nat) (c : Chc) : Prop where
  ne : c.g ≠ []
  gls : GlsOk N c.g
  one : 1 ≤ c.at_
  lt : c.at_ < P.length
  trail : c.trail ≤ L
structure SvOk (P : List Cl) (s : Sv) : Prop where
  prog : GoodP P
  vars0 : 0 ≤ s.vars
  env : EnvOk s.vars s.env
  chc : ∀ c ∈ s.choices, ChcOk P s.vars s.env.length c
  trails : s.choices.Pairwise fun c d => d.trail ≤ c.trail
  potV : s.vars + 8 * (pot s.fuel s.choices : Nat) ≤ 30008
  potE : s.env.length + 400 * pot s.fuel s.choices ≤ 1500000
  few : s.choices.length + s.fuel ≤ 150
theorem ChcOk.mono {P : List Cl} {N N' : Int} {L L' : Nat} {c : Chc} (h : ChcOk P N L c) (hN : N ≤ N') (hL : L ≤ L') : ChcOk P N' L' c :=
  ⟨h.ne, h.gls.mono hN, h.one, h.lt, Nat.le_trans h.trail hL⟩
theorem GoodP.at {P : List Cl} (h : GoodP P) {k : Nat} {c : Cl} (hc : P[k]? = some c) : c.Good := h.2 c (List.mem_of_getElem? hc)
section
variable {P : List Cl} {g : Gl} {rest : List Gl}
end
section
variable {P : List Cl}
end
namespace Tm
end Tm
def AnsOk (q : Nat) (l : List Tm) : Prop := l.length = q ∧ (∀ t ∈ l, t.Good 200) ∧ Tm.nodesL l ≤ 200
section
variable {P : List Cl}
def Ends (q d : Nat) (more : List Ev) : Prop := ∃ (ans : List (List Tm)) (k : Int), more = ans.map (fun l => (⟨1, l⟩ : Ev)) ++ [⟨k, []⟩] ∧ 2 ≤ k ∧ k ≤ 6 ∧ d + ans.length ≤ 12 ∧ (k = 6 ↔ d + ans.length = 12) ∧ ∀ l ∈ ans, AnsOk q l
theorem Ends.one {q d : Nat} {k : Int} (hk : 2 ≤ k ∧ k ≤ 5) (hd : d ≤ 11) : Ends q d [⟨k, []⟩] := ⟨[], k, rfl, by omega, by omega, by simp; omega, by simp; omega, by simp⟩
theorem Ends.cons {q d : Nat} {l : List Tm} {more : List Ev} (hl : AnsOk q l) (h : Ends q (d + 1) more) : Ends q d (⟨1, l⟩ :: more) := by
  obtain ⟨ans, k, rfl, h1, h2, h3, h4, h5⟩ := h
  refine ⟨l :: ans, k, by simp, h1, h2, by simp; omega, by rw [h4, List.length_cons]; omega, fun x hx => ?_⟩
  rcases List.mem_cons.1 hx with rfl | hx
  · exact hl
  · exact h5 x hx
end
section
variable {P : List Cl}
def Sv.more (s : Sv) (m : Nat) : Sv := { s with fuel := s.fuel + m }
end
end Go.Proofs.YtlpmfkpefoegeacGreatDoor
