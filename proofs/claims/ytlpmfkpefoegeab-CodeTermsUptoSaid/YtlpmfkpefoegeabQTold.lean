/-
  queristref.LookAt.
  queristref.told: the term at a place.
-/
import Derived.Test.YtlpmfkpefoegeabQLook
import Derived.Test.YtlpmfkpefoegeabQMap
import Derived.Test.YtlpmfkpefoegeabQRead
namespace Go.Proofs.Ytlpmfkpefoegeab
set_option linter.unusedVariables false
set_option linter.unusedSimpArgs false
open Go.RowKit

/-- the places that were seen, as the map holds them -/
def seenB (s : List Int) : List (Int × Value) := s.map fun x => (x, .bool true)

theorem seenB_get (s : List Int) (b : Int) : mget (seenB s) b = if b ∈ s then some (.bool true) else none := by
  induction s with
  | nil => simp [seenB, mget]
  | cons x r ih =>
    unfold seenB mget at ih ⊢
    rw [List.map_cons, List.find?_cons]
    by_cases h : x = b
    · subst h; simp
    · have h1 : (x == b) = false := by simpa using h
      simp only [h1]
      rw [ih]
      have h2 : ¬ b = x := fun e => h e.symm
      simp [h2]

/-- how many entries a map has -/
def mapLen (w : World) (r : Nat) : Nat := match w.heap[r]? with
  | some (.map es _) => es.size
  | _ => 0

theorem mapLen_is {w : World} {r : Nat} {L : List (Int × Value)} (h : MapIs w r L) : mapLen w r = L.length := by
  obtain ⟨es, n, h1, h2⟩ := h
  unfold mapLen
  rw [h1]
  have := congrArg List.length h2
  simpa using this

/-- the way of LookAt -/
def SeenSt (l : List Ce) (a0 : Int) (w : World) (r : Nat) (s : List Int) (b : Int) : Prop := Way l a0 s b ∧ I64 b ∧ MapIs w r (seenB s)

end Go.Proofs.Ytlpmfkpefoegeab

namespace Go.Proofs.Ytlpmfkpefoegeab
set_option linter.unusedVariables false
set_option linter.unusedSimpArgs false
open Go.RowKit

/-- what told comes to -/
def ToPost (g : Nat) (w : World) (res : Option (Tm × Nat)) (e : Ending) (w' : World) : Prop :=
  ∃ (us : List Value) (t : Tm) (k : Int) (b : Bool), e = .returned (.tuple #[.agg us.toArray, .bool b]) ∧ Ch (fun b => b = g) w w' ∧ Tm.rep (fun b => New w b) w' t us ∧ LeftAt g k w' ∧ ((res = none ∧ b = false) ∨ (res = some (t, k.toNat) ∧ 0 ≤ k ∧ b = true))

end Go.Proofs.Ytlpmfkpefoegeab
