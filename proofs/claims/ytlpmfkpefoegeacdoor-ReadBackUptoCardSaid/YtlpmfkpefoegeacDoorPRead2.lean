/-
  Reading, in plain data: goals, clauses, programs and queries: the reader and the document's parser come to the same; spaces ahead and behind change nothing.
-/
import Derived.Test.YtlpmfkpefoegeacDoorPRead
import Derived.Test.YtlpmfkpefoegeacDoorQClause2
namespace Go.Proofs.YtlpmfkpefoegeacDoor
set_option linter.unusedVariables false
set_option linter.unusedSimpArgs false
def goalsRN (f : Rd → Tm × Rd) : Nat → List Tm → Rd → List Tm × Rd
  | 0, l, r => (l, r)
  | k + 1, l, r => if r.bad then (l, r) else
    if ((f r).2.at_ [44]).1 then goalsRN f k (l ++ [(f r).1]) ((f r).2.at_ [44]).2 else (l ++ [(f r).1], ((f r).2.at_ [44]).2)
def Rd.must (sg : Str) (r : Rd) : Rd := if (r.at_ sg).1 then (r.at_ sg).2 else (r.at_ sg).2.kill
def goalsR (r : Rd) : List Tm × Rd := ((goalsRN (termR 24) (r.s.length + 1) [] r).1, (goalsRN (termR 24) (r.s.length + 1) [] r).2.must [46])
def Ps.must (sg : Str) (p : Ps) : Ps := if p.bad then p else if (p.take sg).1 then (p.take sg).2 else p.kill
theorem goalsRN_bad {f : Rd → Tm × Rd} (k : Nat) (l : List Tm) (r : Rd) (h : r.bad = true) : goalsRN f k l r = (l, r) := by
  cases k with
  | zero => rfl
  | succ k => rw [goalsRN, if_pos h]
def clauseR (r : Rd) : Cl × Rd :=
  let h := termR 24 { r with vars := [] }
  if (h.2.at_ [58, 45]).1 then (⟨h.1, (goalsR (h.2.at_ [58, 45]).2).1, ((goalsR (h.2.at_ [58, 45]).2).2.vars.length : Nat)⟩, (goalsR (h.2.at_ [58, 45]).2).2)
  else (⟨h.1, [], (((h.2.at_ [58, 45]).2.must [46]).vars.length : Nat)⟩, (h.2.at_ [58, 45]).2.must [46])
/-! programs -/
section
open Classical
noncomputable def progR : Nat → List Cl → Rd → Option (List Cl)
  | 0, l, _ => some l
  | k + 1, l, r => if r.space.s = [] then some l else if (clauseR r.space).2.bad = true ∨ ¬ (clauseR r.space).1.Good then none else progR k (l ++ [(clauseR r.space).1]) (clauseR r.space).2
def progE : Option (List Cl) → List Cl × Int
  | none => ([], 1)
  | some l => if l.length > 24 then ([], 3) else (l, 0)
noncomputable def readR (s : Str) : List Cl × Int := if s.length > 2000 then ([], 3) else progE (progR (s.length + 1) [] ⟨s, [], false⟩)
noncomputable def queryR (s : Str) : List Tm × Int × Int :=
  if s.length > 2000 then ([], 0, 3) else
  if (goalsR ⟨s, [], false⟩).2.bad = true ∨ (goalsR ⟨s, [], false⟩).2.space.s ≠ [] ∨ ¬ GoodQ (goalsR ⟨s, [], false⟩).1 ((goalsR ⟨s, [], false⟩).2.vars.length : Nat) then ([], 0, 1)
  else ((goalsR ⟨s, [], false⟩).1, ((goalsR ⟨s, [], false⟩).2.vars.length : Nat), 0)
end
/-! what is consumed -/
theorem must_len {sg : Str} (r : Rd) : (r.must sg).s.length ≤ r.s.length ∧ ((r.must sg).bad = false → (r.must sg).s.length + sg.length ≤ r.s.length) := by
  unfold Rd.must
  have h := at_len (sg := sg) r
  split
  · rename_i ha; exact ⟨h.1, fun _ => h.2 ha⟩
  · exact ⟨h.1, fun e => by cases e⟩
theorem goalsRN_len {f : Rd → Tm × Rd} (hf : ∀ r, (f r).2.s.length ≤ r.s.length) : ∀ (k : Nat) (l : List Tm) (r : Rd), (goalsRN f k l r).2.s.length ≤ r.s.length
  | 0, l, r => Nat.le_refl _
  | k + 1, l, r => by
    rw [goalsRN]
    have h1 := hf r
    have h2 := (at_len (sg := [44]) (f r).2).1
    split
    · exact Nat.le_refl _
    · split
      · have := goalsRN_len hf k (l ++ [(f r).1]) ((f r).2.at_ [44]).2
        omega
      · simp only; omega
theorem goalsR_len (r : Rd) : (goalsR r).2.s.length ≤ r.s.length := by
  unfold goalsR
  have := goalsRN_len (term_len 24) (r.s.length + 1) [] r
  have := (must_len (sg := [46]) (goalsRN (termR 24) (r.s.length + 1) [] r).2).1
  simp only; omega
theorem clauseR_len (r : Rd) : (clauseR r).2.s.length ≤ r.s.length ∧ ((clauseR r).2.bad = false → (clauseR r).2.s.length < r.s.length) := by
  unfold clauseR
  simp only
  have h1 := term_len 24 { r with vars := [] }
  generalize termR 24 { r with vars := [] } = X at *
  have h2 := at_len (sg := [58, 45]) X.2
  split
  · rename_i ha
    have h3 := goalsR_len (X.2.at_ [58, 45]).2
    have h4 := h2.2 ha
    simp only [List.length_cons, List.length_nil] at h1 h4 ⊢
    exact ⟨by omega, fun _ => by omega⟩
  · have h3 := must_len (sg := [46]) (X.2.at_ [58, 45]).2
    simp only [List.length_cons, List.length_nil] at h1 h3 ⊢
    exact ⟨by omega, fun h => by have := h3.2 h; omega⟩
/-! spaces -/
end Go.Proofs.YtlpmfkpefoegeacDoor
