/-
  Variables renumbered, with a state that goes along.
-/
import Derived.Test.YtlpmfkpefoegeacDoorQShift
namespace Go.Proofs.YtlpmfkpefoegeacDoor
set_option linter.unusedVariables false
set_option linter.unusedSimpArgs false
open Go.RowKit
namespace Tm
mutual
/-- how many terms there are in one -/
def nodes : Tm → Nat
  | mk _ _ _ l => nodesL l + 1
def nodesL : List Tm → Nat
  | [] => 0
  | t :: r => nodes t + nodesL r
end
theorem nodes_pos (t : Tm) : 0 < t.nodes := by cases t; simp [nodes]
theorem nodesL_append (l r : List Tm) : nodesL (l ++ r) = nodesL l + nodesL r := by
  induction l with
  | nil => simp [nodesL]
  | cons t l ih => simp only [List.cons_append, nodesL, ih]; omega
theorem nodesL_take (l : List Tm) (j : Nat) (h : j < l.length) : nodesL (l.take j) + nodes l[j] ≤ nodesL l := by
  have h1 := nodesL_append (l.take (j + 1)) (l.drop (j + 1))
  rw [List.take_append_drop, List.take_succ_eq_append_getElem h, nodesL_append] at h1
  simp only [nodesL] at h1
  omega
variable {σ : Type}
def num (f : σ → Int → Int × σ) (st : σ) (k n : Int) : Int × σ := if k = 0 then f st n else (n, st)
mutual
/-- each variable's number as a function says that has a state, each term before its arguments -/
def renS (f : σ → Int → Int × σ) : σ → Tm → Tm × σ
  | st, mk k n s l => (mk k (num f st k n).1 s (renSL f (num f st k n).2 l).1, (renSL f (num f st k n).2 l).2)
def renSL (f : σ → Int → Int × σ) : σ → List Tm → List Tm × σ
  | st, [] => ([], st)
  | st, t :: r => ((renS f st t).1 :: (renSL f (renS f st t).2 r).1, (renSL f (renS f st t).2 r).2)
end
theorem renSL_snoc (f : σ → Int → Int × σ) (l : List Tm) : ∀ (st : σ) (t : Tm), renSL f st (l ++ [t]) = ((renSL f st l).1 ++ [(renS f (renSL f st l).2 t).1], (renS f (renSL f st l).2 t).2) := by
  induction l with
  | nil => intro st t; simp [renSL]
  | cons x r ih => intro st t; simp [renSL, ih]
theorem renSL_length (f : σ → Int → Int × σ) (l : List Tm) : ∀ st : σ, (renSL f st l).1.length = l.length := by
  induction l with
  | nil => intro st; simp [renSL]
  | cons x r ih => intro st; simp [renSL, ih]
theorem renSL_sz {sz : σ → Nat} {f : σ → Int → Int × σ} (hf : ∀ st n, sz (f st n).2 ≤ sz st + 1) :
    ∀ (t : Tm) (st : σ), sz (renS f st t).2 ≤ sz st + t.nodes := by
  intro t
  induction t using induct with
  | h k n s l ih =>
    intro st
    have hL : ∀ (r : List Tm), (∀ t ∈ r, t ∈ l) → ∀ st : σ, sz (renSL f st r).2 ≤ sz st + nodesL r := by
      intro r
      induction r with
      | nil => intro _ st; simp [renSL, nodesL]
      | cons x r ihr =>
        intro hm st
        simp only [renSL, nodesL]
        have h1 := ih x (hm x (List.mem_cons_self ..)) st
        have h2 := ihr (fun t ht => hm t (List.mem_cons_of_mem _ ht)) (renS f st x).2
        omega
    simp only [renS, nodes]
    have h1 := hL l (fun _ h => h) (num f st k n).2
    have h2 : sz (num f st k n).2 ≤ sz st + 1 := by
      unfold num
      split
      · exact hf st n
      · simp
    omega
theorem renSL_szL {sz : σ → Nat} {f : σ → Int → Int × σ} (hf : ∀ st n, sz (f st n).2 ≤ sz st + 1) (l : List Tm) : ∀ (st : σ), sz (renSL f st l).2 ≤ sz st + nodesL l := by
  induction l with
  | nil => intro st; simp [renSL, nodesL]
  | cons x r ih =>
    intro st
    simp only [renSL, nodesL]
    have h1 := renSL_sz hf x st
    have h2 := ih (renS f st x).2
    omega
end Tm
structure StLaw {σ : Type} (I : σ → (Nat → Prop) → World → Prop) : Prop where
  lt : ∀ st M w, I st M w → ∀ b, M b → b < w.heap.size
  keeps : ∀ st M w w', I st M w → Keeps M w w' → I st M w'
def RenPost {σ : Type} (I : σ → (Nat → Prop) → World → Prop) (M : Nat → Prop) (w : World) (r : Tm × σ) (e : Ending) (w' : World) : Prop :=
  ∃ us M', e = .returned (.agg us.toArray) ∧ Ch M w w' ∧ (∀ b, M' b → M b ∨ w.heap.size ≤ b) ∧ I r.2 M' w' ∧ Tm.rep (fun b => w.heap.size ≤ b ∧ ¬ M' b) w' r.1 us
def NumPost {σ : Type} (I : σ → (Nat → Prop) → World → Prop) (M : Nat → Prop) (w : World) (r : Int × σ) (e : Ending) (w' : World) : Prop :=
  e = .returned (.int .i64 r.1) ∧ I64 r.1 ∧ ∃ M', Ch M w w' ∧ (∀ b, M' b → M b ∨ w.heap.size ≤ b) ∧ I r.2 M' w'
end Go.Proofs.YtlpmfkpefoegeacDoor
