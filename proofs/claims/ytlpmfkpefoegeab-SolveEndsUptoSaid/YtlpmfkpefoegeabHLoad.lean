/-
  Terms with all that is bound in them: one behind the other.
  A block behind a heap: in plain data.
-/
import Derived.Test.YtlpmfkpefoegeabPSolve2
import Derived.Test.YtlpmfkpefoegeabHGc
namespace Go.Proofs.Ytlpmfkpefoegeab
set_option linter.unusedVariables false
set_option linter.unusedSimpArgs false

theorem flL_app (E : Env) : ∀ (w : Nat) (s r : List Tm), flL E w (s ++ r) = match flL E w s with
    | none => none
    | some (ts, w1) => match flL E w1 r with
      | none => none
      | some (rs, w2) => some (ts ++ rs, w2) := by
  intro w
  induction w using Nat.strongRecOn with
  | _ w ih =>
    intro s r
    match w, s, ih with
    | w, [], _ =>
      rw [flL_nil, List.nil_append]
      simp only [List.nil_append]
      cases flL E w r with
      | none => rfl
      | some p => rfl
    | 0, a :: s, _ => rw [List.cons_append, flL_zero, flL_zero]
    | w + 1, a :: s, ih =>
      rw [List.cons_append, flL.eq_def E (w + 1) (a :: (s ++ r)), flL.eq_def E (w + 1) (a :: s)]
      simp only
      cases h1 : flL E w (slook E a).args with
      | none => rfl
      | some p =>
        obtain ⟨ts1, w1⟩ := p
        simp only
        rw [ih (min w w1) (by omega) s r]
        cases h2 : flL E (min w w1) s with
        | none => rfl
        | some p =>
          obtain ⟨ts2, w2⟩ := p
          simp only
          cases h3 : flL E w2 r with
          | none => rfl
          | some p => rfl

theorem flL_one (E : Env) (k : Nat) (z : Tm) : flL E (k + 1) [z] = match flL E k (slook E z).args with
    | none => none
    | some (ts, w1) => some ([.mk (slook E z).kind (slook E z).n (slook E z).s ts], w1) := by
  rw [flL]
  cases h1 : flL E k (slook E z).args with
  | none => rfl
  | some p =>
    obtain ⟨ts1, w1⟩ := p
    have := (flL_le E k _ _ _ h1).1
    simp only [flL_nil, Nat.min_eq_right this]

theorem flL_none (E : Env) (w : Nat) (s r : List Tm) (h : flL E w s = none) : flL E w (s ++ r) = none := by rw [flL_app, h]

theorem flL_next (E : Env) (k : Nat) (l : List Tm) (j : Nat) (hj : j < l.length) (ts : List Tm) (m : Nat) (h : flL E k (l.take j) = some (ts, m)) : flL E k (l.take (j + 1)) = match flL E m [l[j]] with
    | none => none
    | some (rs, w2) => some (ts ++ rs, w2) := by
  rw [List.take_succ_eq_append_getElem hj, flL_app, h]

/-- one term comes of one -/
theorem flL_single {E : Env} {k : Nat} {z : Tm} {rs : List Tm} {m : Nat} (h : flL E k [z] = some (rs, m)) : ∃ x, rs = [x] := by
  have := (flL_le E k _ _ _ h).2
  match rs, this with
  | [x], _ => exact ⟨x, rfl⟩
end Go.Proofs.Ytlpmfkpefoegeab

namespace Go.Proofs.Ytlpmfkpefoegeab
set_option linter.unusedVariables false
set_option linter.unusedSimpArgs false

/-- a block's cell, where the block begins at b -/
def shC (b : Nat) (c : Ce) : Ce := if c.kind = 0 then { c with n := c.n + b } else c

/-- cells, of which those from b to j are moved -/
def shTo (b : Nat) (l : List Ce) (j : Nat) : List Ce := l.mapIdx fun i c => if b ≤ i ∧ i < j then shC b c else c

theorem shTo_len (b : Nat) (l : List Ce) (j : Nat) : (shTo b l j).length = l.length := by simp [shTo]
theorem shTo_get (b : Nat) (l : List Ce) (j i : Nat) (h : i < (shTo b l j).length) : (shTo b l j)[i] = if b ≤ i ∧ i < j then shC b (l[i]'(by rw [shTo_len] at h; exact h)) else l[i]'(by rw [shTo_len] at h; exact h) := by
  simp [shTo]
theorem shTo_start (b : Nat) (l : List Ce) : shTo b l b = l := by
  apply List.ext_getElem (by simp [shTo])
  intro i h1 h2
  rw [shTo_get, if_neg (by omega)]
theorem shTo_step (b : Nat) (l : List Ce) (j : Nat) (hb : b ≤ j) (hj : j < l.length) : shTo b l (j + 1) = (shTo b l j).set j (shC b l[j]) := by
  apply List.ext_getElem (by simp [shTo])
  intro i h1 h2
  rw [shTo_get, List.getElem_set]
  by_cases e : j = i
  · subst e; rw [if_pos ⟨hb, by omega⟩, if_pos rfl]
  · rw [if_neg e, shTo_get]
    by_cases e2 : b ≤ i ∧ i < j
    · rw [if_pos e2, if_pos ⟨e2.1, by omega⟩]
    · rw [if_neg e2, if_neg (by omega)]
theorem shTo_same (b : Nat) (l : List Ce) (j : Nat) (hb : b ≤ j) (hj : j < l.length) (hk : (l[j]).kind ≠ 0) : shTo b l (j + 1) = shTo b l j := by
  rw [shTo_step b l j hb hj]
  apply List.ext_getElem (by simp)
  intro i h1 h2
  rw [List.getElem_set]
  split
  · rename_i e
    subst e
    rw [shTo_get, if_neg (by omega), shC, if_neg hk]
  · rfl
theorem shTo_end (l bl : List Ce) : shTo l.length (l ++ bl) (l ++ bl).length = l ++ bl.map (shC l.length) := by
  apply List.ext_getElem (by simp [shTo])
  intro i h1 h2
  rw [shTo_get]
  by_cases e : l.length ≤ i
  · rw [if_pos ⟨e, by simpa [shTo] using h1⟩, List.getElem_append_right e, List.getElem_append_right e, List.getElem_map]
  · rw [if_neg (by omega), List.getElem_append_left (by omega), List.getElem_append_left (by omega)]

open Classical in
/-- what Load answers -/
noncomputable def loadF (h : Hp) (bl : List Ce) : Hp × Int × Int :=
  if ¬ (h.Good ∧ Hp.Good ⟨bl, []⟩) then (h, 0, 1)
  else if 65536 < h.cells.length + bl.length then (h, 0, 3)
  else (⟨h.cells ++ bl.map (shC h.cells.length), h.trail⟩, h.cells.length, 0)
end Go.Proofs.Ytlpmfkpefoegeab
