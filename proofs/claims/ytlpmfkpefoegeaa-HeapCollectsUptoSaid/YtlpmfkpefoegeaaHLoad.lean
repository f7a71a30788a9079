/-
  A block behind a heap: in plain data.
-/
import Derived.Test.YtlpmfkpefoegeaaHGc
namespace Go.Proofs.Ytlpmfkpefoegeaa
set_option linter.unusedVariables false
set_option linter.unusedSimpArgs false

/-- a block's cell, where the block begins at b -/
def shC (b : Nat) (c : Ce) : Ce := if c.kind = 0 then { c with n := c.n + b } else c

/-- cells, of which those from b to j are moved -/
def shTo (b : Nat) (l : List Ce) (j : Nat) : List Ce := l.mapIdx fun i c => if b ≤ i ∧ i < j then shC b c else c

theorem shTo_len (b : Nat) (l : List Ce) (j : Nat) : (shTo b l j).length = l.length := by simp [shTo]
theorem shTo_get (b : Nat) (l : List Ce) (j i : Nat) (h : i < (shTo b l j).length) : (shTo b l j)[i] = if b ≤ i ∧ i < j then shC b (l[i]'(by rw [shTo_len] at h; exact h)) else l[i]'(by rw [shTo_len] at h; exact h) := by
  simp [shTo]
theorem shTo_start (b : Nat) (l : List Ce) : shTo b l b = l := by
  apply List.ext_getElem (by simp [shTo])
  intro i h1 h2
  rw [shTo_get, if_neg (by omega)]
theorem shTo_step (b : Nat) (l : List Ce) (j : Nat) (hb : b ≤ j) (hj : j < l.length) : shTo b l (j + 1) = (shTo b l j).set j (shC b l[j]) := by
  apply List.ext_getElem (by simp [shTo])
  intro i h1 h2
  rw [shTo_get, List.getElem_set]
  by_cases e : j = i
  · subst e; rw [if_pos ⟨hb, by omega⟩, if_pos rfl]
  · rw [if_neg e, shTo_get]
    by_cases e2 : b ≤ i ∧ i < j
    · rw [if_pos e2, if_pos ⟨e2.1, by omega⟩]
    · rw [if_neg e2, if_neg (by omega)]
theorem shTo_same (b : Nat) (l : List Ce) (j : Nat) (hb : b ≤ j) (hj : j < l.length) (hk : (l[j]).kind ≠ 0) : shTo b l (j + 1) = shTo b l j := by
  rw [shTo_step b l j hb hj]
  apply List.ext_getElem (by simp)
  intro i h1 h2
  rw [List.getElem_set]
  split
  · rename_i e
    subst e
    rw [shTo_get, if_neg (by omega), shC, if_neg hk]
  · rfl
theorem shTo_end (l bl : List Ce) : shTo l.length (l ++ bl) (l ++ bl).length = l ++ bl.map (shC l.length) := by
  apply List.ext_getElem (by simp [shTo])
  intro i h1 h2
  rw [shTo_get]
  by_cases e : l.length ≤ i
  · rw [if_pos ⟨e, by simpa [shTo] using h1⟩, List.getElem_append_right e, List.getElem_append_right e, List.getElem_map]
  · rw [if_neg (by omega), List.getElem_append_left (by omega), List.getElem_append_left (by omega)]

open Classical in
/-- what Load answers -/
noncomputable def loadF (h : Hp) (bl : List Ce) : Hp × Int × Int :=
  if ¬ (h.Good ∧ Hp.Good ⟨bl, []⟩) then (h, 0, 1)
  else if 65536 < h.cells.length + bl.length then (h, 0, 3)
  else (⟨h.cells ++ bl.map (shC h.cells.length), h.trail⟩, h.cells.length, 0)
end Go.Proofs.Ytlpmfkpefoegeaa
