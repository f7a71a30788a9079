/-
  What was made one is one; undone it is as it was: in plain data.
-/
import Derived.Test.YtlpmfkpefoegeaaHOne
import Derived.Test.YtlpmfkpefoegeaaHBack
namespace Go.Proofs.Ytlpmfkpefoegeaa
set_option linter.unusedVariables false
set_option linter.unusedSimpArgs false

theorem unify_term {h u : Hp} {a b e : Int} (hu : unifyF h a b = (u, true, e)) (most : Int) : termF u a most = termF u b most := by
  obtain ⟨hg, hl⟩ := unifyF_good hu
  obtain ⟨-, hi1, hi2, -, hok, he, -⟩ := unifyF_yes hu
  obtain ⟨B, hB, hs⟩ := uniL_bis 400 [(a, b)] h.cells h.trail hok
  have hc : u.cells = (uniL 400 [(a, b)] h.cells h.trail).cells := by rw [he]
  rw [← hc] at hB
  have hab := hs (a, b) (by simp)
  have i1 : Inb u.cells a := by unfold Inb; rw [hl]; exact hi1
  have i2 : Inb u.cells b := by unfold Inb; rw [hl]; exact hi2
  rw [termF, termF, if_neg (not_not_intro hg), if_neg (not_not_intro hg), if_neg (not_not_intro i1), if_neg (not_not_intro i2), rd1_bis hB hab]

theorem unify_undo {h u : Hp} {a b e : Int} (hu : unifyF h a b = (u, true, e)) : undoF u h.trail.length = (h, 0) := by
  obtain ⟨hg, hl⟩ := unifyF_good hu
  obtain ⟨-, -, -, -, hok, he, -⟩ := unifyF_yes hu
  obtain ⟨vs, h1, h2, h3, h4⟩ := uniL_bound 400 [(a, b)] h.cells h.trail hok
  have hc : u.cells = (uniL 400 [(a, b)] h.cells h.trail).cells := by rw [he]
  have ht : u.trail = h.trail ++ vs := by rw [he]; exact h1
  rw [← hc] at h2
  rw [undoF, if_neg (not_not_intro hg), if_neg (not_not_intro ⟨Int.natCast_nonneg _, by rw [ht, List.length_append]; omega⟩), ht, Int.toNat_natCast, List.drop_left', List.take_left', h2.undo] <;> rfl
end Go.Proofs.Ytlpmfkpefoegeaa
