/-
  What is reached, found by going on till nothing is new: in plain data.
-/
import Derived.Test.YtlpmfkpefoegeaaHMark
namespace Go.Proofs.Ytlpmfkpefoegeaa
set_option linter.unusedVariables false
set_option linter.unusedSimpArgs false

/-- what the sweeps keep -/
structure FxSt (l : List Ce) (roots : List Int) (m : List Bool) : Prop where
  len : m.length = l.length
  sound : ∀ i, m[i]? = some true → Reach l roots i

/-- the first roots are marked -/
def RtTo (l : List Ce) (roots : List Int) (m : List Bool) (j : Nat) : Prop := ∀ q (hq : q < roots.length), q < j → ∀ i : Nat, roots[q] = (i : Int) → i < l.length → m[i]? = some true

/-- where nothing is new so far, the first cells lead to marked ones -/
def ClTo (l : List Ce) (m : List Bool) (j : Nat) : Prop := ∀ i, i < j → m[i]? = some true → ∀ k, Leads l i k → m[k]? = some true

theorem get_set {m : List Bool} {k i : Nat} (hk : k < m.length) : (m.set k true)[i]? = some true ↔ i = k ∨ m[i]? = some true := by
  rw [List.getElem?_set]
  by_cases e : k = i
  · subst e; simp [hk]
  · rw [if_neg e]; constructor
    · exact .inr
    · rintro (e' | e')
      · exact absurd e'.symm e
      · exact e'

section
variable {l : List Ce} {roots : List Int} {m : List Bool}

theorem FxSt.start : FxSt l roots (List.replicate l.length false) := by
  refine ⟨by simp, fun i h => ?_⟩
  rw [List.getElem?_replicate] at h; split at h <;> simp at h

theorem FxSt.mark (h : FxSt l roots m) {k : Nat} (hk : k < l.length) (hr : Reach l roots k) : FxSt l roots (m.set k true) := by
  have hkm : k < m.length := by rw [h.len]; exact hk
  refine ⟨by simp [h.len], fun i hi => ?_⟩
  rcases (get_set hkm).1 hi with rfl | hi
  · exact hr
  · exact h.sound i hi

theorem RtTo.mark {j k : Nat} (h : RtTo l roots m j) (hk : k < m.length) : RtTo l roots (m.set k true) j := fun q hq hqj i e hi => (get_set hk).2 (.inr (h q hq hqj i e hi))

theorem RtTo.next {j : Nat} (h : RtTo l roots m j) (hj : j < roots.length) (hn : ∀ i : Nat, roots[j] = (i : Int) → i < l.length → m[i]? = some true) : RtTo l roots m (j + 1) := fun q hq hqj i e hi => by
  by_cases eq : q = j
  · subst eq; exact hn i e hi
  · exact h q hq (by omega) i e hi

theorem ClTo.next {j : Nat} (h : ClTo l m j) (hn : m[j]? = some true → ∀ k, Leads l j k → m[k]? = some true) : ClTo l m (j + 1) := fun i hi hm k hk => by
  by_cases e : i = j
  · subst e; exact hn hm k hk
  · exact h i (by omega) hm k hk

theorem FxSt.done (h : FxSt l roots m) (hg : GoodC l) (hr : RtTo l roots m roots.length) (hc : ClTo l m l.length) : m = marks l roots := by
  refine marks_of hg h.len (fun i h1 h2 => ?_) (fun i j h1 h2 => hc i (by rw [← h.len]; exact (List.getElem?_eq_some_iff.1 h1).1) h1 j h2) h.sound
  obtain ⟨q, hq, e⟩ := List.mem_iff_getElem.1 h1
  exact hr q hq hq i e h2
end
end Go.Proofs.Ytlpmfkpefoegeaa
