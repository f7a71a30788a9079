/-
  What Marks and Collect answer, in plain data; just what is reached is kept, in its order.
-/
import Derived.Test.YtlpmfkpefoegeabHGc
namespace Go.Proofs.Ytlpmfkpefoegeab
set_option linter.unusedVariables false
set_option linter.unusedSimpArgs false

open Classical in
/-- what Marks answers -/
noncomputable def marksF (h : Hp) (roots : List Int) : List Bool × Int := if h.Good then (marks h.cells roots, 0) else ([], 1)

/-- what Collect answers -/
structure Coll where
  heap : Hp
  roots : List Int
  tops : List Int
  mks : List Int
  err : Int
  deriving DecidableEq

open Classical in
noncomputable def collectF (h : Hp) (roots tops mks : List Int) : Coll :=
  if ¬ h.Good then ⟨h, [], [], [], 1⟩
  else if ¬ (∀ r ∈ roots, Inb h.cells r) then ⟨h, [], [], [], 4⟩
  else ⟨gcH h roots, roots.map (ahead (marks h.cells roots)), tops.map (ahead (marks h.cells roots)), mks.map (ahead (trailM (marks h.cells roots) h.trail)), 0⟩

theorem ahead_mono (m : List Bool) {a b : Int} (h : a ≤ b) : ahead m a ≤ ahead m b := by
  unfold ahead
  have := cnt_mono' (m := m) (show a.toNat ≤ b.toNat by omega)
  omega

theorem cnt_filter (m : List Bool) : ∀ k, k ≤ m.length → cnt m k = ((m.take k).filter (· == true)).length
  | 0, _ => by simp [cnt]
  | k + 1, hk => by
    have ih := cnt_filter m k (by omega)
    have hlt : k < m.length := by omega
    rw [List.take_succ_eq_append_getElem hlt, List.filter_append, List.length_append, ← ih, cnt, List.getElem?_eq_getElem hlt]
    cases m[k] <;> simp

section
variable {h : Hp} {roots : List Int}

/-- a root's new place -/
theorem root_inb (hr : ∀ r ∈ roots, Inb h.cells r) : ∀ r ∈ roots.map (ahead (marks h.cells roots)), Inb (gcH h roots).cells r := by
  intro r hm
  obtain ⟨x, hx, rfl⟩ := List.mem_map.1 hm
  obtain ⟨h0, h1⟩ := hr x hx
  obtain ⟨k, rfl⟩ := Int.eq_ofNat_of_zero_le h0
  have hk : k < h.cells.length := by omega
  have := gcH_lt (h := h) hk (.root hx hk)
  unfold Inb ahead
  rw [Int.toNat_natCast]
  omega

/-- all is reached then -/
theorem gcH_whole (hg : h.Good) : ∀ j, j < (gcH h roots).cells.length → Reach (gcH h roots).cells (roots.map (ahead (marks h.cells roots))) j := by
  intro j hj
  obtain ⟨i, h1, h2, rfl⟩ := gcH_sur hj
  exact gcH_reach hg.1 h2

/-- collected again it is the same -/
theorem collect_again (hg : h.Good) (hr : ∀ r ∈ roots, Inb h.cells r) (tops mks : List Int) :
    (collectF (gcH h roots) (roots.map (ahead (marks h.cells roots))) tops mks).heap = gcH h roots ∧ (collectF (gcH h roots) (roots.map (ahead (marks h.cells roots))) tops mks).roots = roots.map (ahead (marks h.cells roots)) ∧
      (collectF (gcH h roots) (roots.map (ahead (marks h.cells roots))) tops mks).err = 0 := by
  have hg' := gcH_good (roots := roots) hg
  have hw := gcH_whole (roots := roots) hg
  have hin := root_inb hr
  rw [collectF, if_neg (not_not_intro hg'), if_neg (not_not_intro hin)]
  refine ⟨gcH_all hg' hw, ?_, rfl⟩
  show List.map _ _ = _
  have : ∀ r ∈ roots.map (ahead (marks h.cells roots)), ahead (marks (gcH h roots).cells (roots.map (ahead (marks h.cells roots)))) r = r := by
    intro r hm
    obtain ⟨h0, h1⟩ := hin r hm
    obtain ⟨k, rfl⟩ := Int.eq_ofNat_of_zero_le h0
    unfold ahead
    rw [Int.toNat_natCast, cnt_all k]
    intro i hi
    exact (marks_get (by omega)).2 (hw i (by omega))
  conv => rhs; rw [← List.map_id (roots.map (ahead (marks h.cells roots)))]
  exact List.map_congr_left fun r hm => by rw [this r hm]; rfl

/-- as many as are marked -/
theorem gcH_len : (gcH h roots).cells.length = ((marks h.cells roots).filter (· == true)).length := by
  show (colC _ _ _).length = _
  rw [colC_len, cnt_filter _ _ (by rw [marks_len]; exact Nat.le_refl _), List.take_of_length_le (by rw [marks_len]; exact Nat.le_refl _)]
end

/-- the marks so far, counted -/
def cntT (m : List Bool) (k : Nat) : Nat := ((m.take k).filter (· == true)).length
theorem cntT_succ {m : List Bool} {k : Nat} (h : k < m.length) : cntT m (k + 1) = cntT m k + (if m[k] = true then 1 else 0) := by
  unfold cntT
  rw [List.take_succ_eq_append_getElem h, List.filter_append, List.length_append]
  cases m[k] <;> simp
end Go.Proofs.Ytlpmfkpefoegeab
