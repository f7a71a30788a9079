/-
  Both ways of laying terms out as cells come to the same.
-/
import Derived.Test.YtlpmfkpefoegeabDoorQBlockOf
import Derived.Test.YtlpmfkpefoegeabDoorHCode
import Derived.Test.YtlpmfkpefoegeabDoorQIsTerm
namespace Go.Proofs.YtlpmfkpefoegeabDoor
set_option linter.unusedVariables false
set_option linter.unusedSimpArgs false
open Go.RowKit

theorem setN_other {c : List Ce} {k i : Nat} {n : Int} (h : k ≠ i) : (setN c k n)[i]? = c[i]? := by
  simp [setN, List.getElem?_modify, h]
theorem setN_at {c : List Ce} {k : Nat} {n : Int} {x : Ce} (h : c[k]? = some x) : (setN c k n)[k]? = some { x with n := n } := by
  simp [setN, List.getElem?_modify, h]

theorem laid_keep : ∀ (t : Tm) (c : List Ce) (i : Nat), i < c.length → (laidF c t)[i]? = c[i]? := by
  intro t
  induction t using Tm.induct with
  | h kd n s l ih =>
    intro c i hi
    have hL : ∀ (r : List Tm), (∀ t ∈ r, t ∈ l) → ∀ (c : List Ce) (k : Nat), i < c.length → i < k → (laidLF c k r)[i]? = c[i]? := by
      intro r
      induction r with
      | nil => intro _ c k _ _; rfl
      | cons x r ihr =>
        intro hr c k h1 h2
        rw [laidLF]
        have h3 := ih x (hr x (by simp)) (setN c k (c.length : Int)) i (by rw [setN_len]; exact h1)
        have h4 := laid_len x (setN c k (c.length : Int))
        rw [setN_len] at h4
        rw [ihr (fun t ht => hr t (by simp [ht])) _ (k + 1) (by split <;> omega) (by omega)]
        split
        · rw [h3, setN_other (by omega)]
        · rfl
    simp only [laidF]
    split
    · rw [List.getElem?_append_left hi]
    split
    · rw [List.getElem?_append_left hi]
    · rw [hL l (fun _ h => h) _ _ (by simp; omega) (by omega), List.getElem?_append_left hi]

theorem put_flat {v : Int} {x : Tm} (h : x.Good v) (h3 : x.kind ≠ 3) (c : List Ce) (k : Nat) : putF c k x = c.set k (argC x) := by
  cases h <;> simp_all [putF, argC, Tm.kind, Tm.n, Tm.s]

theorem put_comp {x : Tm} (h3 : x.kind = 3) (c : List Ce) (k : Nat) : putF c k x = frameF (c.set k ⟨0, (c.length : Int), ByteArray.empty⟩) x := by
  obtain ⟨kd, n, s, l⟩ := x
  simp only [Tm.kind] at h3
  subst h3
  simp [putF, frameF]

theorem frame_keep {x : Tm} (h3 : x.kind = 3) (c : List Ce) (i : Nat) (hi : i < c.length) : (frameF c x)[i]? = c[i]? := by
  have := goal_keep x c i hi
  rwa [goalF, if_pos h3] at this

/-- what lies behind is the same, whatever was before -/
theorem laid_frame (v : Int) : ∀ (t : Tm), t.Good v → t.kind = 3 → ∀ (d d' : List Ce), d.length = d'.length → (laidF d t).length = (frameF d' t).length ∧ ∀ i, d.length ≤ i → (laidF d t)[i]? = (frameF d' t)[i]? := by
  intro t
  induction t using Tm.induct with
  | h kd n s l ih =>
    intro hg h3 d d' hd
    simp only [Tm.kind] at h3
    subst h3
    have hgl := good_args hg
    simp only [Tm.args] at hgl
    have hL : ∀ (r : List Tm), (∀ t ∈ r, t ∈ l) → ∀ (c c' : List Ce) (k N0 : Nat), N0 ≤ k → c.length = c'.length → k + r.length ≤ c.length →
        (∀ i, N0 ≤ i → (i < k ∨ k + r.length ≤ i) → c[i]? = c'[i]?) → (∀ j (hj : j < r.length), c[k + j]? = some (argC r[j])) →
        (laidLF c k r).length = (putLF c' k r).length ∧ ∀ i, N0 ≤ i → (laidLF c k r)[i]? = (putLF c' k r)[i]? := by
      intro r
      induction r with
      | nil =>
        intro _ c c' k N0 h0 h1 h2 h3 h4
        exact ⟨h1, fun i hi => h3 i hi (by simp; omega)⟩
      | cons x r ihr =>
        intro hr c c' k N0 h0 h1 h2 h3 h4
        have hx := hr x (by simp)
        have hgx := hgl x hx
        have hck := h4 0 (by simp)
        simp only [Nat.add_zero, List.getElem_cons_zero] at hck
        simp only [List.length_cons] at h2 h3
        rw [laidLF, putLF]
        by_cases hk : x.kind = 3
        · rw [if_pos hk, put_comp hk]
          have hac : argC x = ⟨0, -1, ByteArray.empty⟩ := by simp [argC, hk]
          rw [hac] at hck
          obtain ⟨e1, e2⟩ := ih x hx hgx hk (setN c k (c.length : Int)) (c'.set k ⟨0, (c'.length : Int), ByteArray.empty⟩) (by rw [setN_len]; simp [h1])
          rw [setN_len] at e2
          have hle := (laid_len x (setN c k (c.length : Int))).1
          rw [setN_len] at hle
          refine ihr (fun t ht => hr t (by simp [ht])) _ _ (k + 1) N0 (by omega) e1 (by omega) (fun i hi hik => ?_) (fun j hj => ?_)
          · by_cases hic : c.length ≤ i
            · exact e2 i hic
            · rw [laid_keep x _ i (by rw [setN_len]; omega), frame_keep hk _ i (by simp; omega)]
              by_cases e : k = i
              · subst e
                rw [setN_at hck, List.getElem?_set_self (by omega), h1]
              · rw [setN_other e, List.getElem?_set_ne e]
                exact h3 i hi (by omega)
          · rw [laid_keep x _ _ (by rw [setN_len]; omega), setN_other (by omega)]
            have := h4 (j + 1) (by simp; omega)
            rw [show k + 1 + j = k + (j + 1) by omega]
            simpa using this
        · rw [if_neg hk, put_flat hgx hk]
          refine ihr (fun t ht => hr t (by simp [ht])) _ _ (k + 1) N0 (by omega) (by simp [h1]) (by omega) (fun i hi hik => ?_) (fun j hj => ?_)
          · by_cases e : k = i
            · subst e
              rw [hck, List.getElem?_set_self (by omega)]
            · rw [List.getElem?_set_ne e]
              exact h3 i hi (by omega)
          · have := h4 (j + 1) (by simp; omega)
            rw [show k + 1 + j = k + (j + 1) by omega]
            simpa using this
    have hm := hL l (fun _ h => h) (d ++ (⟨3, (l.length : Int), s⟩ : Ce) :: l.map argC) (d' ++ (⟨3, (l.length : Int), s⟩ : Ce) :: List.replicate l.length ⟨0, 0, ByteArray.empty⟩) (d.length + 1) d.length (by omega) (by simp [hd]) (by simp; omega)
      (fun i hi hik => ?_) (fun j hj => ?_)
    · simp only [laidF, frameF]
      rw [if_neg (by omega), if_neg (by omega), ← hd]
      exact hm
    · rw [List.getElem?_append_right hi, List.getElem?_append_right (by omega), ← hd]
      rcases hik with hik | hik
      · rw [show i - d.length = 0 by omega]; rfl
      · rw [List.getElem?_eq_none (by simp; omega), List.getElem?_eq_none (by simp; omega)]
    · rw [List.getElem?_append_right (by omega), show d.length + 1 + j - d.length = j + 1 by omega, List.getElem?_cons_succ, List.getElem?_map, List.getElem?_eq_getElem hj]
      rfl

theorem laid_goal {v : Int} {t : Tm} (hg : t.Good v) (hk : t.IsGoal) (c : List Ce) : laidF c t = goalF c t := by
  by_cases h3 : t.kind = 3
  · rw [goalF, if_pos h3]
    obtain ⟨h1, h2⟩ := laid_frame v t hg h3 c c rfl
    apply List.ext_getElem? 
    intro i
    by_cases hi : i < c.length
    · rw [laid_keep t c i hi, frame_keep h3 c i hi]
    · exact h2 i (by omega)
  · rw [goalF, if_neg h3, put_flat hg h3]
    have h1 : t.kind = 1 := hk.resolve_right h3
    cases hg <;> simp_all [laidF, argC, Tm.kind, Tm.n, Tm.s]

theorem laids_goals {v : Int} : ∀ (l : List Tm), (∀ t ∈ l, t.IsGoal ∧ t.Good v) → ∀ c, laidsF c l = goalsF c l
  | [], _, c => rfl
  | x :: r, h, c => by
    have hx := h x (by simp)
    rw [laidsF, goalsF, laid_goal hx.2 hx.1, laids_goals r (fun t ht => h t (by simp [ht]))]
end Go.Proofs.YtlpmfkpefoegeabDoor
