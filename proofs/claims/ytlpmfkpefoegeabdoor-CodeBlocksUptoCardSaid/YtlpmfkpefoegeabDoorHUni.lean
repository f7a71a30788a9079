/-
  Terms in cells made one: in plain data.
-/
import Derived.Test.YtlpmfkpefoegeabDoorHLook
namespace Go.Proofs.YtlpmfkpefoegeabDoor
set_option linter.unusedVariables false
set_option linter.unusedSimpArgs false

/-- the places behind one: a frame's arguments -/
def argsAt (a : Int) (n : Int) : List Int := (List.range n.toNat).map fun i => a + 1 + (i : Nat)

/-- does a place stand in terms? so much work is left, or: -1 -/
def inL (l : List Ce) (v : Int) : Nat → List Int → Bool × Int
  | w, [] => (false, w)
  | 0, _ :: _ => (false, -1)
  | w + 1, z :: r =>
    if look l z < 0 then (false, -1)
    else if (cellAt l (look l z)).kind = 0 then (if look l z = v then (true, w) else inL l v w r)
    else if (cellAt l (look l z)).kind = 3 then inL l v w (argsAt (look l z) (cellAt l (look l z)).n ++ r)
    else inL l v w r

theorem inL_nil (l : List Ce) (v : Int) (w : Nat) : inL l v w [] = (false, (w : Int)) := by cases w <;> rfl

theorem inL_le (l : List Ce) (v : Int) : ∀ (w : Nat) (s : List Int), (inL l v w s).2 ≤ w ∧ -1 ≤ (inL l v w s).2
  | w, [] => by rw [inL_nil]; exact ⟨Int.le_refl _, by simp only; omega⟩
  | 0, z :: r => by simp [inL]
  | w + 1, z :: r => by
    unfold inL
    have h1 := inL_le l v w r
    have h2 := inL_le l v w (argsAt (look l z) (cellAt l (look l z)).n ++ r)
    split
    · simp; omega
    · split
      · split
        · simp; omega
        · omega
      · split <;> omega

theorem inL_app (l : List Ce) (v : Int) : ∀ (w : Nat) (s r : List Int), inL l v w (s ++ r) = if (inL l v w s).1 = true ∨ (inL l v w s).2 < 0 then inL l v w s else inL l v (inL l v w s).2.toNat r
  | w, [], r => by simp [inL_nil]; omega
  | 0, z :: s, r => by simp [inL]
  | w + 1, z :: s, r => by
    rw [List.cons_append]
    rw [inL.eq_def l v (w + 1) (z :: (s ++ r)), inL.eq_def l v (w + 1) (z :: s)]
    simp only
    have h1 := inL_app l v w s r
    have h2 := inL_app l v w (argsAt (look l z) (cellAt l (look l z)).n ++ s) r
    rw [List.append_assoc] at h2
    split
    · simp
    · split
      · split
        · simp
        · exact h1
      · split
        · exact h2
        · exact h1

theorem inL_true (l : List Ce) (v : Int) : ∀ (w : Nat) (s : List Int), (inL l v w s).1 = true → 0 ≤ (inL l v w s).2
  | w, [], h => by rw [inL_nil] at h ⊢; simp at h
  | 0, z :: r, h => by simp [inL] at h
  | w + 1, z :: r, h => by
    unfold inL at h ⊢
    have h1 := inL_true l v w r
    have h2 := inL_true l v w (argsAt (look l z) (cellAt l (look l z)).n ++ r)
    split at h
    · simp at h
    · rename_i k1
      simp only [k1, if_false]
      split at h
      · rename_i k2
        simp only [k2, if_true]
        split at h
        · rename_i k3; simp only [k3, if_true]; omega
        · rename_i k3; simp only [k3, if_false]; exact h1 h
      · rename_i k2
        simp only [k2, if_false]
        split at h
        · rename_i k3; simp only [k3, if_true]; exact h2 h
        · rename_i k3; simp only [k3, if_false]; exact h1 h

/-- what is left to be made one, or has come of it -/
structure Un where
  ok : Bool
  cells : List Ce
  trail : List Int
  work : Int
  deriving DecidableEq, Inhabited

/-- a place now stands for another -/
def bindC (l : List Ce) (v a : Int) : List Ce := l.modify v.toNat fun c => { c with n := a }

def uniL (w : Nat) (s : List (Int × Int)) (l : List Ce) (t : List Int) : Un :=
  match w, s with
  | w, [] => ⟨true, l, t, w⟩
  | 0, _ :: _ => ⟨false, l, t, -1⟩
  | w + 1, (a, b) :: r =>
    let x := look l a
    let y := look l b
    if x < 0 ∨ y < 0 then ⟨false, l, t, -1⟩
    else if (cellAt l x).kind = 0 ∧ (cellAt l y).kind = 0 then
      (if x = y then uniL w r l t else uniL w r (bindC l (max x y) (min x y)) (t ++ [max x y]))
    else if (cellAt l x).kind = 0 ∨ (cellAt l y).kind = 0 then
      let v := if (cellAt l y).kind = 0 then y else x
      let z := if (cellAt l y).kind = 0 then x else y
      let p := inL l v w [z]
      if p.1 = true ∨ p.2 < 0 then ⟨false, l, t, p.2⟩ else uniL (min w p.2.toNat) r (bindC l v z) (t ++ [v])
    else if cellAt l x ≠ cellAt l y then ⟨false, l, t, w⟩
    else if (cellAt l x).kind = 3 then uniL w ((argsAt x (cellAt l x).n).zip (argsAt y (cellAt l x).n) ++ r) l t
    else uniL w r l t
termination_by w
decreasing_by all_goals omega

theorem uniL_nil (w : Nat) (l : List Ce) (t : List Int) : uniL w [] l t = ⟨true, l, t, w⟩ := by cases w <;> simp [uniL]
theorem uniL_zero (p : Int × Int) (r : List (Int × Int)) (l : List Ce) (t : List Int) : uniL 0 (p :: r) l t = ⟨false, l, t, -1⟩ := by simp [uniL]

theorem uniL_work : ∀ (w : Nat) (s : List (Int × Int)) (l : List Ce) (t : List Int), (uniL w s l t).work ≤ w ∧ -1 ≤ (uniL w s l t).work ∧ ((uniL w s l t).ok = true → 0 ≤ (uniL w s l t).work) := by
  intro w
  induction w using Nat.strongRecOn with
  | _ w ih =>
    intro s l t
    match w, s, ih with
    | w, [], _ => rw [uniL_nil]; exact ⟨Int.le_refl _, by simp only; omega, fun _ => by simp only; omega⟩
    | 0, _ :: _, _ => simp [uniL_zero]
    | w + 1, (a, b) :: r, ih =>
      have ih' : ∀ w' ≤ w, ∀ (s : List (Int × Int)) (l : List Ce) (t : List Int), (uniL w' s l t).work ≤ (w + 1 : Nat) ∧ -1 ≤ (uniL w' s l t).work ∧ ((uniL w' s l t).ok = true → 0 ≤ (uniL w' s l t).work) := fun w' h s l t => by
        obtain ⟨h1, h2, h3⟩ := ih w' (by omega) s l t
        exact ⟨by omega, h2, h3⟩
      rw [uniL]
      simp only
      split
      · simp; omega
      · split
        · split
          · exact ih' w (by omega) _ _ _
          · exact ih' w (by omega) _ _ _
        · split
          · generalize hp : inL l (if (cellAt l (look l b)).kind = 0 then look l b else look l a) w [if (cellAt l (look l b)).kind = 0 then look l a else look l b] = p
            have h1 := inL_le l (if (cellAt l (look l b)).kind = 0 then look l b else look l a) w [if (cellAt l (look l b)).kind = 0 then look l a else look l b]
            rw [hp] at h1
            split
            · refine ⟨?_, ?_, fun h => by simp at h⟩ <;> simp only <;> omega
            · exact ih' _ (by omega) _ _ _
          · split
            · refine ⟨?_, ?_, fun h => by simp at h⟩ <;> simp only <;> omega
            · split
              · exact ih' w (by omega) _ _ _
              · exact ih' w (by omega) _ _ _

/-- one behind the other -/
theorem uniL_app : ∀ (w : Nat) (s r : List (Int × Int)) (l : List Ce) (t : List Int),
    uniL w (s ++ r) l t = if (uniL w s l t).ok = true then uniL (uniL w s l t).work.toNat r (uniL w s l t).cells (uniL w s l t).trail else uniL w s l t := by
  intro w
  induction w using Nat.strongRecOn with
  | _ w ih =>
    intro s r l t
    match w, s, ih with
    | w, [], _ => simp [uniL_nil]
    | 0, _ :: _, _ => simp [uniL_zero]
    | w + 1, (a, b) :: s, ih =>
      rw [List.cons_append]
      rw [uniL.eq_def (w + 1) ((a, b) :: (s ++ r)), uniL.eq_def (w + 1) ((a, b) :: s)]
      simp only
      split
      · simp
      · split
        · split
          · exact ih w (by omega) s r l t
          · exact ih w (by omega) s r _ _
        · split
          · generalize inL l (if (cellAt l (look l b)).kind = 0 then look l b else look l a) w [if (cellAt l (look l b)).kind = 0 then look l a else look l b] = p
            by_cases hp : p.1 = true ∨ p.2 < 0
            · rw [if_pos hp, if_pos hp]; rfl
            · rw [if_neg hp, if_neg hp]
              exact ih (min w p.2.toNat) (by omega) s r _ _
          · split
            · simp
            · split
              · rw [← List.append_assoc]; exact ih w (by omega) _ r l t
              · exact ih w (by omega) s r l t
end Go.Proofs.YtlpmfkpefoegeabDoor
