/-
  Bindings undone, terms told out of cells: in plain data.
-/
import Derived.Test.YtlpmfkpefoegeabDoorHBis
namespace Go.Proofs.YtlpmfkpefoegeabDoor
set_option linter.unusedVariables false
set_option linter.unusedSimpArgs false

/-- cells, some of them free again -/
def undoC (l : List Ce) (vs : List Int) : List Ce := l.mapIdx fun i c => if (i : Int) ∈ vs then { c with n := i } else c

theorem undoC_len (l : List Ce) (vs : List Int) : (undoC l vs).length = l.length := by simp [undoC]
theorem undoC_nil (l : List Ce) : undoC l [] = l := by
  apply List.ext_getElem (by simp [undoC])
  intro i h1 h2
  simp [undoC]
theorem undoC_get (l : List Ce) (vs : List Int) (i : Nat) (h : i < (undoC l vs).length) : (undoC l vs)[i] = if (i : Int) ∈ vs then { (l[i]'(by rw [undoC_len] at h; exact h)) with n := i } else l[i]'(by rw [undoC_len] at h; exact h) := by
  simp [undoC]

theorem undoC_step (l : List Ce) (vs : List Int) (v : Int) (h0 : 0 ≤ v) (us : List Int) (hus : ∀ x, x ∈ us ↔ x ∈ vs ∨ x = v) : (undoC l vs).modify v.toNat (fun c => { c with n := v }) = undoC l us := by
  apply List.ext_getElem (by simp [undoC])
  intro i h1 h2
  rw [List.getElem_modify, undoC_get, undoC_get]
  by_cases e : v.toNat = i
  · have : (i : Int) = v := by omega
    rw [if_pos e, if_pos ((hus _).2 (.inr this))]
    subst this
    split <;> rfl
  · rw [if_neg e]
    have h3 : (i : Int) ∈ us ↔ (i : Int) ∈ vs := by
      rw [hus]
      refine ⟨fun h => ?_, .inl⟩
      rcases h with h | h
      · exact h
      · omega
    by_cases h4 : (i : Int) ∈ vs
    · rw [if_pos h4, if_pos (h3.2 h4)]
    · rw [if_neg h4, if_neg (fun h => h4 (h3.1 h))]

/-- what bindings have done to cells -/
def Bound (l : List Ce) (vs : List Int) (l' : List Ce) : Prop :=
  l'.length = l.length ∧ ∀ (i : Nat) (h : i < l.length) (h' : i < l'.length),
    ((i : Int) ∉ vs ∧ l'[i] = l[i]) ∨ ((i : Int) ∈ vs ∧ (l[i]).kind = 0 ∧ (l[i]).n = i ∧ ∃ n : Int, 0 ≤ n ∧ n < l.length ∧ l'[i] = { l[i] with n := n })

theorem Bound.refl (l : List Ce) : Bound l [] l := ⟨rfl, fun i _ _ => .inl ⟨by simp, rfl⟩⟩

theorem Bound.step {l l' : List Ce} {v z : Int} {vs : List Int} (hv : Free l v) (hz : Inb l z) (hzv : z ≠ v) (h : Bound (bindC l v z) vs l') : Bound l (v :: vs) l' := by
  obtain ⟨h1, h2⟩ := h
  rw [bindC_len] at h1
  refine ⟨h1, fun i hi hi' => ?_⟩
  obtain ⟨k, rfl, hk, e⟩ := cellAt_eq hv.1
  have h3 := hv.2
  rw [e] at h3
  have h4 := h2 i (by rw [bindC_len]; exact hi) hi'
  simp only [bindC, Int.toNat_natCast, List.getElem_modify, List.length_modify] at h4
  by_cases hik : k = i
  · subst hik
    simp only [if_true] at h4
    have hm : (k : Int) ∉ vs → l'[k] = { l[k] with n := z } := fun hn => by
      rcases h4 with ⟨_, h4⟩ | ⟨h4, _⟩
      · exact h4
      · exact absurd h4 hn
    by_cases hin : (k : Int) ∈ vs
    · exfalso
      rcases h4 with ⟨h4, _⟩ | ⟨_, _, h4, _⟩
      · exact h4 hin
      · exact hzv h4
    · exact .inr ⟨by simp, h3.1, h3.2, z, hz.1, hz.2, hm hin⟩
  · simp only [hik, if_false] at h4
    rcases h4 with ⟨h4, h5⟩ | ⟨h4, h5⟩
    · refine .inl ⟨?_, h5⟩
      simp only [List.mem_cons, h4, or_false]
      omega
    · exact .inr ⟨by simp [h4], h5⟩

theorem Bound.undo {l l' : List Ce} {vs : List Int} (h : Bound l vs l') : undoC l' vs = l := by
  apply List.ext_getElem (by rw [undoC_len]; exact h.1)
  intro i h1 h2
  rw [undoC_get]
  rcases h.2 i h2 (by rw [h.1]; exact h2) with ⟨k1, k2⟩ | ⟨k1, k2, k3, n, _, _, k4⟩
  · rw [if_neg k1, k2]
  · rw [if_pos k1, k4, ← k3]

theorem Bound.good {l l' : List Ce} {vs : List Int} (h : Bound l vs l') (hg : GoodC l) : GoodC l' := by
  intro i hi
  have hi' : i < l.length := by rw [← h.1]; exact hi
  have h1 := hg i hi'
  rw [h.1]
  rcases h.2 i hi' hi with ⟨_, k2⟩ | ⟨_, k2, k3, n, k4, k5, k6⟩
  · rw [k2]; exact h1
  · rw [k6]
    unfold Ce.OkAt at h1 ⊢
    simp only
    rcases h1 with h1 | h1 | h1 | h1
    · exact .inl ⟨h1.1, k4, k5, h1.2.2.2⟩
    · omega
    · omega
    · omega

theorem Bound.kind {l l' : List Ce} {vs : List Int} (h : Bound l vs l') (i : Nat) (hi : i < l.length) (hi' : i < l'.length) : (l'[i]).kind = (l[i]).kind := by
  rcases h.2 i hi hi' with ⟨_, k2⟩ | ⟨_, k2, k3, n, k4, k5, k6⟩
  · rw [k2]
  · rw [k6]

theorem uniL_bound : ∀ (w : Nat) (s : List (Int × Int)) (l : List Ce) (t : List Int), (uniL w s l t).ok = true →
    ∃ vs, (uniL w s l t).trail = t ++ vs ∧ Bound l vs (uniL w s l t).cells ∧ (∀ v ∈ vs, Inb l v) ∧ vs.length ≤ w := by
  intro w
  induction w using Nat.strongRecOn with
  | _ w ih =>
    intro s l t h
    match w, s, ih, h with
    | w, [], _, _ => rw [uniL_nil]; exact ⟨[], by simp, Bound.refl l, by simp, by simp⟩
    | 0, _ :: _, _, h => rw [uniL_zero] at h; simp at h
    | w + 1, (a, b) :: r, ih, h =>
      obtain ⟨x, y, hx, hy, ⟨hxy, _, e⟩ | ⟨v, z, w', hw, hvz, h1, h2, h3, h4, e⟩ | ⟨hk, hc, h3, e⟩ | ⟨hk, hc, h3, e⟩⟩ := uniL_step h
      · rw [e] at h ⊢
        obtain ⟨vs, k1, k2, k3, k4⟩ := ih w (by omega) _ _ _ h
        exact ⟨vs, k1, k2, k3, by omega⟩
      · rw [e] at h ⊢
        obtain ⟨vs, k1, k2, k3, k4⟩ := ih w' (by omega) _ _ _ h
        refine ⟨v :: vs, by rw [k1, List.append_assoc]; rfl, k2.step h1 h2 h4, fun u hu => ?_, by simp; omega⟩
        rcases List.mem_cons.1 hu with rfl | hu
        · exact h1.1
        · exact inb_bind.1 (k3 u hu)
      · rw [e] at h ⊢
        obtain ⟨vs, k1, k2, k3, k4⟩ := ih w (by omega) _ _ _ h
        exact ⟨vs, k1, k2, k3, by omega⟩
      · rw [e] at h ⊢
        obtain ⟨vs, k1, k2, k3, k4⟩ := ih w (by omega) _ _ _ h
        exact ⟨vs, k1, k2, k3, by omega⟩

/-- the terms at places; how many nodes may yet come -/
def rdL (l : List Ce) (w : Nat) (s : List Int) : Option (List Tm × Nat) :=
  match w, s with
  | w, [] => some ([], w)
  | 0, _ :: _ => none
  | w + 1, a :: r =>
    let x := look l a
    let c := cellAt l x
    if x < 0 then none
    else if c.kind = 3 then
      match rdL l w (argsAt x c.n) with
      | none => none
      | some (ts, w1) =>
        match rdL l (min w w1) r with
        | none => none
        | some (rs, w2) => some (.mk 3 0 c.s ts :: rs, w2)
    else
      match rdL l w r with
      | none => none
      | some (rs, w2) => some ((if c.kind = 0 then .mk 0 x ByteArray.empty [] else .mk c.kind c.n c.s []) :: rs, w2)
termination_by w
decreasing_by all_goals omega

theorem rdL_nil (l : List Ce) (w : Nat) : rdL l w [] = some ([], w) := by cases w <;> simp [rdL]
theorem rdL_zero (l : List Ce) (a : Int) (r : List Int) : rdL l 0 (a :: r) = none := by simp [rdL]

theorem rdL_le (l : List Ce) : ∀ (w : Nat) (s : List Int) (ts : List Tm) (w' : Nat), rdL l w s = some (ts, w') → w' ≤ w ∧ ts.length = s.length := by
  intro w
  induction w using Nat.strongRecOn with
  | _ w ih =>
    intro s ts w' h
    match w, s, ih, h with
    | w, [], _, h => rw [rdL_nil] at h; simp at h; obtain ⟨rfl, rfl⟩ := h; simp
    | 0, _ :: _, _, h => rw [rdL_zero] at h; cases h
    | w + 1, a :: r, ih, h =>
      rw [rdL] at h
      try simp only at h
      split at h
      · simp at h
      · split at h
        · split at h
          · simp at h
          · rename_i _ _ ts1 w1 h1
            have k1 := ih w (by omega) _ _ _ h1
            rw [Nat.min_eq_right k1.1] at h
            split at h
            · simp at h
            · rename_i _ rs w2 h2
              have k2 := ih w1 (by omega) _ _ _ h2
              simp only [Option.some.injEq, Prod.mk.injEq] at h
              obtain ⟨rfl, rfl⟩ := h
              simp only [List.length_cons]
              omega
        · split at h
          · simp at h
          · rename_i _ rs w2 h2
            have k2 := ih w (by omega) _ _ _ h2
            simp only [Option.some.injEq, Prod.mk.injEq] at h
            obtain ⟨rfl, rfl⟩ := h
            simp only [List.length_cons]; omega

theorem zip_fst : ∀ (l l' : List Int), l.length = l'.length → (l.zip l').map (·.1) = l ∧ (l.zip l').map (·.2) = l'
  | [], [], _ => ⟨rfl, rfl⟩
  | x :: l, y :: l', h => by
    obtain ⟨h1, h2⟩ := zip_fst l l' (by simpa using h)
    exact ⟨by rw [List.zip_cons_cons, List.map_cons, h1], by rw [List.zip_cons_cons, List.map_cons, h2]⟩

theorem argsAt_len (a n : Int) : (argsAt a n).length = n.toNat := by simp [argsAt]

/-- places that are one have one term -/
theorem rdL_bis {l : List Ce} {B : Int → Int → Prop} (hB : Bis l B) : ∀ (w : Nat) (s : List (Int × Int)), (∀ p ∈ s, B p.1 p.2 ∨ p.1 = p.2) → rdL l w (s.map (·.1)) = rdL l w (s.map (·.2)) := by
  intro w
  induction w using Nat.strongRecOn with
  | _ w ih =>
    intro s hs
    match w, s, ih, hs with
    | w, [], _, _ => rfl
    | 0, p :: r, _, _ => rw [List.map_cons, List.map_cons, rdL_zero, rdL_zero]
    | w + 1, (a, b) :: r, ih, hs =>
      have hr : ∀ p ∈ r, B p.1 p.2 ∨ p.1 = p.2 := fun p hp => hs p (by simp [hp])
      rw [List.map_cons, List.map_cons, rdL, rdL]
      simp only
      have key : look l a = look l b ∨ ((cellAt l (look l a)).kind ≠ 0 ∧ cellAt l (look l a) = cellAt l (look l b) ∧ ((cellAt l (look l a)).kind = 3 → ∀ p ∈ (argsAt (look l a) (cellAt l (look l a)).n).zip (argsAt (look l b) (cellAt l (look l a)).n), B p.1 p.2)) ∧ 0 ≤ look l a ∧ 0 ≤ look l b := by
        rcases hs (a, b) (by simp) with h | h
        · obtain ⟨x, y, k1, k2, k3⟩ := hB a b h
          rw [look_of k1, look_of k2]
          rcases k3 with k3 | k3
          · exact .inl k3
          · exact .inr ⟨k3, k1.nonneg, k2.nonneg⟩
        · simp only at h; subst h; exact .inl rfl
      generalize look l a = x at key ⊢
      generalize look l b = y at key ⊢
      rcases key with rfl | ⟨⟨k1, k2, k3⟩, k4, k5⟩
      · rw [ih w (by omega) r hr]
        split
        · rfl
        · split
          · split
            · rfl
            · rename_i _ _ _ ts w1 _
              rw [ih (min w w1) (by omega) r hr]
          · rfl
      · rw [if_neg (by omega), if_neg (show ¬ y < 0 by omega)]
        rw [← k2, if_neg k1, if_neg k1]
        by_cases h3 : (cellAt l x).kind = 3
        · rw [if_pos h3, if_pos h3]
          have h4 := ih w (by omega) _ (fun p hp => .inl (k3 h3 p hp))
          obtain ⟨z1, z2⟩ := zip_fst (argsAt x (cellAt l x).n) (argsAt y (cellAt l x).n) (by rw [argsAt_len, argsAt_len])
          rw [z1, z2] at h4
          rw [h4]
          split
          · rfl
          · rename_i _ ts w1 _
            rw [ih (min w w1) (by omega) r hr]
        · rw [if_neg h3, if_neg h3, ih w (by omega) r hr]
end Go.Proofs.YtlpmfkpefoegeabDoor
