/-
  What was made one is one, and needs nothing more: in plain data.
-/
import Derived.Test.YtlpmfkpefoegeabDoorHUni
namespace Go.Proofs.YtlpmfkpefoegeabDoor
set_option linter.unusedVariables false
set_option linter.unusedSimpArgs false

theorem bindC_len (l : List Ce) (v a : Int) : (bindC l v a).length = l.length := by simp [bindC]

theorem cellAt_eq {l : List Ce} {a : Int} (h : Inb l a) : ∃ k : Nat, a = (k : Int) ∧ ∃ hk : k < l.length, cellAt l a = l[k] := by
  obtain ⟨h1, h2⟩ := h
  obtain ⟨k, rfl⟩ := Int.eq_ofNat_of_zero_le h1
  exact ⟨k, rfl, by omega, cellAt_nat (by omega)⟩

theorem cellAt_bind {l : List Ce} {v a y : Int} (hv : Inb l v) (hy : Inb l y) : cellAt (bindC l v a) y = if y = v then { cellAt l v with n := a } else cellAt l y := by
  obtain ⟨k, rfl, hk, e1⟩ := cellAt_eq hv
  obtain ⟨j, rfl, hj, e2⟩ := cellAt_eq hy
  rw [e1, e2, cellAt_nat (by rw [bindC_len]; exact hj)]
  simp only [bindC, Int.toNat_natCast, List.getElem_modify]
  by_cases h : k = j
  · subst h; simp
  · rw [if_neg h, if_neg (by omega)]

theorem inb_bind {l : List Ce} {v a y : Int} : Inb (bindC l v a) y ↔ Inb l y := by unfold Inb; rw [bindC_len]

/-- an own place, that another one may be laid into -/
def Free (l : List Ce) (v : Int) : Prop := Inb l v ∧ (cellAt l v).kind = 0 ∧ (cellAt l v).n = v

theorem Free.stop {l : List Ce} {v : Int} (h : Free l v) : Stop l v := .inr h.2.2
theorem Looks.free {l : List Ce} {a x : Int} (h : Looks l a x) (hk : (cellAt l x).kind = 0) : Free l x := by
  obtain ⟨h1, h2⟩ := h.end_
  refine ⟨h1, hk, ?_⟩
  rcases h2 with h2 | h2
  · exact absurd hk h2
  · exact h2

theorem bind_stop {l : List Ce} {v a x : Int} (hv : Inb l v) (hx : Inb l x) (hs : Stop l x) (hne : x ≠ v) : Stop (bindC l v a) x := by
  unfold Stop at hs ⊢
  rw [cellAt_bind hv hx, if_neg hne]
  exact hs

theorem bind_looks {l : List Ce} {v t : Int} (hv : Free l v) (ht : Inb l t) (hs : Stop l t) (hne : t ≠ v) {a x : Int} (h : Looks l a x) : Looks (bindC l v t) a (if x = v then t else x) := by
  have htt : Looks (bindC l v t) t t := .stop (inb_bind.2 ht) (bind_stop hv.1 ht hs hne)
  induction h with
  | @stop a h1 h2 =>
    by_cases e : a = v
    · subst e
      rw [if_pos rfl]
      refine .next (inb_bind.2 h1) ?_ ?_
      · unfold Stop
        rw [cellAt_bind hv.1 h1, if_pos rfl]
        have := hv.2.1
        simp only
        omega
      · rw [cellAt_bind hv.1 h1, if_pos rfl]
        exact htt
    · rw [if_neg e]
      exact .stop (inb_bind.2 h1) (bind_stop hv.1 h1 h2 e)
  | @next a x h1 h2 _ ih =>
    have e : a ≠ v := fun e => h2 (e ▸ hv.stop)
    refine .next (inb_bind.2 h1) ?_ ?_
    · unfold Stop at h2 ⊢
      rw [cellAt_bind hv.1 h1, if_neg e]
      exact h2
    · rw [cellAt_bind hv.1 h1, if_neg e]
      exact ih

/-- what some bindings leave as it was -/
def Ext (l l' : List Ce) : Prop := ∀ a x, Looks l a x → ∃ y, Looks l' a y ∧ Looks l' x y ∧ ((cellAt l x).kind ≠ 0 → y = x ∧ cellAt l' x = cellAt l x)

theorem Ext.refl (l : List Ce) : Ext l l := fun a x h => ⟨x, h, .stop h.end_.1 h.end_.2, fun _ => ⟨rfl, rfl⟩⟩
theorem Ext.trans {l l' l'' : List Ce} (h : Ext l l') (k : Ext l' l'') : Ext l l'' := fun a x hx => by
  obtain ⟨y, h1, h2, h3⟩ := h a x hx
  obtain ⟨z, k1, k2, k3⟩ := k a y h1
  obtain ⟨z', k1', k2', k3'⟩ := k x y h2
  obtain rfl := k2.fun_ k2'
  refine ⟨z, k1, k1', fun hk => ?_⟩
  obtain ⟨rfl, e⟩ := h3 hk
  obtain ⟨rfl, e'⟩ := k3 (by rw [e]; exact hk)
  exact ⟨rfl, e'.trans e⟩

theorem Ext.bind {l : List Ce} {v t : Int} (hv : Free l v) (ht : Inb l t) (hs : Stop l t) (hne : t ≠ v) : Ext l (bindC l v t) := fun a x hx => by
  refine ⟨if x = v then t else x, bind_looks hv ht hs hne hx, bind_looks hv ht hs hne (.stop hx.end_.1 hx.end_.2), fun hk => ?_⟩
  have e : x ≠ v := fun e => hk (e ▸ hv.2.1)
  rw [if_neg e, cellAt_bind hv.1 hx.end_.1, if_neg e]
  exact ⟨rfl, rfl⟩

/-- what a step of making one does, if it goes well -/
theorem uniL_step {w : Nat} {a b : Int} {r : List (Int × Int)} {l : List Ce} {t : List Int} (h : (uniL (w + 1) ((a, b) :: r) l t).ok = true) :
    ∃ x y, Looks l a x ∧ Looks l b y ∧
      ((x = y ∧ (cellAt l x).kind = 0 ∧ uniL (w + 1) ((a, b) :: r) l t = uniL w r l t) ∨
       (∃ v z w', w' ≤ w ∧ ((v = x ∧ z = y) ∨ (v = y ∧ z = x)) ∧ Free l v ∧ Inb l z ∧ Stop l z ∧ z ≠ v ∧ uniL (w + 1) ((a, b) :: r) l t = uniL w' r (bindC l v z) (t ++ [v])) ∨
       ((cellAt l x).kind ≠ 0 ∧ cellAt l x = cellAt l y ∧ (cellAt l x).kind = 3 ∧ uniL (w + 1) ((a, b) :: r) l t = uniL w ((argsAt x (cellAt l x).n).zip (argsAt y (cellAt l x).n) ++ r) l t) ∨
       ((cellAt l x).kind ≠ 0 ∧ cellAt l x = cellAt l y ∧ (cellAt l x).kind ≠ 3 ∧ uniL (w + 1) ((a, b) :: r) l t = uniL w r l t)) := by
  rw [uniL] at h ⊢
  simp only at h ⊢
  by_cases h1 : look l a < 0 ∨ look l b < 0
  · rw [if_pos h1] at h; simp at h
  · rw [if_neg h1] at h ⊢
    have hx := look_looks (l := l) (a := a) (by omega)
    have hy := look_looks (l := l) (a := b) (by omega)
    refine ⟨look l a, look l b, hx, hy, ?_⟩
    generalize look l a = x at h h1 hx ⊢
    generalize look l b = y at h h1 hy ⊢
    by_cases h2 : (cellAt l x).kind = 0 ∧ (cellAt l y).kind = 0
    · rw [if_pos h2] at h ⊢
      by_cases h3 : x = y
      · rw [if_pos h3] at h ⊢
        exact .inl ⟨h3, h2.1, rfl⟩
      · rw [if_neg h3] at h ⊢
        refine .inr (.inl ⟨max x y, min x y, w, Nat.le_refl _, by omega, ?_, ?_, ?_, by omega, rfl⟩)
        · have := hx.free h2.1; have := hy.free h2.2
          rcases Int.le_total x y with k | k
          · rw [Int.max_eq_right k]; assumption
          · rw [Int.max_eq_left k]; assumption
        · rcases Int.le_total x y with k | k
          · rw [Int.min_eq_left k]; exact hx.end_.1
          · rw [Int.min_eq_right k]; exact hy.end_.1
        · rcases Int.le_total x y with k | k
          · rw [Int.min_eq_left k]; exact hx.end_.2
          · rw [Int.min_eq_right k]; exact hy.end_.2
    · rw [if_neg h2] at h ⊢
      by_cases h3 : (cellAt l x).kind = 0 ∨ (cellAt l y).kind = 0
      · rw [if_pos h3] at h ⊢
        generalize inL l (if (cellAt l y).kind = 0 then y else x) w [if (cellAt l y).kind = 0 then x else y] = p at h ⊢
        by_cases h4 : p.1 = true ∨ p.2 < 0
        · rw [if_pos h4] at h; simp at h
        · rw [if_neg h4] at h ⊢
          refine .inr (.inl ⟨_, _, min w p.2.toNat, Nat.min_le_left _ _, ?_, ?_, ?_, ?_, ?_, rfl⟩)
          · by_cases h5 : (cellAt l y).kind = 0
            · rw [if_pos h5, if_pos h5]; exact .inr ⟨rfl, rfl⟩
            · rw [if_neg h5, if_neg h5]; exact .inl ⟨rfl, rfl⟩
          · by_cases h5 : (cellAt l y).kind = 0
            · simp only [h5, if_true]; exact hy.free h5
            · simp only [h5, if_false]; exact hx.free (h3.resolve_right h5)
          · split
            · exact hx.end_.1
            · exact hy.end_.1
          · split
            · exact hx.end_.2
            · exact hy.end_.2
          · by_cases h5 : (cellAt l y).kind = 0
            · simp only [h5, if_true]; rintro rfl; exact h2 ⟨h5, h5⟩
            · simp only [h5, if_false]; rintro rfl; exact h5 (h3.resolve_right h5)
      · rw [if_neg h3] at h ⊢
        by_cases h4 : cellAt l x ≠ cellAt l y
        · rw [if_pos h4] at h; simp at h
        · rw [if_neg h4] at h ⊢
          have h4' : cellAt l x = cellAt l y := Decidable.not_not.1 h4
          by_cases h5 : (cellAt l x).kind = 3
          · rw [if_pos h5]; exact .inr (.inr (.inl ⟨fun e => h3 (.inl e), h4', h5, rfl⟩))
          · rw [if_neg h5]; exact .inr (.inr (.inr ⟨fun e => h3 (.inl e), h4', h5, rfl⟩))

theorem uniL_ext : ∀ (w : Nat) (s : List (Int × Int)) (l : List Ce) (t : List Int), (uniL w s l t).ok = true → Ext l (uniL w s l t).cells := by
  intro w
  induction w using Nat.strongRecOn with
  | _ w ih =>
    intro s l t h
    match w, s, ih, h with
    | w, [], _, _ => rw [uniL_nil]; exact Ext.refl l
    | 0, _ :: _, _, h => rw [uniL_zero] at h; simp at h
    | w + 1, (a, b) :: r, ih, h =>
      obtain ⟨x, y, hx, hy, ⟨_, _, e⟩ | ⟨v, z, w', hw, _, h1, h2, h3, h4, e⟩ | ⟨_, _, _, e⟩ | ⟨_, _, _, e⟩⟩ := uniL_step h
      · rw [e] at h ⊢; exact ih w (by omega) _ _ _ h
      · rw [e] at h ⊢; exact (Ext.bind h1 h2 h3 h4).trans (ih w' (by omega) _ _ _ h)
      · rw [e] at h ⊢; exact ih w (by omega) _ _ _ h
      · rw [e] at h ⊢; exact ih w (by omega) _ _ _ h

/-- places that are one: they stand for the same, or for frames of one name whose arguments are one -/
def Bis (l : List Ce) (B : Int → Int → Prop) : Prop := ∀ a b, B a b → ∃ x y, Looks l a x ∧ Looks l b y ∧
  (x = y ∨ ((cellAt l x).kind ≠ 0 ∧ cellAt l x = cellAt l y ∧ ((cellAt l x).kind = 3 → ∀ p ∈ (argsAt x (cellAt l x).n).zip (argsAt y (cellAt l x).n), B p.1 p.2)))

theorem Bis.add {l : List Ce} {B : Int → Int → Prop} (h : Bis l B) {a b x y : Int} (hx : Looks l a x) (hy : Looks l b y)
    (hxy : x = y ∨ ((cellAt l x).kind ≠ 0 ∧ cellAt l x = cellAt l y ∧ ((cellAt l x).kind = 3 → ∀ p ∈ (argsAt x (cellAt l x).n).zip (argsAt y (cellAt l x).n), B p.1 p.2))) :
    Bis l fun c d => B c d ∨ (c = a ∧ d = b) := by
  rintro c d (hcd | ⟨rfl, rfl⟩)
  · obtain ⟨x, y, h1, h2, h3 | ⟨h3, h4, h5⟩⟩ := h c d hcd
    · exact ⟨x, y, h1, h2, .inl h3⟩
    · exact ⟨x, y, h1, h2, .inr ⟨h3, h4, fun k p hp => .inl (h5 k p hp)⟩⟩
  · refine ⟨x, y, hx, hy, ?_⟩
    rcases hxy with h | ⟨h3, h4, h5⟩
    · exact .inl h
    · exact .inr ⟨h3, h4, fun k p hp => .inl (h5 k p hp)⟩

theorem uniL_bis : ∀ (w : Nat) (s : List (Int × Int)) (l : List Ce) (t : List Int), (uniL w s l t).ok = true → ∃ B, Bis (uniL w s l t).cells B ∧ ∀ p ∈ s, B p.1 p.2 := by
  intro w
  induction w using Nat.strongRecOn with
  | _ w ih =>
    intro s l t h
    match w, s, ih, h with
    | w, [], _, _ => exact ⟨fun _ _ => False, fun _ _ h => h.elim, fun p hp => by simp at hp⟩
    | 0, _ :: _, _, h => rw [uniL_zero] at h; simp at h
    | w + 1, (a, b) :: r, ih, h =>
      have hmem : ∀ (B : Int → Int → Prop), (∀ p ∈ r, B p.1 p.2) → ∀ p ∈ (a, b) :: r, B p.1 p.2 ∨ (p.1 = a ∧ p.2 = b) := fun B hB p hp => by
        rcases List.mem_cons.1 hp with rfl | hp
        · exact .inr ⟨rfl, rfl⟩
        · exact .inl (hB p hp)
      obtain ⟨x, y, hx, hy, ⟨hxy, _, e⟩ | ⟨v, z, w', hw, hvz, h1, h2, h3, h4, e⟩ | ⟨hk, hc, h3, e⟩ | ⟨hk, hc, h3, e⟩⟩ := uniL_step h
      · rw [e] at h ⊢
        obtain ⟨B, hB, hs⟩ := ih w (by omega) _ _ _ h
        subst hxy
        obtain ⟨z, e1, e2, _⟩ := uniL_ext _ _ _ _ h a x hx
        obtain ⟨z', e3, e4, _⟩ := uniL_ext _ _ _ _ h b x hy
        exact ⟨_, hB.add e1 e3 (.inl (e2.fun_ e4)), hmem B hs⟩
      · rw [e] at h ⊢
        obtain ⟨B, hB, hs⟩ := ih w' (by omega) _ _ _ h
        have b1 := bind_looks h1 h2 h3 h4 hx
        have b2 := bind_looks h1 h2 h3 h4 hy
        have b3 : (if x = v then z else x) = (if y = v then z else y) := by
          rcases hvz with ⟨rfl, rfl⟩ | ⟨rfl, rfl⟩
          · rw [if_pos rfl, if_neg h4]
          · rw [if_neg h4, if_pos rfl]
        rw [← b3] at b2
        obtain ⟨z1, e1, e2, _⟩ := uniL_ext _ _ _ _ h a _ b1
        obtain ⟨z2, e3, e4, _⟩ := uniL_ext _ _ _ _ h b _ b2
        exact ⟨_, hB.add e1 e3 (.inl (e2.fun_ e4)), hmem B hs⟩
      · rw [e] at h ⊢
        obtain ⟨B, hB, hs⟩ := ih w (by omega) _ _ _ h
        obtain ⟨z, e1, e2, e3⟩ := uniL_ext _ _ _ _ h a x hx
        obtain ⟨rfl, c1⟩ := e3 hk
        obtain ⟨z', e4, e5, e6⟩ := uniL_ext _ _ _ _ h b y hy
        obtain ⟨rfl, c2⟩ := e6 (by rw [← hc]; exact hk)
        refine ⟨_, hB.add e1 e4 (.inr ⟨by rw [c1]; exact hk, by rw [c1, c2]; exact hc, fun _ p hp => hs p ?_⟩), hmem B fun p hp => hs p (by simp [hp])⟩
        rw [c1] at hp
        exact List.mem_append_left _ hp
      · rw [e] at h ⊢
        obtain ⟨B, hB, hs⟩ := ih w (by omega) _ _ _ h
        obtain ⟨z, e1, e2, e3⟩ := uniL_ext _ _ _ _ h a x hx
        obtain ⟨rfl, c1⟩ := e3 hk
        obtain ⟨z', e4, e5, e6⟩ := uniL_ext _ _ _ _ h b y hy
        obtain ⟨rfl, c2⟩ := e6 (by rw [← hc]; exact hk)
        exact ⟨_, hB.add e1 e4 (.inr ⟨by rw [c1]; exact hk, by rw [c1, c2]; exact hc, fun k => absurd k (by rw [c1]; exact h3)⟩), hmem B hs⟩

theorem zip_diag (l : List Int) (p : Int × Int) (h : p ∈ l.zip l) : p.1 = p.2 := by
  induction l with
  | nil => simp at h
  | cons x r ih =>
    rw [List.zip_cons_cons] at h
    rcases List.mem_cons.1 h with rfl | h
    · rfl
    · exact ih h

/-- what is one needs nothing more to be one, but perhaps more work -/
theorem uniL_again {B : Int → Int → Prop} {l : List Ce} (hB : Bis l B) (t : List Int) : ∀ (w : Nat) (s : List (Int × Int)), (∀ p ∈ s, B p.1 p.2 ∨ p.1 = p.2) →
    ((uniL w s l t).ok = false ∧ (uniL w s l t).work < 0) ∨ ((uniL w s l t).ok = true ∧ (uniL w s l t).cells = l ∧ (uniL w s l t).trail = t) := by
  intro w
  induction w with
  | zero =>
    intro s hs
    cases s with
    | nil => rw [uniL_nil]; exact .inr ⟨rfl, rfl, rfl⟩
    | cons p r => rw [uniL_zero]; exact .inl ⟨rfl, by simp⟩
  | succ w ih =>
    intro s hs
    match s, hs with
    | [], _ => rw [uniL_nil]; exact .inr ⟨rfl, rfl, rfl⟩
    | (a, b) :: r, hs =>
      have hr : ∀ p ∈ r, B p.1 p.2 ∨ p.1 = p.2 := fun p hp => hs p (by simp [hp])
      rw [uniL]
      simp only
      by_cases h1 : look l a < 0 ∨ look l b < 0
      · rw [if_pos h1]; exact .inl ⟨rfl, by simp⟩
      · rw [if_neg h1]
        have key : look l a = look l b ∨ ((cellAt l (look l a)).kind ≠ 0 ∧ cellAt l (look l a) = cellAt l (look l b) ∧ ((cellAt l (look l a)).kind = 3 → ∀ p ∈ (argsAt (look l a) (cellAt l (look l a)).n).zip (argsAt (look l b) (cellAt l (look l a)).n), B p.1 p.2)) := by
          rcases hs (a, b) (by simp) with h | h
          · obtain ⟨x, y, k1, k2, k3⟩ := hB a b h
            rw [look_of k1, look_of k2]; exact k3
          · simp only at h; subst h; exact .inl rfl
        generalize look l a = x at key h1 ⊢
        generalize look l b = y at key h1 ⊢
        by_cases h2 : (cellAt l x).kind = 0 ∧ (cellAt l y).kind = 0
        · rw [if_pos h2]
          rcases key with rfl | ⟨k, _⟩
          · rw [if_pos rfl]; exact ih r hr
          · exact absurd h2.1 k
        · rw [if_neg h2]
          have hc : cellAt l x = cellAt l y := by
            rcases key with rfl | ⟨_, k, _⟩
            · rfl
            · exact k
          have h3 : ¬ ((cellAt l x).kind = 0 ∨ (cellAt l y).kind = 0) := by
            rw [← hc] at h2 ⊢
            simpa using h2
          rw [if_neg h3, if_neg (not_not_intro hc)]
          by_cases h5 : (cellAt l x).kind = 3
          · rw [if_pos h5]
            refine ih _ fun p hp => ?_
            rcases List.mem_append.1 hp with hp | hp
            · rcases key with rfl | ⟨_, _, k⟩
              · exact .inr (zip_diag _ p hp)
              · exact .inl (k h5 p hp)
            · exact hr p hp
          · rw [if_neg h5]; exact ih r hr
end Go.Proofs.YtlpmfkpefoegeabDoor
