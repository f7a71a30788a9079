/-
  What is reached in cells, and a heap without all else: in plain data.
-/
import Derived.Test.YtlpmfkpefoegeabHBis
namespace Go.Proofs.Ytlpmfkpefoegeab
set_option linter.unusedVariables false
set_option linter.unusedSimpArgs false
def undoC (l : List Ce) (vs : List Int) : List Ce := l.mapIdx fun i c => if (i : Int) ∈ vs then { c with n := i } else c
theorem undoC_len (l : List Ce) (vs : List Int) : (undoC l vs).length = l.length := by simp [undoC]
theorem undoC_nil (l : List Ce) : undoC l [] = l := by
  apply List.ext_getElem (by simp [undoC])
  intro i h1 h2
  simp [undoC]
theorem undoC_get (l : List Ce) (vs : List Int) (i : Nat) (h : i < (undoC l vs).length) : (undoC l vs)[i] = if (i : Int) ∈ vs then { (l[i]'(by rw [undoC_len] at h; exact h)) with n := i } else l[i]'(by rw [undoC_len] at h; exact h) := by
  simp [undoC]
theorem undoC_step (l : List Ce) (vs : List Int) (v : Int) (h0 : 0 ≤ v) (us : List Int) (hus : ∀ x, x ∈ us ↔ x ∈ vs ∨ x = v) : (undoC l vs).modify v.toNat (fun c => { c with n := v }) = undoC l us := by
  apply List.ext_getElem (by simp [undoC])
  intro i h1 h2
  rw [List.getElem_modify, undoC_get, undoC_get]
  by_cases e : v.toNat = i
  · have : (i : Int) = v := by omega
    rw [if_pos e, if_pos ((hus _).2 (.inr this))]
    subst this
    split <;> rfl
  · rw [if_neg e]
    have h3 : (i : Int) ∈ us ↔ (i : Int) ∈ vs := by
      rw [hus]
      refine ⟨fun h => ?_, .inl⟩
      rcases h with h | h
      · exact h
      · omega
    by_cases h4 : (i : Int) ∈ vs
    · rw [if_pos h4, if_pos (h3.2 h4)]
    · rw [if_neg h4, if_neg (fun h => h4 (h3.1 h))]
def Bound (l : List Ce) (vs : List Int) (l' : List Ce) : Prop :=
  l'.length = l.length ∧ ∀ (i : Nat) (h : i < l.length) (h' : i < l'.length),
    ((i : Int) ∉ vs ∧ l'[i] = l[i]) ∨ ((i : Int) ∈ vs ∧ (l[i]).kind = 0 ∧ (l[i]).n = i ∧ ∃ n : Int, 0 ≤ n ∧ n < l.length ∧ l'[i] = { l[i] with n := n })
theorem Bound.refl (l : List Ce) : Bound l [] l := ⟨rfl, fun i _ _ => .inl ⟨by simp, rfl⟩⟩
theorem Bound.step {l l' : List Ce} {v z : Int} {vs : List Int} (hv : Free l v) (hz : Inb l z) (hzv : z ≠ v) (h : Bound (bindC l v z) vs l') : Bound l (v :: vs) l' := by
  obtain ⟨h1, h2⟩ := h
  rw [bindC_len] at h1
  refine ⟨h1, fun i hi hi' => ?_⟩
  obtain ⟨k, rfl, hk, e⟩ := cellAt_eq hv.1
  have h3 := hv.2
  rw [e] at h3
  have h4 := h2 i (by rw [bindC_len]; exact hi) hi'
  simp only [bindC, Int.toNat_natCast, List.getElem_modify, List.length_modify] at h4
  by_cases hik : k = i
  · subst hik
    simp only [if_true] at h4
    have hm : (k : Int) ∉ vs → l'[k] = { l[k] with n := z } := fun hn => by
      rcases h4 with ⟨_, h4⟩ | ⟨h4, _⟩
      · exact h4
      · exact absurd h4 hn
    by_cases hin : (k : Int) ∈ vs
    · exfalso
      rcases h4 with ⟨h4, _⟩ | ⟨_, _, h4, _⟩
      · exact h4 hin
      · exact hzv h4
    · exact .inr ⟨by simp, h3.1, h3.2, z, hz.1, hz.2, hm hin⟩
  · simp only [hik, if_false] at h4
    rcases h4 with ⟨h4, h5⟩ | ⟨h4, h5⟩
    · refine .inl ⟨?_, h5⟩
      simp only [List.mem_cons, h4, or_false]
      omega
    · exact .inr ⟨by simp [h4], h5⟩
theorem Bound.good {l l' : List Ce} {vs : List Int} (h : Bound l vs l') (hg : GoodC l) : GoodC l' := by
  intro i hi
  have hi' : i < l.length := by rw [← h.1]; exact hi
  have h1 := hg i hi'
  rw [h.1]
  rcases h.2 i hi' hi with ⟨_, k2⟩ | ⟨_, k2, k3, n, k4, k5, k6⟩
  · rw [k2]; exact h1
  · rw [k6]
    unfold Ce.OkAt at h1 ⊢
    simp only
    rcases h1 with h1 | h1 | h1 | h1
    · exact .inl ⟨h1.1, k4, k5, h1.2.2.2⟩
    · omega
    · omega
    · omega
theorem Bound.kind {l l' : List Ce} {vs : List Int} (h : Bound l vs l') (i : Nat) (hi : i < l.length) (hi' : i < l'.length) : (l'[i]).kind = (l[i]).kind := by
  rcases h.2 i hi hi' with ⟨_, k2⟩ | ⟨_, k2, k3, n, k4, k5, k6⟩
  · rw [k2]
  · rw [k6]
theorem uniL_bound : ∀ (w : Nat) (s : List (Int × Int)) (l : List Ce) (t : List Int), (uniL w s l t).ok = true →
    ∃ vs, (uniL w s l t).trail = t ++ vs ∧ Bound l vs (uniL w s l t).cells ∧ (∀ v ∈ vs, Inb l v) ∧ vs.length ≤ w := by
  intro w
  induction w using Nat.strongRecOn with
  | _ w ih =>
    intro s l t h
    match w, s, ih, h with
    | w, [], _, _ => rw [uniL_nil]; exact ⟨[], by simp, Bound.refl l, by simp, by simp⟩
    | 0, _ :: _, _, h => rw [uniL_zero] at h; simp at h
    | w + 1, (a, b) :: r, ih, h =>
      obtain ⟨x, y, hx, hy, ⟨hxy, _, e⟩ | ⟨v, z, w', hw, hvz, h1, h2, h3, h4, e⟩ | ⟨hk, hc, h3, e⟩ | ⟨hk, hc, h3, e⟩⟩ := uniL_step h
      · rw [e] at h ⊢
        obtain ⟨vs, k1, k2, k3, k4⟩ := ih w (by omega) _ _ _ h
        exact ⟨vs, k1, k2, k3, by omega⟩
      · rw [e] at h ⊢
        obtain ⟨vs, k1, k2, k3, k4⟩ := ih w' (by omega) _ _ _ h
        refine ⟨v :: vs, by rw [k1, List.append_assoc]; rfl, k2.step h1 h2 h4, fun u hu => ?_, by simp; omega⟩
        rcases List.mem_cons.1 hu with rfl | hu
        · exact h1.1
        · exact inb_bind.1 (k3 u hu)
      · rw [e] at h ⊢
        obtain ⟨vs, k1, k2, k3, k4⟩ := ih w (by omega) _ _ _ h
        exact ⟨vs, k1, k2, k3, by omega⟩
      · rw [e] at h ⊢
        obtain ⟨vs, k1, k2, k3, k4⟩ := ih w (by omega) _ _ _ h
        exact ⟨vs, k1, k2, k3, by omega⟩
def rdL (l : List Ce) (w : Nat) (s : List Int) : Option (List Tm × Nat) :=
  match w, s with
  | w, [] => some ([], w)
  | 0, _ :: _ => none
  | w + 1, a :: r =>
    let x := look l a
    let c := cellAt l x
    if x < 0 then none
    else if c.kind = 3 then
      match rdL l w (argsAt x c.n) with
      | none => none
      | some (ts, w1) =>
        match rdL l (min w w1) r with
        | none => none
        | some (rs, w2) => some (.mk 3 0 c.s ts :: rs, w2)
    else
      match rdL l w r with
      | none => none
      | some (rs, w2) => some ((if c.kind = 0 then .mk 0 x ByteArray.empty [] else .mk c.kind c.n c.s []) :: rs, w2)
termination_by w
decreasing_by all_goals omega
theorem rdL_nil (l : List Ce) (w : Nat) : rdL l w [] = some ([], w) := by cases w <;> simp [rdL]
theorem rdL_zero (l : List Ce) (a : Int) (r : List Int) : rdL l 0 (a :: r) = none := by simp [rdL]
theorem rdL_le (l : List Ce) : ∀ (w : Nat) (s : List Int) (ts : List Tm) (w' : Nat), rdL l w s = some (ts, w') → w' ≤ w ∧ ts.length = s.length := by
  intro w
  induction w using Nat.strongRecOn with
  | _ w ih =>
    intro s ts w' h
    match w, s, ih, h with
    | w, [], _, h => rw [rdL_nil] at h; simp at h; obtain ⟨rfl, rfl⟩ := h; simp
    | 0, _ :: _, _, h => rw [rdL_zero] at h; cases h
    | w + 1, a :: r, ih, h =>
      rw [rdL] at h
      try simp only at h
      split at h
      · simp at h
      · split at h
        · split at h
          · simp at h
          · rename_i _ _ ts1 w1 h1
            have k1 := ih w (by omega) _ _ _ h1
            rw [Nat.min_eq_right k1.1] at h
            split at h
            · simp at h
            · rename_i _ rs w2 h2
              have k2 := ih w1 (by omega) _ _ _ h2
              simp only [Option.some.injEq, Prod.mk.injEq] at h
              obtain ⟨rfl, rfl⟩ := h
              simp only [List.length_cons]
              omega
        · split at h
          · simp at h
          · rename_i _ rs w2 h2
            have k2 := ih w (by omega) _ _ _ h2
            simp only [Option.some.injEq, Prod.mk.injEq] at h
            obtain ⟨rfl, rfl⟩ := h
            simp only [List.length_cons]; omega
theorem argsAt_len (a n : Int) : (argsAt a n).length = n.toNat := by simp [argsAt]
def Leads (l : List Ce) (i j : Nat) : Prop := ((cellAt l i).kind = 0 ∧ (cellAt l i).n = j) ∨ ((cellAt l i).kind = 3 ∧ i < j ∧ (j : Int) ≤ i + (cellAt l i).n)
inductive Reach (l : List Ce) (roots : List Int) : Nat → Prop where
  | root {i : Nat} : (i : Int) ∈ roots → i < l.length → Reach l roots i
  | step {i j : Nat} : Reach l roots i → Leads l i j → Reach l roots j
open Classical in
/-- which are reached -/
noncomputable def marks (l : List Ce) (roots : List Int) : List Bool := (List.range l.length).map fun i => decide (Reach l roots i)
theorem marks_len (l : List Ce) (roots : List Int) : (marks l roots).length = l.length := by simp [marks]
theorem marks_get {l : List Ce} {roots : List Int} {i : Nat} (h : i < l.length) : (marks l roots)[i]? = some true ↔ Reach l roots i := by
  simp [marks, h]
theorem GoodC.leads {l : List Ce} (hg : GoodC l) {i j : Nat} (hi : i < l.length) (h : Leads l i j) : j < l.length := by
  have h1 := hg i hi
  unfold Leads at h
  rw [cellAt_nat hi] at h
  unfold Ce.OkAt at h1
  omega
theorem Reach.lt {l : List Ce} {roots : List Int} (hg : GoodC l) {i : Nat} (h : Reach l roots i) : i < l.length := by
  induction h with
  | root _ h => exact h
  | step _ h ih => exact hg.leads ih h
theorem reach_in {l : List Ce} {roots : List Int} {M : Nat → Prop} (hr : ∀ i : Nat, (i : Int) ∈ roots → i < l.length → M i) (hc : ∀ i j, M i → Leads l i j → M j) {i : Nat} (h : Reach l roots i) : M i := by
  induction h with
  | root h1 h2 => exact hr _ h1 h2
  | step _ h ih => exact hc _ _ ih h
theorem marks_of {l : List Ce} {roots : List Int} (hg : GoodC l) {m : List Bool} (hl : m.length = l.length) (hr : ∀ i : Nat, (i : Int) ∈ roots → i < l.length → m[i]? = some true)
    (hc : ∀ i j, m[i]? = some true → Leads l i j → m[j]? = some true) (hs : ∀ i, m[i]? = some true → Reach l roots i) : m = marks l roots := by
  apply List.ext_getElem (by rw [hl, marks_len])
  intro i h1 h2
  have h3 : i < l.length := by rw [← hl]; exact h1
  have h4 := marks_get (roots := roots) h3
  rw [List.getElem?_eq_getElem h2] at h4
  by_cases h : Reach l roots i
  · have h5 := reach_in (M := fun i => m[i]? = some true) hr hc h
    rw [List.getElem?_eq_getElem h1] at h5
    have h6 := h4.2 h
    simp only [Option.some.injEq] at h5 h6
    rw [h5, h6]
  · have h5 : ¬ m[i]? = some true := fun e => h (hs i e)
    have h6 : ¬ some (marks l roots)[i] = some true := fun e => h (h4.1 e)
    rw [List.getElem?_eq_getElem h1] at h5
    simp only [Option.some.injEq, Bool.not_eq_true] at h5 h6
    rw [h5, h6]
def cnt (m : List Bool) : Nat → Nat
  | 0 => 0
  | k + 1 => if m[k]? = some true then cnt m k + 1 else cnt m k
theorem cnt_le (m : List Bool) : ∀ k, cnt m k ≤ k
  | 0 => Nat.le_refl _
  | k + 1 => by have := cnt_le m k; unfold cnt; split <;> omega
theorem cnt_mono (m : List Bool) (i : Nat) : ∀ d, cnt m i ≤ cnt m (i + d)
  | 0 => Nat.le_refl _
  | d + 1 => by have := cnt_mono m i d; rw [← Nat.add_assoc, cnt]; split <;> omega
theorem cnt_mono' {m : List Bool} {i j : Nat} (h : i ≤ j) : cnt m i ≤ cnt m j := by
  have := cnt_mono m i (j - i)
  rw [show i + (j - i) = j by omega] at this
  exact this
theorem cnt_lt {m : List Bool} {i j : Nat} (h : i < j) (hi : m[i]? = some true) : cnt m i < cnt m j := by
  have h1 := cnt_mono' (m := m) (show i + 1 ≤ j from h)
  rw [cnt, if_pos hi] at h1
  omega
theorem cnt_past {m : List Bool} (j : Nat) : cnt m (m.length + j) = cnt m m.length := by
  induction j with
  | zero => rfl
  | succ j ih => rw [← Nat.add_assoc, cnt, if_neg (by simp), ih]
theorem cnt_min (m : List Bool) (k : Nat) : cnt m (min k m.length) = cnt m k := by
  by_cases h : k ≤ m.length
  · rw [Nat.min_eq_left h]
  · rw [Nat.min_eq_right (by omega)]
    have := cnt_past (m := m) (k - m.length)
    rw [show m.length + (k - m.length) = k by omega] at this
    exact this.symm
theorem cnt_sur {m : List Bool} : ∀ (n j : Nat), j < cnt m n → ∃ i, i < n ∧ m[i]? = some true ∧ cnt m i = j
  | 0, j, h => by simp [cnt] at h
  | n + 1, j, h => by
    unfold cnt at h
    split at h
    · rename_i hm
      by_cases hj : j < cnt m n
      · obtain ⟨i, h1, h2, h3⟩ := cnt_sur n j hj
        exact ⟨i, by omega, h2, h3⟩
      · exact ⟨n, by omega, hm, by omega⟩
    · obtain ⟨i, h1, h2, h3⟩ := cnt_sur n j h
      exact ⟨i, by omega, h2, h3⟩
def ahead (m : List Bool) (n : Int) : Int := cnt m n.toNat
def adj (m : List Bool) (c : Ce) : Ce := if c.kind = 0 then { c with n := ahead m c.n } else c
def colC (l : List Ce) (m : List Bool) : Nat → List Ce
  | 0 => []
  | k + 1 => if m[k]? = some true then colC l m k ++ [adj m (cellAt l k)] else colC l m k
def trailM (m : List Bool) (t : List Int) : List Bool := t.map fun v => (m[v.toNat]?).getD false
def colT (m : List Bool) (t : List Int) : Nat → List Int
  | 0 => []
  | k + 1 => if (trailM m t)[k]? = some true then colT m t k ++ [ahead m ((t[k]?).getD 0)] else colT m t k
theorem colC_len (l : List Ce) (m : List Bool) : ∀ k, (colC l m k).length = cnt m k
  | 0 => rfl
  | k + 1 => by have := colC_len l m k; unfold colC cnt; split <;> simp [this]
theorem colT_len (m : List Bool) (t : List Int) : ∀ k, (colT m t k).length = cnt (trailM m t) k
  | 0 => rfl
  | k + 1 => by have := colT_len m t k; unfold colT cnt; split <;> simp [this]
theorem colC_get (l : List Ce) (m : List Bool) : ∀ (k i : Nat), i < k → m[i]? = some true → (colC l m k)[cnt m i]? = some (adj m (cellAt l i))
  | k + 1, i, h, hi => by
    by_cases e : i = k
    · subst e
      rw [colC, if_pos hi, List.getElem?_append_right (by rw [colC_len]; exact Nat.le_refl _), colC_len]
      simp
    · have ih := colC_get l m k i (by omega) hi
      have hlt : cnt m i < (colC l m k).length := by rw [colC_len]; exact cnt_lt (by omega) hi
      rw [colC]
      split
      · rw [List.getElem?_append_left hlt, ih]
      · exact ih
theorem colT_get (m : List Bool) (t : List Int) : ∀ (k i : Nat), i < k → (trailM m t)[i]? = some true → (colT m t k)[cnt (trailM m t) i]? = some (ahead m ((t[i]?).getD 0))
  | k + 1, i, h, hi => by
    by_cases e : i = k
    · subst e
      rw [colT, if_pos hi, List.getElem?_append_right (by rw [colT_len]; exact Nat.le_refl _), colT_len]
      simp
    · have ih := colT_get m t k i (by omega) hi
      have hlt : cnt (trailM m t) i < (colT m t k).length := by rw [colT_len]; exact cnt_lt (by omega) hi
      rw [colT]
      split
      · rw [List.getElem?_append_left hlt, ih]
      · exact ih
noncomputable def gcH (h : Hp) (roots : List Int) : Hp := ⟨colC h.cells (marks h.cells roots) h.cells.length, colT (marks h.cells roots) h.trail h.trail.length⟩
section
variable {h : Hp} {roots : List Int}
theorem gcH_cells (i : Nat) (hi : i < h.cells.length) (hr : Reach h.cells roots i) : cellAt (gcH h roots).cells (cnt (marks h.cells roots) i) = adj (marks h.cells roots) (cellAt h.cells i) := by
  have h1 := colC_get h.cells (marks h.cells roots) h.cells.length i hi ((marks_get hi).2 hr)
  unfold cellAt
  rw [Int.toNat_natCast]
  show ((colC h.cells (marks h.cells roots) h.cells.length)[_]?).getD default = _
  rw [h1]
  rfl
theorem gcH_sur {j : Nat} (hj : j < (gcH h roots).cells.length) : ∃ i, i < h.cells.length ∧ Reach h.cells roots i ∧ cnt (marks h.cells roots) i = j := by
  obtain ⟨i, h1, h2, h3⟩ := cnt_sur h.cells.length j (by rw [← colC_len h.cells]; exact hj)
  exact ⟨i, h1, (marks_get h1).1 h2, h3⟩
theorem gcH_lt {i : Nat} (hi : i < h.cells.length) (hr : Reach h.cells roots i) : cnt (marks h.cells roots) i < (gcH h roots).cells.length := by
  show _ < (colC h.cells (marks h.cells roots) h.cells.length).length
  rw [colC_len]
  exact cnt_lt hi ((marks_get hi).2 hr)
theorem gcH_args (hg : GoodC h.cells) {i : Nat} (hi : i < h.cells.length) (hr : Reach h.cells roots i) (hk : (cellAt h.cells i).kind = 3) :
    ∀ d : Nat, (d : Int) ≤ (cellAt h.cells i).n → cnt (marks h.cells roots) (i + 1 + d) = cnt (marks h.cells roots) i + 1 + d ∧ (0 < d → Reach h.cells roots (i + d))
  | 0, _ => by rw [Nat.add_zero, Nat.add_zero, cnt, if_pos ((marks_get hi).2 hr)]; exact ⟨rfl, fun h => absurd h (Nat.lt_irrefl _)⟩
  | d + 1, hd => by
    obtain ⟨ih, _⟩ := gcH_args hg hi hr hk d (by omega)
    have h1 : Reach h.cells roots (i + (d + 1)) := .step hr (.inr ⟨hk, by omega, by omega⟩)
    refine ⟨?_, fun _ => h1⟩
    rw [show i + 1 + (d + 1) = (i + 1 + d) + 1 by omega, cnt, if_pos, ih]
    · omega
    · rw [show i + 1 + d = i + (d + 1) by omega]
      exact (marks_get (h1.lt hg)).2 h1
theorem gcH_good (hg : h.Good) : (gcH h roots).Good := by
  obtain ⟨g1, g2, g3, g4⟩ := hg
  refine ⟨fun j hj => ?_, fun j hj => ?_, ?_, ?_⟩
  · obtain ⟨i, hi, hr, rfl⟩ := gcH_sur hj
    have h1 := gcH_cells (h := h) i hi hr
    rw [cellAt_nat hj, cellAt_nat hi] at h1
    rw [h1]
    have h2 := g1 i hi
    unfold Ce.OkAt at h2
    unfold adj
    rcases h2 with h2 | h2 | h2 | h2
    · rw [if_pos h2.1]
      obtain ⟨k, hk⟩ := Int.eq_ofNat_of_zero_le h2.2.1
      have hlead : Leads h.cells i k := .inl (by rw [cellAt_nat hi]; exact ⟨h2.1, hk⟩)
      have hr2 : Reach h.cells roots k := .step hr hlead
      have := gcH_lt (h := h) (hr2.lt g1) hr2
      refine .inl ⟨h2.1, ?_, ?_, h2.2.2.2⟩
      · simp only [ahead]; omega
      · simp only [ahead, hk, Int.toNat_natCast]; omega
    · rw [if_neg (by omega)]; exact .inr (.inl h2)
    · rw [if_neg (by omega)]; exact .inr (.inr (.inl h2))
    · rw [if_neg (by omega)]
      refine .inr (.inr (.inr ⟨h2.1, h2.2.1, h2.2.2.1, ?_, h2.2.2.2.2⟩))
      obtain ⟨k, hk⟩ := Int.eq_ofNat_of_zero_le (show 0 ≤ h.cells[i].n by omega)
      obtain ⟨a1, a2⟩ := gcH_args (h := h) g1 hi hr (by rw [cellAt_nat hi]; exact h2.1) (k - 1) (by rw [cellAt_nat hi]; omega)
      obtain ⟨b1, b2⟩ := gcH_args (h := h) g1 hi hr (by rw [cellAt_nat hi]; exact h2.1) k (by rw [cellAt_nat hi]; omega)
      have hr2 := b2 (by omega)
      have := gcH_lt (h := h) (hr2.lt g1) hr2
      rw [show i + k = i + 1 + (k - 1) by omega, a1] at this
      omega
  · obtain ⟨i, hi, hm, hc⟩ := cnt_sur h.trail.length j (by rw [← colT_len]; exact hj)
    have h1 := colT_get (marks h.cells roots) h.trail h.trail.length i hi hm
    rw [hc] at h1
    have h2 : (gcH h roots).trail[j]? = some ((gcH h roots).trail[j]) := List.getElem?_eq_getElem hj
    have h3 : (gcH h roots).trail[j]? = some (ahead (marks h.cells roots) ((h.trail[i]?).getD 0)) := h1
    rw [h3] at h2
    simp only [Option.some.injEq] at h2
    obtain ⟨v, hv, hvl, hk⟩ := g2 i hi
    rw [List.getElem?_eq_getElem hi, Option.getD_some, hv] at h2
    simp only [trailM, List.getElem?_map, List.getElem?_eq_getElem hi, Option.map_some, hv, Int.toNat_natCast, Option.some.injEq] at hm
    have hr : Reach h.cells roots v := by
      refine (marks_get hvl).1 ?_
      rw [List.getElem?_eq_getElem (by rw [marks_len]; exact hvl)] at hm ⊢
      rw [Option.getD_some] at hm
      rw [hm]
    refine ⟨cnt (marks h.cells roots) v, h2.symm, gcH_lt hvl hr, ?_⟩
    have h4 := gcH_cells (h := h) v hvl hr
    rw [cellAt_nat (gcH_lt hvl hr), cellAt_nat hvl] at h4
    rw [h4]
    unfold adj
    rw [if_pos hk]
    exact hk
  · show (colC _ _ _).length ≤ _
    rw [colC_len]
    have := cnt_le (marks h.cells roots) h.cells.length
    omega
  · show (colT _ _ _).length ≤ _
    rw [colT_len]
    have := cnt_le (trailM (marks h.cells roots) h.trail) h.trail.length
    omega
end
end Go.Proofs.Ytlpmfkpefoegeab
