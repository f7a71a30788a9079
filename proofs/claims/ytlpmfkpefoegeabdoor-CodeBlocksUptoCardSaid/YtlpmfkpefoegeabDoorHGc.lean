/-
  What is reached in cells, and a heap without all else: in plain data.
-/
import Derived.Test.YtlpmfkpefoegeabDoorHTerm
namespace Go.Proofs.YtlpmfkpefoegeabDoor
set_option linter.unusedVariables false
set_option linter.unusedSimpArgs false

/-- the places that a cell leads to -/
def Leads (l : List Ce) (i j : Nat) : Prop := ((cellAt l i).kind = 0 ∧ (cellAt l i).n = j) ∨ ((cellAt l i).kind = 3 ∧ i < j ∧ (j : Int) ≤ i + (cellAt l i).n)

/-- the places that are reached -/
inductive Reach (l : List Ce) (roots : List Int) : Nat → Prop where
  | root {i : Nat} : (i : Int) ∈ roots → i < l.length → Reach l roots i
  | step {i j : Nat} : Reach l roots i → Leads l i j → Reach l roots j

open Classical in
/-- which are reached -/
noncomputable def marks (l : List Ce) (roots : List Int) : List Bool := (List.range l.length).map fun i => decide (Reach l roots i)

theorem marks_len (l : List Ce) (roots : List Int) : (marks l roots).length = l.length := by simp [marks]

theorem marks_get {l : List Ce} {roots : List Int} {i : Nat} (h : i < l.length) : (marks l roots)[i]? = some true ↔ Reach l roots i := by
  simp [marks, h]

theorem GoodC.leads {l : List Ce} (hg : GoodC l) {i j : Nat} (hi : i < l.length) (h : Leads l i j) : j < l.length := by
  have h1 := hg i hi
  unfold Leads at h
  rw [cellAt_nat hi] at h
  unfold Ce.OkAt at h1
  omega

theorem Reach.lt {l : List Ce} {roots : List Int} (hg : GoodC l) {i : Nat} (h : Reach l roots i) : i < l.length := by
  induction h with
  | root _ h => exact h
  | step _ h ih => exact hg.leads ih h

/-- marks that are closed hold all that is reached -/
theorem reach_in {l : List Ce} {roots : List Int} {M : Nat → Prop} (hr : ∀ i : Nat, (i : Int) ∈ roots → i < l.length → M i) (hc : ∀ i j, M i → Leads l i j → M j) {i : Nat} (h : Reach l roots i) : M i := by
  induction h with
  | root h1 h2 => exact hr _ h1 h2
  | step _ h ih => exact hc _ _ ih h

theorem marks_of {l : List Ce} {roots : List Int} (hg : GoodC l) {m : List Bool} (hl : m.length = l.length) (hr : ∀ i : Nat, (i : Int) ∈ roots → i < l.length → m[i]? = some true)
    (hc : ∀ i j, m[i]? = some true → Leads l i j → m[j]? = some true) (hs : ∀ i, m[i]? = some true → Reach l roots i) : m = marks l roots := by
  apply List.ext_getElem (by rw [hl, marks_len])
  intro i h1 h2
  have h3 : i < l.length := by rw [← hl]; exact h1
  have h4 := marks_get (roots := roots) h3
  rw [List.getElem?_eq_getElem h2] at h4
  by_cases h : Reach l roots i
  · have h5 := reach_in (M := fun i => m[i]? = some true) hr hc h
    rw [List.getElem?_eq_getElem h1] at h5
    have h6 := h4.2 h
    simp only [Option.some.injEq] at h5 h6
    rw [h5, h6]
  · have h5 : ¬ m[i]? = some true := fun e => h (hs i e)
    have h6 : ¬ some (marks l roots)[i] = some true := fun e => h (h4.1 e)
    rw [List.getElem?_eq_getElem h1] at h5
    simp only [Option.some.injEq, Bool.not_eq_true] at h5 h6
    rw [h5, h6]

/-- how many are kept ahead of a place -/
def cnt (m : List Bool) : Nat → Nat
  | 0 => 0
  | k + 1 => if m[k]? = some true then cnt m k + 1 else cnt m k

theorem cnt_le (m : List Bool) : ∀ k, cnt m k ≤ k
  | 0 => Nat.le_refl _
  | k + 1 => by have := cnt_le m k; unfold cnt; split <;> omega
theorem cnt_mono (m : List Bool) (i : Nat) : ∀ d, cnt m i ≤ cnt m (i + d)
  | 0 => Nat.le_refl _
  | d + 1 => by have := cnt_mono m i d; rw [← Nat.add_assoc, cnt]; split <;> omega
theorem cnt_mono' {m : List Bool} {i j : Nat} (h : i ≤ j) : cnt m i ≤ cnt m j := by
  have := cnt_mono m i (j - i)
  rw [show i + (j - i) = j by omega] at this
  exact this
theorem cnt_lt {m : List Bool} {i j : Nat} (h : i < j) (hi : m[i]? = some true) : cnt m i < cnt m j := by
  have h1 := cnt_mono' (m := m) (show i + 1 ≤ j from h)
  rw [cnt, if_pos hi] at h1
  omega
theorem cnt_past {m : List Bool} (j : Nat) : cnt m (m.length + j) = cnt m m.length := by
  induction j with
  | zero => rfl
  | succ j ih => rw [← Nat.add_assoc, cnt, if_neg (by simp), ih]
theorem cnt_min (m : List Bool) (k : Nat) : cnt m (min k m.length) = cnt m k := by
  by_cases h : k ≤ m.length
  · rw [Nat.min_eq_left h]
  · rw [Nat.min_eq_right (by omega)]
    have := cnt_past (m := m) (k - m.length)
    rw [show m.length + (k - m.length) = k by omega] at this
    exact this.symm
theorem cnt_inj {m : List Bool} {i j : Nat} (hi : m[i]? = some true) (hj : m[j]? = some true) (h : cnt m i = cnt m j) : i = j := by
  rcases Nat.lt_trichotomy i j with h1 | h1 | h1
  · have := cnt_lt h1 hi; omega
  · exact h1
  · have := cnt_lt h1 hj; omega
theorem cnt_sur {m : List Bool} : ∀ (n j : Nat), j < cnt m n → ∃ i, i < n ∧ m[i]? = some true ∧ cnt m i = j
  | 0, j, h => by simp [cnt] at h
  | n + 1, j, h => by
    unfold cnt at h
    split at h
    · rename_i hm
      by_cases hj : j < cnt m n
      · obtain ⟨i, h1, h2, h3⟩ := cnt_sur n j hj
        exact ⟨i, by omega, h2, h3⟩
      · exact ⟨n, by omega, hm, by omega⟩
    · obtain ⟨i, h1, h2, h3⟩ := cnt_sur n j h
      exact ⟨i, by omega, h2, h3⟩

/-- where a place is then -/
def ahead (m : List Bool) (n : Int) : Int := cnt m n.toNat

/-- a cell that is kept -/
def adj (m : List Bool) (c : Ce) : Ce := if c.kind = 0 then { c with n := ahead m c.n } else c

/-- the cells that are kept, of the first k -/
def colC (l : List Ce) (m : List Bool) : Nat → List Ce
  | 0 => []
  | k + 1 => if m[k]? = some true then colC l m k ++ [adj m (cellAt l k)] else colC l m k

/-- is an element of the trail kept? -/
def trailM (m : List Bool) (t : List Int) : List Bool := t.map fun v => (m[v.toNat]?).getD false

/-- the elements of a trail that are kept, of the first k -/
def colT (m : List Bool) (t : List Int) : Nat → List Int
  | 0 => []
  | k + 1 => if (trailM m t)[k]? = some true then colT m t k ++ [ahead m ((t[k]?).getD 0)] else colT m t k

theorem colC_len (l : List Ce) (m : List Bool) : ∀ k, (colC l m k).length = cnt m k
  | 0 => rfl
  | k + 1 => by have := colC_len l m k; unfold colC cnt; split <;> simp [this]
theorem colT_len (m : List Bool) (t : List Int) : ∀ k, (colT m t k).length = cnt (trailM m t) k
  | 0 => rfl
  | k + 1 => by have := colT_len m t k; unfold colT cnt; split <;> simp [this]

theorem colC_get (l : List Ce) (m : List Bool) : ∀ (k i : Nat), i < k → m[i]? = some true → (colC l m k)[cnt m i]? = some (adj m (cellAt l i))
  | k + 1, i, h, hi => by
    by_cases e : i = k
    · subst e
      rw [colC, if_pos hi, List.getElem?_append_right (by rw [colC_len]; exact Nat.le_refl _), colC_len]
      simp
    · have ih := colC_get l m k i (by omega) hi
      have hlt : cnt m i < (colC l m k).length := by rw [colC_len]; exact cnt_lt (by omega) hi
      rw [colC]
      split
      · rw [List.getElem?_append_left hlt, ih]
      · exact ih
theorem colT_get (m : List Bool) (t : List Int) : ∀ (k i : Nat), i < k → (trailM m t)[i]? = some true → (colT m t k)[cnt (trailM m t) i]? = some (ahead m ((t[i]?).getD 0))
  | k + 1, i, h, hi => by
    by_cases e : i = k
    · subst e
      rw [colT, if_pos hi, List.getElem?_append_right (by rw [colT_len]; exact Nat.le_refl _), colT_len]
      simp
    · have ih := colT_get m t k i (by omega) hi
      have hlt : cnt (trailM m t) i < (colT m t k).length := by rw [colT_len]; exact cnt_lt (by omega) hi
      rw [colT]
      split
      · rw [List.getElem?_append_left hlt, ih]
      · exact ih

/-- the heap that is kept -/
noncomputable def gcH (h : Hp) (roots : List Int) : Hp := ⟨colC h.cells (marks h.cells roots) h.cells.length, colT (marks h.cells roots) h.trail h.trail.length⟩

section
variable {h : Hp} {roots : List Int}

theorem gcH_cells (i : Nat) (hi : i < h.cells.length) (hr : Reach h.cells roots i) : cellAt (gcH h roots).cells (cnt (marks h.cells roots) i) = adj (marks h.cells roots) (cellAt h.cells i) := by
  have h1 := colC_get h.cells (marks h.cells roots) h.cells.length i hi ((marks_get hi).2 hr)
  unfold cellAt
  rw [Int.toNat_natCast]
  show ((colC h.cells (marks h.cells roots) h.cells.length)[_]?).getD default = _
  rw [h1]
  rfl

theorem gcH_sur {j : Nat} (hj : j < (gcH h roots).cells.length) : ∃ i, i < h.cells.length ∧ Reach h.cells roots i ∧ cnt (marks h.cells roots) i = j := by
  obtain ⟨i, h1, h2, h3⟩ := cnt_sur h.cells.length j (by rw [← colC_len h.cells]; exact hj)
  exact ⟨i, h1, (marks_get h1).1 h2, h3⟩

theorem gcH_lt {i : Nat} (hi : i < h.cells.length) (hr : Reach h.cells roots i) : cnt (marks h.cells roots) i < (gcH h roots).cells.length := by
  show _ < (colC h.cells (marks h.cells roots) h.cells.length).length
  rw [colC_len]
  exact cnt_lt hi ((marks_get hi).2 hr)

/-- the arguments of a frame stay behind it -/
theorem gcH_args (hg : GoodC h.cells) {i : Nat} (hi : i < h.cells.length) (hr : Reach h.cells roots i) (hk : (cellAt h.cells i).kind = 3) :
    ∀ d : Nat, (d : Int) ≤ (cellAt h.cells i).n → cnt (marks h.cells roots) (i + 1 + d) = cnt (marks h.cells roots) i + 1 + d ∧ (0 < d → Reach h.cells roots (i + d))
  | 0, _ => by rw [Nat.add_zero, Nat.add_zero, cnt, if_pos ((marks_get hi).2 hr)]; exact ⟨rfl, fun h => absurd h (Nat.lt_irrefl _)⟩
  | d + 1, hd => by
    obtain ⟨ih, _⟩ := gcH_args hg hi hr hk d (by omega)
    have h1 : Reach h.cells roots (i + (d + 1)) := .step hr (.inr ⟨hk, by omega, by omega⟩)
    refine ⟨?_, fun _ => h1⟩
    rw [show i + 1 + (d + 1) = (i + 1 + d) + 1 by omega, cnt, if_pos, ih]
    · omega
    · rw [show i + 1 + d = i + (d + 1) by omega]
      exact (marks_get (h1.lt hg)).2 h1

theorem gcH_good (hg : h.Good) : (gcH h roots).Good := by
  obtain ⟨g1, g2, g3, g4⟩ := hg
  refine ⟨fun j hj => ?_, fun j hj => ?_, ?_, ?_⟩
  · obtain ⟨i, hi, hr, rfl⟩ := gcH_sur hj
    have h1 := gcH_cells (h := h) i hi hr
    rw [cellAt_nat hj, cellAt_nat hi] at h1
    rw [h1]
    have h2 := g1 i hi
    unfold Ce.OkAt at h2
    unfold adj
    rcases h2 with h2 | h2 | h2 | h2
    · rw [if_pos h2.1]
      obtain ⟨k, hk⟩ := Int.eq_ofNat_of_zero_le h2.2.1
      have hlead : Leads h.cells i k := .inl (by rw [cellAt_nat hi]; exact ⟨h2.1, hk⟩)
      have hr2 : Reach h.cells roots k := .step hr hlead
      have := gcH_lt (h := h) (hr2.lt g1) hr2
      refine .inl ⟨h2.1, ?_, ?_, h2.2.2.2⟩
      · simp only [ahead]; omega
      · simp only [ahead, hk, Int.toNat_natCast]; omega
    · rw [if_neg (by omega)]; exact .inr (.inl h2)
    · rw [if_neg (by omega)]; exact .inr (.inr (.inl h2))
    · rw [if_neg (by omega)]
      refine .inr (.inr (.inr ⟨h2.1, h2.2.1, h2.2.2.1, ?_, h2.2.2.2.2⟩))
      obtain ⟨k, hk⟩ := Int.eq_ofNat_of_zero_le (show 0 ≤ h.cells[i].n by omega)
      obtain ⟨a1, a2⟩ := gcH_args (h := h) g1 hi hr (by rw [cellAt_nat hi]; exact h2.1) (k - 1) (by rw [cellAt_nat hi]; omega)
      obtain ⟨b1, b2⟩ := gcH_args (h := h) g1 hi hr (by rw [cellAt_nat hi]; exact h2.1) k (by rw [cellAt_nat hi]; omega)
      have hr2 := b2 (by omega)
      have := gcH_lt (h := h) (hr2.lt g1) hr2
      rw [show i + k = i + 1 + (k - 1) by omega, a1] at this
      omega
  · obtain ⟨i, hi, hm, hc⟩ := cnt_sur h.trail.length j (by rw [← colT_len]; exact hj)
    have h1 := colT_get (marks h.cells roots) h.trail h.trail.length i hi hm
    rw [hc] at h1
    have h2 : (gcH h roots).trail[j]? = some ((gcH h roots).trail[j]) := List.getElem?_eq_getElem hj
    have h3 : (gcH h roots).trail[j]? = some (ahead (marks h.cells roots) ((h.trail[i]?).getD 0)) := h1
    rw [h3] at h2
    simp only [Option.some.injEq] at h2
    obtain ⟨v, hv, hvl, hk⟩ := g2 i hi
    rw [List.getElem?_eq_getElem hi, Option.getD_some, hv] at h2
    simp only [trailM, List.getElem?_map, List.getElem?_eq_getElem hi, Option.map_some, hv, Int.toNat_natCast, Option.some.injEq] at hm
    have hr : Reach h.cells roots v := by
      refine (marks_get hvl).1 ?_
      rw [List.getElem?_eq_getElem (by rw [marks_len]; exact hvl)] at hm ⊢
      rw [Option.getD_some] at hm
      rw [hm]
    refine ⟨cnt (marks h.cells roots) v, h2.symm, gcH_lt hvl hr, ?_⟩
    have h4 := gcH_cells (h := h) v hvl hr
    rw [cellAt_nat (gcH_lt hvl hr), cellAt_nat hvl] at h4
    rw [h4]
    unfold adj
    rw [if_pos hk]
    exact hk
  · show (colC _ _ _).length ≤ _
    rw [colC_len]
    have := cnt_le (marks h.cells roots) h.cells.length
    omega
  · show (colT _ _ _).length ≤ _
    rw [colT_len]
    have := cnt_le (trailM (marks h.cells roots) h.trail) h.trail.length
    omega

/-- in it all is reached -/
theorem gcH_reach (hg : GoodC h.cells) {i : Nat} (hr : Reach h.cells roots i) : Reach (gcH h roots).cells (roots.map (ahead (marks h.cells roots))) (cnt (marks h.cells roots) i) := by
  induction hr with
  | @root i h1 h2 =>
    refine .root ?_ (gcH_lt h2 (.root h1 h2))
    exact List.mem_map.2 ⟨i, h1, by simp [ahead]⟩
  | @step i j hr hl ih =>
    have hi := hr.lt hg
    refine .step ih ?_
    have h1 := gcH_cells (h := h) i hi hr
    rcases hl with ⟨k1, k2⟩ | ⟨k1, k2, k3⟩
    · refine .inl ?_
      rw [h1, adj, if_pos k1]
      exact ⟨k1, by simp only [ahead, k2, Int.toNat_natCast]⟩
    · refine .inr ?_
      rw [h1, adj, if_neg (by omega)]
      obtain ⟨a1, _⟩ := gcH_args (h := h) hg hi hr k1 (j - i - 1) (by omega)
      rw [show i + 1 + (j - i - 1) = j by omega] at a1
      exact ⟨k1, by omega, by omega⟩

theorem cnt_all {m : List Bool} : ∀ (k : Nat), (∀ i, i < k → m[i]? = some true) → cnt m k = k
  | 0, _ => rfl
  | k + 1, h => by rw [cnt, if_pos (h k (by omega)), cnt_all k (fun i hi => h i (by omega))]

/-- where all is reached, all is kept as it is -/
theorem gcH_all (hg : h.Good) (ha : ∀ i, i < h.cells.length → Reach h.cells roots i) : gcH h roots = h := by
  obtain ⟨g1, g2, g3, g4⟩ := hg
  have hm : ∀ i, i < h.cells.length → (marks h.cells roots)[i]? = some true := fun i hi => (marks_get hi).2 (ha i hi)
  have hah : ∀ k : Nat, k ≤ h.cells.length → cnt (marks h.cells roots) k = k := fun k hk => cnt_all k (fun i hi => hm i (by omega))
  have hcs : (gcH h roots).cells = h.cells := by
    apply List.ext_getElem
    · show (colC _ _ _).length = _
      rw [colC_len, hah _ (Nat.le_refl _)]
    · intro i h1 h2
      have h3 := gcH_cells (h := h) i h2 (ha i h2)
      rw [hah i (by omega), cellAt_nat h1, cellAt_nat h2] at h3
      rw [h3]
      unfold adj
      split
      · rename_i hk
        have h4 := g1 i h2
        unfold Ce.OkAt at h4
        obtain ⟨k, hk'⟩ := Int.eq_ofNat_of_zero_le (show 0 ≤ h.cells[i].n by omega)
        have : ahead (marks h.cells roots) h.cells[i].n = h.cells[i].n := by
          rw [hk']
          simp only [ahead, Int.toNat_natCast]
          rw [hah k (by omega)]
        rw [this]
      · rfl
  have hmt : ∀ i, i < h.trail.length → (trailM (marks h.cells roots) h.trail)[i]? = some true := fun i hi => by
    obtain ⟨v, hv, hvl, _⟩ := g2 i hi
    simp [trailM, List.getElem?_eq_getElem hi, hv, hm v hvl]
  have hts : (gcH h roots).trail = h.trail := by
    apply List.ext_getElem
    · show (colT _ _ _).length = _
      rw [colT_len, cnt_all _ hmt]
    · intro i h1 h2
      have h3 := colT_get (marks h.cells roots) h.trail h.trail.length i h2 (hmt i h2)
      rw [cnt_all i (fun j hj => hmt j (by omega))] at h3
      have h4 : (gcH h roots).trail[i]? = some (ahead (marks h.cells roots) ((h.trail[i]?).getD 0)) := h3
      rw [List.getElem?_eq_getElem h1, List.getElem?_eq_getElem h2] at h4
      obtain ⟨v, hv, hvl, _⟩ := g2 i h2
      simp only [Option.getD_some, Option.some.injEq] at h4
      rw [h4, hv]
      simp only [ahead, Int.toNat_natCast]
      rw [hah v (by omega)]
  have e : gcH h roots = ⟨(gcH h roots).cells, (gcH h roots).trail⟩ := rfl
  rw [e, hcs, hts]
end
end Go.Proofs.YtlpmfkpefoegeabDoor
