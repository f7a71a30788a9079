/-
  What collect goes through, step by step: goals that are seen, roots, goals and choices that are turned.
-/
import Derived.Test.YtlpmfkpefoegeabPMCol
namespace Go.Proofs.Ytlpmfkpefoegeab
set_option linter.unusedVariables false
set_option linter.unusedSimpArgs false
def visB (n : Nat) (vis : List Nat) : List Bool := (List.range n).map fun i => decide (i ∈ vis)
theorem visB_len (n : Nat) (vis : List Nat) : (visB n vis).length = n := by simp [visB]
theorem visB_get {n : Nat} {vis : List Nat} {i : Nat} (h : i < (visB n vis).length) : (visB n vis)[i] = decide (i ∈ vis) := by simp [visB]
theorem visB_nil (n : Nat) : visB n [] = List.replicate n false := by
  apply List.ext_getElem (by simp [visB])
  intro i h1 h2
  rw [visB_get, List.getElem_replicate]; simp
theorem visB_set {n : Nat} {vis : List Nat} {i : Nat} : (visB n vis).set i true = visB n (vis ++ [i]) := by
  apply List.ext_getElem (by simp [visB])
  intro j h1 h2
  rw [List.getElem_set, visB_get, visB_get]
  by_cases h : i = j
  · subst h; simp
  · rw [if_neg h]; congr 1; simp; intro e; exact absurd e.symm h
theorem nodup_le : ∀ (n : Nat) (l : List Nat), l.Nodup → (∀ i ∈ l, i < n) → l.length ≤ n
  | 0, l, _, h => by
    cases l with
    | nil => simp
    | cons a r => exact absurd (h a (by simp)) (by omega)
  | n + 1, l, hn, h => by
    have h1 := nodup_le n (l.erase n) (hn.erase n) (fun i hi => by
      have h2 := h i (List.mem_of_mem_erase hi)
      have h3 : i ≠ n := fun e => by rw [e] at hi; exact hn.not_mem_erase hi
      omega)
    rw [List.length_erase] at h1
    split at h1 <;> omega
structure Under (gs : List Gm) (l : List Ce) (T : List Nat) (n : Int) (vis : List Nat) : Prop where
  eq : ∃ k, visitM gs k n vis = T ∧ (0 ≤ n → n.toNat < k)
  lt : ∀ i ∈ vis, i < gs.length
  nd : vis.Nodup
  vis : 0 ≤ n → Vis gs l n.toNat
section
variable {gs : List Gm} {l : List Ce} {T vis : List Nat} {n : Int}
theorem Vis.lt {i : Nat} (h : Vis gs l i) : i < gs.length := by cases h; assumption
theorem visit_pre : ∀ (k : Nat) (n : Int) (vis : List Nat), vis <+: visitM gs k n vis
  | 0, _, vis => by rw [visitM]; exact List.prefix_refl _
  | k + 1, n, vis => by
    rw [visitM]
    split
    · exact List.prefix_refl _
    · exact (List.prefix_append vis _).trans (visit_pre k _ _)
theorem fold_pre : ∀ (ns : List Int) (vis : List Nat), vis <+: ns.foldl (fun vis n => visitM gs (gs.length + 1) n vis) vis
  | [], vis => List.prefix_refl _
  | n :: ns, vis => (visit_pre _ n vis).trans (fold_pre ns _)
theorem Under.start (hl : ∀ i ∈ vis, i < gs.length) (hnd : vis.Nodup) (hv : 0 ≤ n → Vis gs l n.toNat) : Under gs l (visitM gs (gs.length + 1) n vis) n vis :=
  ⟨⟨_, rfl, fun h => by have := (hv h).lt; omega⟩, hl, hnd, hv⟩
theorem nodup_snoc {i : Nat} (h : vis.Nodup) (hm : i ∉ vis) : (vis ++ [i]).Nodup := by
  rw [List.nodup_append]
  exact ⟨h, by simp, fun a ha b hb e => by simp only [List.mem_singleton] at hb; subst hb; subst e; exact hm ha⟩
theorem visit_nd : ∀ (k : Nat) (n : Int) (vis : List Nat), vis.Nodup → (visitM gs k n vis).Nodup
  | 0, _, vis, h => h
  | k + 1, n, vis, h => by
    rw [visitM]
    split
    · exact h
    · rename_i h0
      exact visit_nd k _ _ (nodup_snoc h (fun hm => h0 (.inr hm)))
theorem Under.neg (h : Under gs l T n vis) (hn : n < 0) : T = vis := by
  obtain ⟨k, rfl, -⟩ := h.eq
  cases k with
  | zero => rfl
  | succ k => rw [visitM, if_pos (.inl hn)]
theorem Under.seen (h : Under gs l T n vis) (hn : 0 ≤ n) (hm : n.toNat ∈ vis) : T = vis := by
  obtain ⟨k, rfl, -⟩ := h.eq
  cases k with
  | zero => rfl
  | succ k => rw [visitM, if_pos (.inr hm)]
theorem Under.next (h : Under gs l T n vis) (hn : 0 ≤ n) (hm : n.toNat ∉ vis) : Under gs l T ((gs[n.toNat]?).getD default).next (vis ++ [n.toNat]) := by
  obtain ⟨⟨k, rfl, hk⟩, hl, hnd, hv⟩ := h
  have hk0 := hk hn
  cases k with
  | zero => omega
  | succ k =>
    cases hv hn with
    | mk _ h1 h2 h3 h4 =>
      refine ⟨⟨k, ?_, fun h => by omega⟩, fun i hi => ?_, nodup_snoc hnd hm, h4⟩
      · rw [visitM, if_neg (not_or.2 ⟨by omega, hm⟩)]
      · rcases List.mem_append.1 hi with hi | hi
        · exact hl i hi
        · simp only [List.mem_singleton] at hi; omega
theorem Under.down (h : Under gs l T n vis) (hn : 0 ≤ n) : n.toNat < gs.length ∧ ((gs[n.toNat]?).getD default).next < n := by
  cases h.vis hn with
  | mk _ h1 h2 h3 h4 => exact ⟨h1, by omega⟩
theorem Under.few (h : Under gs l T n vis) : vis.length ≤ gs.length := nodup_le _ _ h.nd h.lt
theorem Under.pre (h : Under gs l T n vis) : vis <+: T := by
  obtain ⟨k, rfl, -⟩ := h.eq
  exact visit_pre _ _ _
theorem Under.tlt (h : Under gs l T n vis) : ∀ i ∈ T, i < gs.length := by
  obtain ⟨⟨k, rfl, hk⟩, hl, hnd, hv⟩ := h
  clear hk hnd
  induction k generalizing n vis with
  | zero => exact hl
  | succ k ih =>
    rw [visitM]
    split
    · exact hl
    · rename_i h0
      have hn : 0 ≤ n := by
        have := fun h => h0 (.inl h)
        omega
      cases hv hn with
      | mk _ h1 h2 h3 h4 =>
        refine ih (fun i hi => ?_) h4
        rcases List.mem_append.1 hi with hi | hi
        · exact hl i hi
        · simp only [List.mem_singleton] at hi; omega
def needTo (gs : List Gm) (ns : List Int) (j : Nat) : List Nat := neededM gs (ns.take j)
theorem needTo_zero (gs : List Gm) (ns : List Int) : needTo gs ns 0 = [] := rfl
theorem needTo_next {ns : List Int} {j : Nat} (hj : j < ns.length) : needTo gs ns (j + 1) = visitM gs (gs.length + 1) ns[j] (needTo gs ns j) := by
  unfold needTo neededM
  rw [List.take_succ_eq_append_getElem hj, List.foldl_append]
  rfl
theorem needTo_pre (gs : List Gm) (ns : List Int) (j : Nat) : needTo gs ns j <+: neededM gs ns := by
  unfold needTo neededM
  conv => rhs; rw [← List.take_append_drop j ns, List.foldl_append]
  exact fold_pre _ _
theorem needTo_all {ns : List Int} {j : Nat} (hj : ns.length ≤ j) : needTo gs ns j = neededM gs ns := by
  unfold needTo; rw [List.take_of_length_le hj]
theorem needTo_nd (ns : List Int) : ∀ j, (needTo gs ns j).Nodup
  | 0 => by rw [needTo_zero]; exact List.nodup_nil
  | j + 1 => by
    by_cases hj : j < ns.length
    · rw [needTo_next hj]
      exact visit_nd _ _ _ (needTo_nd ns j)
    · have e : needTo gs ns (j + 1) = needTo gs ns j := by unfold needTo; rw [List.take_of_length_le (by omega), List.take_of_length_le (by omega)]
      rw [e]; exact needTo_nd ns j
theorem needTo_lt {ns : List Int} (hv : ∀ n ∈ ns, 0 ≤ n → Vis gs l n.toNat) : ∀ j, ∀ i ∈ needTo gs ns j, i < gs.length
  | 0, i, hi => by simp [needTo, neededM] at hi
  | j + 1, i, hi => by
    by_cases hj : j < ns.length
    · rw [needTo_next hj] at hi
      exact (Under.start (l := l) (needTo_lt hv j) (needTo_nd ns j) (hv _ (List.getElem_mem hj))).tlt i hi
    · have e : needTo gs ns (j + 1) = needTo gs ns j := by unfold needTo; rw [List.take_of_length_le (by omega), List.take_of_length_le (by omega)]
      rw [e] at hi
      exact needTo_lt hv j i hi
def rootsTo (q : Nat) (query : Int) (gs : List Gm) (vis : List Nat) : List Int := ((List.range q).map fun v => query + (v : Nat)) ++ vis.map fun i => ((gs[i]?).getD default).at_
theorem rootsTo_len (q : Nat) (query : Int) (gs : List Gm) (vis : List Nat) : (rootsTo q query gs vis).length = q + vis.length := by simp [rootsTo]
theorem rootsTo_next (q : Nat) (query : Int) (gs : List Gm) (vis : List Nat) (i : Nat) : rootsTo q query gs (vis ++ [i]) = rootsTo q query gs vis ++ [((gs[i]?).getD default).at_] := by simp [rootsTo]
def goalsTo (R : List Int) (q : Nat) (vis : List Nat) (gs : List Gm) : List Gm := gs.mapIdx fun i g => if i ∈ vis then { g with at_ := (R[q + vis.idxOf i]?).getD 0 } else g
theorem goalsTo_len (R : List Int) (q : Nat) (vis : List Nat) (gs : List Gm) : (goalsTo R q vis gs).length = gs.length := by simp [goalsTo]
theorem goalsTo_nil (R : List Int) (q : Nat) (gs : List Gm) : goalsTo R q [] gs = gs := by
  apply List.ext_getElem (by simp [goalsTo])
  intro i h1 h2
  simp [goalsTo]
theorem goalsTo_get {R : List Int} {q : Nat} {vis : List Nat} {gs : List Gm} {i : Nat} (h : i < (goalsTo R q vis gs).length) : (goalsTo R q vis gs)[i] = if i ∈ vis then { gs[i]'(by rwa [goalsTo_len] at h) with at_ := (R[q + vis.idxOf i]?).getD 0 } else gs[i]'(by rwa [goalsTo_len] at h) := by simp [goalsTo]
theorem goalsTo_next {R : List Int} {q : Nat} {vis : List Nat} {gs : List Gm} {i : Nat} (h : i < gs.length) : ((goalsTo R q vis gs)[i]'(by rw [goalsTo_len]; exact h)).next = ((gs[i]?).getD default).next := by
  rw [goalsTo_get, List.getElem?_eq_getElem h]
  split <;> rfl
theorem goalsTo_old {R : List Int} {q : Nat} {vis : List Nat} {gs : List Gm} {i : Nat} (h : i < gs.length) (hm : i ∉ vis) : (goalsTo R q vis gs)[i]'(by rw [goalsTo_len]; exact h) = gs[i] := by rw [goalsTo_get, if_neg hm]
theorem goalsTo_step {R : List Int} {q : Nat} {vis : List Nat} {gs : List Gm} {i : Nat} (h : i < gs.length) (hm : i ∉ vis) : (goalsTo R q vis gs).set i ⟨(R[q + vis.length]?).getD 0, gs[i].bar, gs[i].next⟩ = goalsTo R q (vis ++ [i]) gs := by
  apply List.ext_getElem (by simp [goalsTo])
  intro j h1 h2
  rw [List.getElem_set]
  by_cases e : i = j
  · subst e
    rw [if_pos rfl, goalsTo_get, if_pos (by simp)]
    have : (vis ++ [i]).idxOf i = vis.length := by rw [List.idxOf_append, if_neg hm]; simp [List.idxOf_cons]
    rw [this]
  · rw [if_neg e, goalsTo_get, goalsTo_get]
    by_cases e2 : j ∈ vis
    · rw [if_pos e2, if_pos (by simp [e2]), List.idxOf_append, if_pos e2]
    · rw [if_neg e2, if_neg (by simp [e2]; intro h; exact e h.symm)]
def chcTo (tops mks : List Int) (j : Nat) (cs : List Cm) : List Cm := cs.mapIdx fun i x => if i < j then { x with top := ((tops[i]?).getD 0).toNat, trail := ((mks[i]?).getD 0).toNat } else x
theorem chcTo_len (tops mks : List Int) (j : Nat) (cs : List Cm) : (chcTo tops mks j cs).length = cs.length := by simp [chcTo]
theorem chcTo_zero (tops mks : List Int) (cs : List Cm) : chcTo tops mks 0 cs = cs := by
  apply List.ext_getElem (by simp [chcTo])
  intro i h1 h2
  simp [chcTo]
theorem chcTo_all (tops mks : List Int) (cs : List Cm) : chcTo tops mks cs.length cs = cs.mapIdx fun i x => { x with top := ((tops[i]?).getD 0).toNat, trail := ((mks[i]?).getD 0).toNat } := by
  apply List.ext_getElem (by simp [chcTo])
  intro i h1 h2
  simp only [chcTo, List.getElem_mapIdx]
  rw [if_pos (by simpa [chcTo] using h1)]
theorem chcTo_get {tops mks : List Int} {j : Nat} {cs : List Cm} (h : j < cs.length) : (chcTo tops mks j cs)[j]'(by rw [chcTo_len]; exact h) = cs[j] := by
  simp [chcTo]
theorem chcTo_step {tops mks : List Int} {j : Nat} {cs : List Cm} (h : j < cs.length) : (chcTo tops mks j cs).set j { cs[j] with top := ((tops[j]?).getD 0).toNat, trail := ((mks[j]?).getD 0).toNat } = chcTo tops mks (j + 1) cs := by
  apply List.ext_getElem (by simp [chcTo])
  intro i h1 h2
  rw [List.getElem_set]
  simp only [chcTo, List.getElem_mapIdx]
  by_cases e : j = i
  · subst e; rw [if_pos rfl, if_pos (by omega)]
  · rw [if_neg e]
    by_cases e2 : i < j
    · rw [if_pos e2, if_pos (by omega)]
    · rw [if_neg e2, if_neg (by omega)]
end
end Go.Proofs.Ytlpmfkpefoegeab
