/-
  Reading, in plain data: how much is read.
-/
import Derived.Test.YtlpmfkpefoegeacDoorPRead2
namespace Go.Proofs.YtlpmfkpefoegeacDoor
set_option linter.unusedVariables false
set_option linter.unusedSimpArgs false
theorem args_nodes {f : Rd → Tm × Rd} (hf : ∀ r, (f r).1.nodes + (f r).2.s.length ≤ r.s.length + 1) : ∀ (k : Nat) (l : List Tm) (r : Rd), Tm.nodesL (argsR f k l r).1 + (argsR f k l r).2.s.length ≤ Tm.nodesL l + r.s.length + 1
  | 0, l, r => by rw [argsR]; simp only; omega
  | k + 1, l, r => by
    rw [argsR]
    have h1 := hf r
    have h2 := at_len (sg := [44]) (f r).2
    have h3 : Tm.nodesL (l ++ [(f r).1]) = Tm.nodesL l + (f r).1.nodes := by rw [Tm.nodesL_append]; simp [Tm.nodesL]
    split
    · simp only; omega
    · split
      · rename_i ha
        have h4 := h2.2 ha
        simp only [List.length_singleton] at h4
        have := args_nodes hf k (l ++ [(f r).1]) ((f r).2.at_ [44]).2
        omega
      · simp only; have := h2.1; omega
theorem tail_nodes {f : Rd → Tm × Rd} (hf : ∀ r, (f r).1.nodes + (f r).2.s.length ≤ r.s.length + 1) (w : Str) (r : Rd) : (tailR f w r).1.nodes + (tailR f w r).2.s.length ≤ r.s.length + 1 := by
  unfold tailR
  have h1 := at_len (sg := [40]) r
  split
  · have := h1.1; simp only [Tm.nodes, Tm.nodesL]; omega
  · rename_i ha
    have h2 := h1.2 (by simpa using ha)
    simp only [List.length_singleton] at h2
    simp only
    have h3 := args_nodes hf ((r.at_ [40]).2.s.length + 1) [] (r.at_ [40]).2
    have h4 := (at_len (sg := [41]) (argsR f ((r.at_ [40]).2.s.length + 1) [] (r.at_ [40]).2).2).1
    simp only [Tm.nodesL] at h3
    simp only [Tm.nodes]
    split
    · omega
    · simp only [Rd.kill]; omega
theorem head_nodes {f : Rd → Tm × Rd} (hf : ∀ r, (f r).1.nodes + (f r).2.s.length ≤ r.s.length + 1) (c : UInt8) (rest : Str) (vars : List Str) : (headR f c rest vars).1.nodes + (headR f c rest vars).2.s.length ≤ rest.length + 2 := by
  unfold headR
  split
  · have := drop_le (wordLen (c :: rest)) (c :: rest)
    simp only [List.length_cons] at this
    simp only [Tm.nodes, Tm.nodesL]; omega
  · split
    · simp only [Tm.nodes, Tm.nodesL]; omega
    · split
      · split
        · have := drop_le (numLen (c :: rest)) (c :: rest)
          simp only [List.length_cons] at this
          simp only [Tm.nodes, Tm.nodesL]; omega
        · simp only [Tm.nodes, Tm.nodesL, List.length_cons]; omega
      · have h1 := tail_nodes hf ((c :: rest).take (wordLen (c :: rest))) ⟨(c :: rest).drop (wordLen (c :: rest)), vars, false⟩
        have h2 := drop_le (wordLen (c :: rest)) (c :: rest)
        simp only [List.length_cons] at h1 h2
        omega
theorem term_nodes : ∀ (n : Nat) (r : Rd), (termR n r).1.nodes + (termR n r).2.s.length ≤ r.s.length + 1
  | 0, r => by have := spaceF_len r.s; simp only [termR, tmz, Tm.nodes, Tm.nodesL, Rd.kill, Rd.space]; omega
  | n + 1, r => by
    have h0 := spaceF_len r.s
    have hz : (tmz, r.space.kill).1.nodes + (tmz, r.space.kill).2.s.length ≤ r.s.length + 1 := by simp only [tmz, Tm.nodes, Tm.nodesL, Rd.kill, Rd.space]; omega
    unfold termR
    split
    · exact hz
    · split
      · exact hz
      · rename_i c rest hs
        have := head_nodes (term_nodes n) c rest r.vars
        rw [hs] at h0
        simp only [List.length_cons] at h0
        omega
theorem goalsRN_nodes {f : Rd → Tm × Rd} (hf : ∀ r, (f r).1.nodes + (f r).2.s.length ≤ r.s.length + 1) : ∀ (k : Nat) (l : List Tm) (r : Rd), Tm.nodesL (goalsRN f k l r).1 + (goalsRN f k l r).2.s.length ≤ Tm.nodesL l + r.s.length + 1
  | 0, l, r => by rw [goalsRN]; simp only; omega
  | k + 1, l, r => by
    rw [goalsRN]
    have h1 := hf r
    have h2 := at_len (sg := [44]) (f r).2
    have h3 : Tm.nodesL (l ++ [(f r).1]) = Tm.nodesL l + (f r).1.nodes := by rw [Tm.nodesL_append]; simp [Tm.nodesL]
    split
    · simp only; omega
    · split
      · rename_i ha
        have h4 := h2.2 ha
        simp only [List.length_singleton] at h4
        have := goalsRN_nodes hf k (l ++ [(f r).1]) ((f r).2.at_ [44]).2
        omega
      · simp only; have := h2.1; omega
theorem goalsR_nodes (r : Rd) : Tm.nodesL (goalsR r).1 + (goalsR r).2.s.length ≤ r.s.length + 1 := by
  unfold goalsR
  have h1 := goalsRN_nodes (term_nodes 24) (r.s.length + 1) [] r
  have h2 := (must_len (sg := [46]) (goalsRN (termR 24) (r.s.length + 1) [] r).2).1
  simp only [Tm.nodesL] at h1 ⊢
  omega
theorem clauseR_nodes (r : Rd) : (clauseR r).1.nodes + (clauseR r).2.s.length ≤ r.s.length + 1 ∧ ((clauseR r).2.bad = false → (clauseR r).1.nodes + (clauseR r).2.s.length ≤ r.s.length) := by
  unfold clauseR
  simp only
  have h1 := term_nodes 24 { r with vars := [] }
  generalize termR 24 { r with vars := [] } = X at *
  have h2 := at_len (sg := [58, 45]) X.2
  simp only at h1
  split
  · rename_i ha
    have h3 := goalsR_nodes (X.2.at_ [58, 45]).2
    have h4 := h2.2 ha
    simp only [List.length_cons, List.length_nil] at h4
    simp only [Cl.nodes]
    exact ⟨by omega, fun _ => by omega⟩
  · have h3 := must_len (sg := [46]) (X.2.at_ [58, 45]).2
    have h4 := h2.1
    simp only [List.length_cons, List.length_nil] at h3
    simp only [Cl.nodes, Tm.nodesL]
    exact ⟨by have := h3.1; omega, fun h => by have := h3.2 h; omega⟩
end Go.Proofs.YtlpmfkpefoegeacDoor
