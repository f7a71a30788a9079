/-
  The document's parser, in plain data: how much is parsed; its words are words.
-/
import Derived.Test.YtlpmfkpefoegeacGreatDoorPRead2
namespace Go.Proofs.YtlpmfkpefoegeacGreatDoor
set_option linter.unusedVariables false
set_option linter.unusedSimpArgs false
theorem args_nodes {f : Rd → Tm × Rd} (hf : ∀ r, (f r).1.nodes + (f r).2.s.length ≤ r.s.length + 1) : ∀ (k : Nat) (l : List Tm) (r : Rd), Tm.nodesL (argsR f k l r).1 + (argsR f k l r).2.s.length ≤ Tm.nodesL l + r.s.length + 1
  | 0, l, r => by rw [argsR]; simp only; omega
  | k + 1, l, r => by
    rw [argsR]
    have h1 := hf r
    have h2 := at_len (sg := [44]) (f r).2
    have h3 : Tm.nodesL (l ++ [(f r).1]) = Tm.nodesL l + (f r).1.nodes := by rw [Tm.nodesL_append]; simp [Tm.nodesL]
    split
    · simp only; omega
    · split
      · rename_i ha
        have h4 := h2.2 ha
        simp only [List.length_singleton] at h4
        have := args_nodes hf k (l ++ [(f r).1]) ((f r).2.at_ [44]).2
        omega
      · simp only; have := h2.1; omega
theorem tail_nodes {f : Rd → Tm × Rd} (hf : ∀ r, (f r).1.nodes + (f r).2.s.length ≤ r.s.length + 1) (w : Str) (r : Rd) : (tailR f w r).1.nodes + (tailR f w r).2.s.length ≤ r.s.length + 1 := by
  unfold tailR
  have h1 := at_len (sg := [40]) r
  split
  · have := h1.1; simp only [Tm.nodes, Tm.nodesL]; omega
  · rename_i ha
    have h2 := h1.2 (by simpa using ha)
    simp only [List.length_singleton] at h2
    simp only
    have h3 := args_nodes hf ((r.at_ [40]).2.s.length + 1) [] (r.at_ [40]).2
    have h4 := (at_len (sg := [41]) (argsR f ((r.at_ [40]).2.s.length + 1) [] (r.at_ [40]).2).2).1
    simp only [Tm.nodesL] at h3
    simp only [Tm.nodes]
    split
    · omega
    · simp only [Rd.kill]; omega
theorem head_nodes {f : Rd → Tm × Rd} (hf : ∀ r, (f r).1.nodes + (f r).2.s.length ≤ r.s.length + 1) (c : UInt8) (rest : Str) (vars : List Str) : (headR f c rest vars).1.nodes + (headR f c rest vars).2.s.length ≤ rest.length + 2 := by
  unfold headR
  split
  · have := drop_le (wordLen (c :: rest)) (c :: rest)
    simp only [List.length_cons] at this
    simp only [Tm.nodes, Tm.nodesL]; omega
  · split
    · simp only [Tm.nodes, Tm.nodesL]; omega
    · split
      · split
        · have := drop_le (numLen (c :: rest)) (c :: rest)
          simp only [List.length_cons] at this
          simp only [Tm.nodes, Tm.nodesL]; omega
        · simp only [Tm.nodes, Tm.nodesL, List.length_cons]; omega
      · have h1 := tail_nodes hf ((c :: rest).take (wordLen (c :: rest))) ⟨(c :: rest).drop (wordLen (c :: rest)), vars, false⟩
        have h2 := drop_le (wordLen (c :: rest)) (c :: rest)
        simp only [List.length_cons] at h1 h2
        omega
theorem term_nodes : ∀ (n : Nat) (r : Rd), (termR n r).1.nodes + (termR n r).2.s.length ≤ r.s.length + 1
  | 0, r => by have := spaceF_len r.s; simp only [termR, tmz, Tm.nodes, Tm.nodesL, Rd.kill, Rd.space]; omega
  | n + 1, r => by
    have h0 := spaceF_len r.s
    have hz : (tmz, r.space.kill).1.nodes + (tmz, r.space.kill).2.s.length ≤ r.s.length + 1 := by simp only [tmz, Tm.nodes, Tm.nodesL, Rd.kill, Rd.space]; omega
    unfold termR
    split
    · exact hz
    · split
      · exact hz
      · rename_i c rest hs
        have := head_nodes (term_nodes n) c rest r.vars
        rw [hs] at h0
        simp only [List.length_cons] at h0
        omega
theorem goalsRN_nodes {f : Rd → Tm × Rd} (hf : ∀ r, (f r).1.nodes + (f r).2.s.length ≤ r.s.length + 1) : ∀ (k : Nat) (l : List Tm) (r : Rd), Tm.nodesL (goalsRN f k l r).1 + (goalsRN f k l r).2.s.length ≤ Tm.nodesL l + r.s.length + 1
  | 0, l, r => by rw [goalsRN]; simp only; omega
  | k + 1, l, r => by
    rw [goalsRN]
    have h1 := hf r
    have h2 := at_len (sg := [44]) (f r).2
    have h3 : Tm.nodesL (l ++ [(f r).1]) = Tm.nodesL l + (f r).1.nodes := by rw [Tm.nodesL_append]; simp [Tm.nodesL]
    split
    · simp only; omega
    · split
      · rename_i ha
        have h4 := h2.2 ha
        simp only [List.length_singleton] at h4
        have := goalsRN_nodes hf k (l ++ [(f r).1]) ((f r).2.at_ [44]).2
        omega
      · simp only; have := h2.1; omega
theorem goalsR_nodes (r : Rd) : Tm.nodesL (goalsR r).1 + (goalsR r).2.s.length ≤ r.s.length + 1 := by
  unfold goalsR
  have h1 := goalsRN_nodes (term_nodes 24) (r.s.length + 1) [] r
  have h2 := (must_len (sg := [46]) (goalsRN (termR 24) (r.s.length + 1) [] r).2).1
  simp only [Tm.nodesL] at h1 ⊢
  omega
theorem clauseR_nodes (r : Rd) : (clauseR r).1.nodes + (clauseR r).2.s.length ≤ r.s.length + 1 ∧ ((clauseR r).2.bad = false → (clauseR r).1.nodes + (clauseR r).2.s.length ≤ r.s.length) := by
  unfold clauseR
  simp only
  have h1 := term_nodes 24 { r with vars := [] }
  generalize termR 24 { r with vars := [] } = X at *
  have h2 := at_len (sg := [58, 45]) X.2
  simp only at h1
  split
  · rename_i ha
    have h3 := goalsR_nodes (X.2.at_ [58, 45]).2
    have h4 := h2.2 ha
    simp only [List.length_cons, List.length_nil] at h4
    simp only [Cl.nodes]
    exact ⟨by omega, fun _ => by omega⟩
  · have h3 := must_len (sg := [46]) (X.2.at_ [58, 45]).2
    have h4 := h2.1
    simp only [List.length_cons, List.length_nil] at h3
    simp only [Cl.nodes, Tm.nodesL]
    exact ⟨by have := h3.1; omega, fun h => by have := h3.2 h; omega⟩
theorem argsP_nodes {f : Ps → Tm × Ps} (hf : ∀ p, (f p).1.nodes + (f p).2.l.length ≤ p.l.length + 1) : ∀ (k : Nat) (l : List Tm) (p : Ps), Tm.nodesL (argsP f k l p).1 + (argsP f k l p).2.l.length ≤ Tm.nodesL l + p.l.length
  | 0, l, p => by rw [argsP]; simp only; omega
  | k + 1, l, p => by
    rw [argsP]
    split
    · simp only; omega
    · split
      · simp only; omega
      · rename_i ha
        have h2 := (take_len (sg := [44]) p).2 (by simpa using ha)
        have h1 := hf (p.take [44]).2
        have h3 : Tm.nodesL (l ++ [(f (p.take [44]).2).1]) = Tm.nodesL l + (f (p.take [44]).2).1.nodes := by rw [Tm.nodesL_append]; simp [Tm.nodesL]
        have := argsP_nodes hf k (l ++ [(f (p.take [44]).2).1]) (f (p.take [44]).2).2
        omega
theorem tailP_nodes {f : Ps → Tm × Ps} (hf : ∀ p, (f p).1.nodes + (f p).2.l.length ≤ p.l.length + 1) (w : Str) (p : Ps) : (tailP f w p).1.nodes + (tailP f w p).2.l.length ≤ p.l.length + 1 := by
  unfold tailP
  split
  · simp only [Tm.nodes, Tm.nodesL]; omega
  · rename_i ha
    have h2 := (take_len (sg := [40]) p).2 (by simpa using ha)
    have h1 := hf (p.take [40]).2
    simp only
    have h3 := argsP_nodes hf ((f (p.take [40]).2).2.l.length + 1) [(f (p.take [40]).2).1] (f (p.take [40]).2).2
    have h4 := (take_len (sg := [41]) (argsP f ((f (p.take [40]).2).2.l.length + 1) [(f (p.take [40]).2).1] (f (p.take [40]).2).2).2).1
    simp only [Tm.nodesL] at h3
    simp only [Tm.nodes]
    split
    · omega
    · split
      · omega
      · simp only [Ps.kill]; omega
theorem headP_nodes {f : Ps → Tm × Ps} (hf : ∀ p, (f p).1.nodes + (f p).2.l.length ≤ p.l.length + 1) (c : UInt8) (w : Str) (p : Ps) : (headP f c w p).1.nodes + (headP f c w p).2.l.length ≤ p.l.length + 1 := by
  unfold headP
  split
  · simp only [Tm.nodes, Tm.nodesL]; omega
  · split
    · simp only [Tm.nodes, Tm.nodesL]; omega
    · split
      · split
        · simp only [Tm.nodes, Tm.nodesL]; omega
        · simp only [Tm.nodes, Tm.nodesL, Ps.kill]; omega
      · exact tailP_nodes hf _ _
theorem termP_nodes : ∀ (n : Nat) (p : Ps), (termP n p).1.nodes + (termP n p).2.l.length ≤ p.l.length + 1
  | 0, p => by simp only [termP, tmz, Tm.nodes, Tm.nodesL, Ps.kill]; omega
  | n + 1, p => by
    have hz : (tmz, p.kill).1.nodes + (tmz, p.kill).2.l.length ≤ p.l.length + 1 := by simp only [tmz, Tm.nodes, Tm.nodesL, Ps.kill]; omega
    unfold termP
    split
    · exact hz
    · exact hz
    · rename_i c w l hl
      split
      · exact hz
      · have := headP_nodes (termP_nodes n) c w { p with l := l }
        rw [hl]
        simp only [List.length_cons] at this ⊢
        omega
theorem goalsP_nodes (p : Ps) : Tm.nodesL (goalsP p).1 + (goalsP p).2.l.length ≤ p.l.length + 1 := by
  unfold goalsP
  have h0 := termP_nodes 24 p
  have h1 := argsP_nodes (termP_nodes 24) ((termP 24 p).2.l.length + 1) [(termP 24 p).1] (termP 24 p).2
  have h2 := (mustP_len (sg := [46]) (argsP (termP 24) ((termP 24 p).2.l.length + 1) [(termP 24 p).1] (termP 24 p).2).2).1
  simp only [Tm.nodesL] at h1 ⊢
  omega
theorem take_takeWhile (q : UInt8 → Bool) (r : Str) : r.take (r.takeWhile q).length = r.takeWhile q := by
  have h := List.takeWhile_prefix (p := q) (l := r)
  exact (List.prefix_iff_eq_take.1 h).symm
theorem mem_tw (q : UInt8 → Bool) : ∀ (r : Str) (x : UInt8), x ∈ r.takeWhile q → q x = true
  | [], x, h => by simp at h
  | c :: r, x, h => by
    rw [List.takeWhile_cons] at h
    split at h
    · rename_i hc
      rcases List.mem_cons.1 h with rfl | h
      · exact hc
      · exact mem_tw q r x h
    · simp at h
theorem mem_digs {r : Str} {x : UInt8} (h : x ∈ r.take (digs r)) : digB x = true := by
  unfold digs at h
  rw [take_takeWhile] at h
  exact mem_tw _ _ _ h
end Go.Proofs.YtlpmfkpefoegeacGreatDoor
