/-
  Plain laws of the solver: with more fuel; with one more clause that nobody asks for.
-/
import Derived.Test.YtlpmfkpefoegeabPSolveE
namespace Go.Proofs.Ytlpmfkpefoegeab
set_option linter.unusedVariables false
set_option linter.unusedSimpArgs false

section
variable {P : List Cl}
/-- with so much more fuel -/
def Sv.more (s : Sv) (m : Nat) : Sv := { s with fuel := s.fuel + m }

theorem callF_more {g : Gl} {rest : List Gl} (m : Nat) : ∀ (n k : Nat) (s : Sv), callF P g rest n k (s.more m) = ((callF P g rest n k s).1, (callF P g rest n k s).2.more m)
  | 0, k, s => rfl
  | n + 1, k, s => by
    have ih := callF_more (g := g) (rest := rest) m n (k + 1) s
    rw [callF, callF]
    cases P[k]? with
    | none => rfl
    | some c =>
      simp only
      by_cases h1 : ¬ likeF c.head g.t
      · rw [if_pos h1, if_pos h1]; exact ih
      · rw [if_neg h1, if_neg h1]
        have e1 : (s.more m).vars = s.vars := rfl
        have e2 : (s.more m).env = s.env := rfl
        rw [e1, e2]
        by_cases h2 : (uniS 400 [(shiftF c.head s.vars, g.t)] s.env).work < 0
        · rw [if_pos h2, if_pos h2]; rfl
        · rw [if_neg h2, if_neg h2]
          by_cases h3 : (uniS 400 [(shiftF c.head s.vars, g.t)] s.env).ok = false
          · rw [if_pos h3, if_pos h3]; exact ih
          · rw [if_neg h3, if_neg h3]; rfl

theorem backF_more (m : Nat) : ∀ (cs : List Chc) (s : Sv), backF P cs (s.more m) = ((backF P cs s).1, (backF P cs s).2.more m)
  | [], s => rfl
  | c :: cs, s => by
    rw [backF, backF]
    cases hg : c.g with
    | nil => rfl
    | cons g rest =>
      simp only
      have h := callF_more (P := P) (g := g) (rest := rest) m (P.length - c.at_) c.at_ { s with choices := cs, env := s.env.take c.trail }
      have e : (Sv.more { s with choices := cs, env := s.env.take c.trail } m) = { s.more m with choices := cs, env := (s.more m).env.take c.trail } := rfl
      rw [← e, h]
      cases hc : callF P g rest (P.length - c.at_) c.at_ { s with choices := cs, env := s.env.take c.trail } with
      | mk r s' =>
        cases r with
        | next gl => rfl
        | off => rfl
        | no => exact backF_more m cs s'

theorem knownF_more (g : Gl) (m : Nat) (s : Sv) : knownF g (s.more m) = ((knownF g s).1, (knownF g s).2.more m) := by
  have e2 : (s.more m).env = s.env := rfl
  unfold knownF
  rw [e2]
  repeat' split
  all_goals first | rfl | (simp only; split <;> first | rfl | (split <;> first | rfl | (split <;> rfl)))

theorem stepF_more (g : Gl) (rest : List Gl) (m : Nat) (s : Sv) (hf : s.fuel ≠ 0) : stepF P g rest (s.more m) = ((stepF P g rest s).1, (stepF P g rest s).2.more m) := by
  unfold stepF
  have e1 : ({ s.more m with fuel := (s.more m).fuel - 1 } : Sv) = Sv.more { s with fuel := s.fuel - 1 } m := by
    simp only [Sv.more]; congr 1; omega
  rw [if_neg hf, if_neg (show ¬ (s.more m).fuel = 0 by unfold Sv.more; simp only; omega)]
  simp only
  rw [e1, knownF_more, callF_more]
  generalize ({ s with fuel := s.fuel - 1 } : Sv) = s1
  split
  · cases knownF g s1 with
    | mk r s2 =>
      cases r with
      | none => rfl
      | some b =>
        cases b with
        | true => rfl
        | false => exact backF_more m s2.choices s2
  · split
    · rfl
    · cases callF P g rest P.length 0 s1 with
      | mk r s2 =>
        cases r with
        | next gl => rfl
        | off => rfl
        | no => exact backF_more m s2.choices s2

theorem answerF_more (q m : Nat) (s : Sv) : answerF q (s.more m) = ((answerF q s).1, (answerF q s).2.more m) := by
  have e2 : (s.more m).env = s.env := rfl
  unfold answerF
  rw [e2]
  split
  · rfl
  · simp only
    split <;> rename_i h
    · rw [if_pos (show (s.out ++ _).length ≥ 12 from h)]; rfl
    · rw [if_neg (show ¬ (s.out ++ _).length ≥ 12 from h)]; rfl

/-- as much, or the same up to where the fuel gave out -/
def MoreOf (a b : List Ev) : Prop := a = b ∨ ∃ o more, a = o ++ [⟨3, []⟩] ∧ b = o ++ more ∧ more ≠ []

theorem runF_more (q m : Nat) : ∀ (n : Nat) (gl : List Gl) (s : Sv), SvOk P s → SvOk P (s.more m) → GlsOk s.vars gl → (q : Int) ≤ s.vars → s.out.length ≤ 11 → s.fuel + 13 ≤ n + s.out.length →
    MoreOf (runF P q n gl s).out (runF P q (n + m) gl (s.more m)).out
  | 0, gl, s, h, h', hg, hq, ho, hn => by omega
  | n + 1, [], s, h, h', hg, hq, ho, hn => by
    rw [show n + 1 + m = (n + m) + 1 by omega, runF, runF, answerF_more]
    cases e : answerF q s with
    | mk b s' =>
      rcases answerF_ok h.env hq e with ⟨rfl, h1⟩ | ⟨l, hl, ⟨rfl, h1, h2, h3, h4, h5, h6⟩ | ⟨rfl, h1, h2⟩⟩
      · exact .inl rfl
      · have hs' : SvOk P s' := by
          obtain ⟨a1, a2, a3, a4, a5, a6, a7, a8⟩ := h
          exact ⟨a1, by rw [h5]; exact a2, by rw [h5, h3]; exact a3, by rw [h4, h5, h3]; exact a4, by rw [h4]; exact a5, by rw [h5, h6, h4]; exact a6, by rw [h3, h6, h4]; exact a7, by rw [h4, h6]; exact a8⟩
        have hs'' : SvOk P (s'.more m) := by
          obtain ⟨a1, a2, a3, a4, a5, a6, a7, a8⟩ := h'
          unfold Sv.more at *
          exact ⟨a1, by rw [h5]; exact a2, by rw [h5, h3]; exact a3, by rw [h4, h5, h3]; exact a4, by rw [h4]; exact a5, by rw [h5, h6, h4]; exact a6, by rw [h3, h6, h4]; exact a7, by rw [h4, h6]; exact a8⟩
        simp only
        rw [show (s'.more m).choices = s'.choices from rfl, backF_more]
        cases e2 : backF P s'.choices s' with
        | mk r s2 =>
          cases r with
          | next gl =>
            obtain ⟨b1, b2, b3, b4, hv⟩ := backF_next s'.choices s' s2 gl hs' e2
            obtain ⟨c1, -⟩ := backF_next s'.choices (s'.more m) (s2.more m) gl hs'' (by rw [backF_more, e2])
            have hlen : s2.out.length = s.out.length + 1 := by rw [b4, h1]; simp
            exact runF_more q m n gl s2 b1 c1 b2 (by omega) (by omega) (by omega)
          | no => exact .inl rfl
          | off => exact .inl rfl
      · exact .inl rfl
  | n + 1, g :: rest, s, h, h', hg, hq, ho, hn => by
    by_cases hf : s.fuel = 0
    · obtain ⟨more, k1, k2⟩ := runF_ends (P := P) q (n + 1 + m) (g :: rest) (s.more m) h' hg hq ho (by unfold Sv.more; simp only; omega)
      refine .inr ⟨s.out, more, ?_, k1, ?_⟩
      · rw [runF, stepF, if_pos hf]; rfl
      · obtain ⟨ans, k, rfl, _⟩ := k2; simp
    · rw [show n + 1 + m = (n + m) + 1 by omega, runF, runF, stepF_more g rest m s hf]
      cases e : stepF P g rest s with
      | mk r s' =>
        cases r with
        | next gl =>
          obtain ⟨b1, b2, b3, b4, hv⟩ := stepF_next h hg e
          obtain ⟨c1, -⟩ := stepF_next (g := g) (rest := rest) (gl := gl) (s := s.more m) (s' := s'.more m) h' hg (by rw [stepF_more g rest m s hf, e])
          exact runF_more q m n gl s' b1 c1 b2 (by omega) (by rw [b4]; exact ho) (by rw [b4]; omega)
        | no => exact .inl rfl
        | off => exact .inl rfl
end

/-- at the start all is in order -/
theorem start_ok {P : List Cl} {Q : List Tm} {vars : Int} {f : Nat} (hP : GoodP P) (hQ : GoodQ Q vars) (hf : f ≤ 150) : SvOk P ⟨[], [], vars, f, []⟩ ∧ GlsOk vars (Q.map fun t => ⟨t, 0⟩) := by
  obtain ⟨h0, h8, h5, hl⟩ := hQ
  refine ⟨⟨hP, h0, EnvOk.nil _, by simp, by simp, ?_, ?_, ?_⟩, ?_⟩
  · simp only [pot, List.map_nil, List.sum_nil]; omega
  · simp only [pot, List.map_nil, List.sum_nil, List.length_nil]; omega
  · simpa using hf
  · intro g hg
    obtain ⟨t, ht, rfl⟩ := List.mem_map.1 hg
    exact ⟨(hl t ht).2.1, by simp⟩

/-- what the solver answers: an error, or answers and one end -/
theorem solveF_cases (P : List Cl) (Q : List Tm) (vars fuel : Int) : (¬ (GoodP P ∧ GoodQ Q vars) ∧ solveF P Q vars fuel = ([], 1)) ∨ ((GoodP P ∧ GoodQ Q vars) ∧ (fuel < 0 ∨ fuel > 150) ∧ solveF P Q vars fuel = ([], 2)) ∨
    ((GoodP P ∧ GoodQ Q vars) ∧ 0 ≤ fuel ∧ fuel ≤ 150 ∧ solveF P Q vars fuel = ((runF P vars.toNat (fuel.toNat + 14) (Q.map fun t => ⟨t, 0⟩) ⟨[], [], vars, fuel.toNat, []⟩).out, 0)) := by
  unfold solveF
  by_cases h : GoodP P ∧ GoodQ Q vars
  · rw [if_neg (by simpa using h)]
    by_cases h2 : fuel < 0 ∨ fuel > 150
    · rw [if_pos h2]; exact .inr (.inl ⟨h, h2, rfl⟩)
    · rw [if_neg h2]; exact .inr (.inr ⟨h, by omega, by omega, rfl⟩)
  · rw [if_pos h]; exact .inl ⟨h, rfl⟩

theorem solveF_ends {P : List Cl} {Q : List Tm} {vars fuel : Int} (h : (solveF P Q vars fuel).2 = 0) : Ends vars.toNat 0 (solveF P Q vars fuel).1 := by
  rcases solveF_cases P Q vars fuel with ⟨_, e⟩ | ⟨_, _, e⟩ | ⟨⟨hP, hQ⟩, h0, h1, e⟩
  · rw [e] at h; simp at h
  · rw [e] at h; simp at h
  · rw [e]
    obtain ⟨a1, a2⟩ := start_ok (f := fuel.toNat) hP hQ (by omega)
    obtain ⟨more, k1, k2⟩ := runF_ends vars.toNat (fuel.toNat + 14) _ _ a1 a2 (by have := a1.vars0; simp only at this ⊢; omega) (by simp) (by simp)
    simp only
    rw [k1]
    simpa using k2

theorem solveF_err {P : List Cl} {Q : List Tm} {vars fuel : Int} (h : (solveF P Q vars fuel).2 ≠ 0) : (solveF P Q vars fuel).1 = [] := by
  rcases solveF_cases P Q vars fuel with ⟨_, e⟩ | ⟨_, _, e⟩ | ⟨⟨hP, hQ⟩, h0, h1, e⟩
  · rw [e]
  · rw [e]
  · rw [e] at h; simp at h

theorem solveF_more {P : List Cl} {Q : List Tm} {vars fuel fuel' : Int} (h0 : 0 ≤ fuel) (h1 : fuel ≤ fuel') (h2 : fuel' ≤ 150) :
    (solveF P Q vars fuel).2 = (solveF P Q vars fuel').2 ∧ ((solveF P Q vars fuel).2 = 0 → MoreOf (solveF P Q vars fuel).1 (solveF P Q vars fuel').1) := by
  rcases solveF_cases P Q vars fuel with ⟨hn, e⟩ | ⟨_, hf, e⟩ | ⟨⟨hP, hQ⟩, h3, h4, e⟩
  · rcases solveF_cases P Q vars fuel' with ⟨_, e'⟩ | ⟨hg, _⟩ | ⟨hg, _⟩
    · rw [e, e']; exact ⟨rfl, fun h => by simp at h⟩
    · exact absurd hg hn
    · exact absurd hg hn
  · omega
  · rcases solveF_cases P Q vars fuel' with ⟨hn, _⟩ | ⟨_, hf, _⟩ | ⟨_, _, _, e'⟩
    · exact absurd ⟨hP, hQ⟩ hn
    · omega
    · rw [e, e']
      refine ⟨rfl, fun _ => ?_⟩
      obtain ⟨m, hm⟩ : ∃ m, fuel'.toNat = fuel.toNat + m := ⟨fuel'.toNat - fuel.toNat, by omega⟩
      obtain ⟨a1, a2⟩ := start_ok (f := fuel.toNat) hP hQ (by omega)
      obtain ⟨b1, -⟩ := start_ok (f := fuel'.toNat) hP hQ (by omega)
      rw [hm] at b1
      have := runF_more vars.toNat m (fuel.toNat + 14) _ _ a1 b1 a2 (by have := a1.vars0; simp only at this ⊢; omega) (by simp) (by simp)
      simp only
      rw [hm, show fuel.toNat + m + 14 = fuel.toNat + 14 + m by omega]
      exact this
end Go.Proofs.Ytlpmfkpefoegeab
