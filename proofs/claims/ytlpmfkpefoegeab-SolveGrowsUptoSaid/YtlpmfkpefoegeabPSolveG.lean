/-
  Plain law of the solver: a clause that nobody asks for changes nothing.
-/
import Derived.Test.YtlpmfkpefoegeabPSolveM
namespace Go.Proofs.Ytlpmfkpefoegeab
set_option linter.unusedVariables false
set_option linter.unusedSimpArgs false

section
variable {P P' : List Cl} {c0 : Cl}

/-- nobody asks for it -/
def NoAsk (c0 : Cl) (gl : List Gl) : Prop := ∀ g ∈ gl, ¬ likeF c0.head g.t

/-- the clauses of P' from k + d on are those of P from k on, and one that nobody asks for -/
structure Grown1 (P P' : List Cl) (c0 : Cl) (d : Nat) : Prop where
  len : P'.length = P.length + 1
  at_ : ∀ k, k < P.length → P'[k + d]? = P[k]?
  rest : ∀ k, k < P'.length → (∃ j, j < P.length ∧ k = j + d) ∨ P'[k]? = some c0
  le : d ≤ 1

theorem grown_back (P : List Cl) (c0 : Cl) : Grown1 P (P ++ [c0]) c0 0 := by
  refine ⟨by simp, fun k hk => by rw [Nat.add_zero, List.getElem?_append_left hk], fun k hk => ?_, by omega⟩
  by_cases h : k < P.length
  · exact .inl ⟨k, h, rfl⟩
  · simp only [List.length_append, List.length_singleton] at hk
    refine .inr ?_
    rw [show k = P.length by omega]
    simp
theorem grown_front (P : List Cl) (c0 : Cl) : Grown1 P (c0 :: P) c0 1 := by
  refine ⟨by simp, fun k hk => by simp, fun k hk => ?_, by omega⟩
  cases k with
  | zero => exact .inr rfl
  | succ k => exact .inl ⟨k, by simpa using hk, rfl⟩

theorem nextF_grown {d : Nat} (h : Grown1 P P' c0 d) {t : Tm} (ht : ¬ likeF c0.head t) : ∀ (n k : Nat), n = P.length - k → k ≤ P.length →
    (nextF P t n k < P.length ∧ nextF P' t (P'.length - (k + d)) (k + d) = nextF P t n k + d) ∨ (nextF P t n k = P.length ∧ nextF P' t (P'.length - (k + d)) (k + d) = P'.length)
  | 0, k, hn, hk => by
    have hk' : k = P.length := by omega
    subst hk'
    refine .inr ⟨rfl, ?_⟩
    have hl := h.len
    have hle := h.le
    rcases Nat.lt_or_ge (P.length + d) P'.length with h1 | h1
    · have h2 : P'.length - (P.length + d) = 0 + 1 := by omega
      rw [h2, nextF]
      rcases h.rest _ h1 with ⟨j, hj, e⟩ | e
      · omega
      · rw [e]
        simp only
        rw [if_neg ht, nextF]; omega
    · have h2 : P'.length - (P.length + d) = 0 := by omega
      rw [h2, nextF]; omega
  | n + 1, k, hn, hk => by
    have hlt : k < P.length := by omega
    have hl := h.len
    have hle := h.le
    have h2 : P'.length - (k + d) = (P'.length - (k + 1 + d)) + 1 := by omega
    have ih := nextF_grown h ht n (k + 1) (by omega) (by omega)
    rw [h2, nextF, nextF, h.at_ k hlt, List.getElem?_eq_getElem hlt]
    simp only
    by_cases hlk : likeF (P[k]).head t
    · rw [if_pos hlk, if_pos hlk]; exact .inl ⟨hlt, rfl⟩
    · rw [if_neg hlk, if_neg hlk, show k + d + 1 = k + 1 + d by omega]; exact ih

/-- with the choices' numbers so much greater -/
def Chc.up (d : Nat) (c : Chc) : Chc := { c with at_ := c.at_ + d }
def Sv.up (d : Nat) (s : Sv) : Sv := { s with choices := s.choices.map (Chc.up d) }

theorem likeF_shift {c t : Tm} {d : Int} : likeF c (shiftF t d) ↔ likeF c t := by
  unfold likeF shiftF
  cases t with
  | mk k n s l => simp only [Tm.ren, Tm.s, Tm.args, Tm.renL_map, List.length_map]

/-- all bodies ask for others -/
def NoAskP (c0 : Cl) (P : List Cl) : Prop := ∀ c ∈ P, ∀ t ∈ c.body, ¬ likeF c0.head t

theorem callF_up {d : Nat} (h : Grown1 P P' c0 d) (hN : NoAskP c0 P) {g : Gl} {rest : List Gl} (hg : NoAsk c0 (g :: rest)) : ∀ (n k : Nat) (s : Sv), n = P.length - k → k ≤ P.length →
    callF P' g rest (P'.length - (k + d)) (k + d) (s.up d) = ((callF P g rest n k s).1, (callF P g rest n k s).2.up d) ∧ (∀ gl, (callF P g rest n k s).1 = .next gl → NoAsk c0 gl) ∧
    (callF P g rest n k s).2.choices = s.choices ∨ callF P' g rest (P'.length - (k + d)) (k + d) (s.up d) = ((callF P g rest n k s).1, (callF P g rest n k s).2.up d) ∧ (∀ gl, (callF P g rest n k s).1 = .next gl → NoAsk c0 gl) ∧
    ∃ x, (callF P g rest n k s).2.choices = x :: s.choices ∧ x.g = g :: rest
  | 0, k, s, hn, hk => by
    have hg0 := hg g (by simp)
    have hk' : k = P.length := by omega
    subst hk'
    have hl := h.len
    have hle := h.le
    refine .inl ⟨?_, by simp [callF], rfl⟩
    rcases Nat.lt_or_ge (P.length + d) P'.length with h1 | h1
    · have h2 : P'.length - (P.length + d) = 0 + 1 := by omega
      rw [h2]
      rcases h.rest _ h1 with ⟨j, hj, e⟩ | e
      · omega
      · rw [callF.eq_def]
        simp only [e]
        rw [if_pos hg0]; rfl
    · have h2 : P'.length - (P.length + d) = 0 := by omega
      rw [h2]; rfl
  | n + 1, k, s, hn, hk => by
    have hlt : k < P.length := by omega
    have hg0 := hg g (by simp)
    have hl := h.len
    have hle := h.le
    have h2 : P'.length - (k + d) = (P'.length - (k + 1 + d)) + 1 := by omega
    have ih := callF_up h hN hg n (k + 1) s (by omega) (by omega)
    have hx := nextF_grown h hg0 (P.length - (k + 1)) (k + 1) rfl (by omega)
    rw [h2, callF, callF, h.at_ k hlt, List.getElem?_eq_getElem hlt]
    simp only
    rw [show k + d + 1 = k + 1 + d by omega]
    have e1 : (s.up d).vars = s.vars := rfl
    have e2 : (s.up d).env = s.env := rfl
    have e3 : (s.up d).choices = s.choices.map (Chc.up d) := rfl
    rw [e1, e2, e3]
    by_cases h1 : ¬ likeF (P[k]).head g.t
    · rw [if_pos h1, if_pos h1]; exact ih
    · rw [if_neg h1, if_neg h1]
      by_cases h3 : (uniS 400 [(shiftF (P[k]).head s.vars, g.t)] s.env).work < 0
      · rw [if_pos h3, if_pos h3]; exact .inl ⟨rfl, by simp, rfl⟩
      · rw [if_neg h3, if_neg h3]
        by_cases h4 : (uniS 400 [(shiftF (P[k]).head s.vars, g.t)] s.env).ok = false
        · rw [if_pos h4, if_pos h4]; exact ih
        · rw [if_neg h4, if_neg h4]
          have hb : ∀ gl, (Res.next (bodyF s.choices.length s.vars (P[k]).body rest) : Res) = .next gl → NoAsk c0 gl := by
            intro gl e
            simp only [Res.next.injEq] at e
            subst e
            intro x hx
            simp only [bodyF, List.mem_append, List.mem_map] at hx
            rcases hx with ⟨t, ht, rfl⟩ | hx
            · simp only; rw [likeF_shift]; exact hN _ (List.getElem_mem hlt) t ht
            · exact hg x (by simp [hx])
          rcases hx with ⟨hx1, hx2⟩ | ⟨hx1, hx2⟩
          · have hx3 : nextF P' g.t (P'.length - (k + 1 + d)) (k + 1 + d) < P'.length := by omega
            rw [if_pos hx1, if_pos hx3, hx2]
            refine .inr ⟨?_, hb, _, rfl, rfl⟩
            simp only [List.length_map, Sv.up, List.map_cons, Chc.up]
          · rw [if_neg (by omega), if_neg (by omega)]
            refine .inl ⟨?_, hb, rfl⟩
            simp only [List.length_map, Sv.up]

theorem backF_up {d : Nat} (h : Grown1 P P' c0 d) (hN : NoAskP c0 P) : ∀ (cs : List Chc) (s : Sv), (∀ c ∈ cs, NoAsk c0 c.g ∧ c.at_ ≤ P.length) →
    backF P' (cs.map (Chc.up d)) (s.up d) = ((backF P cs s).1, (backF P cs s).2.up d) ∧ (∀ gl, (backF P cs s).1 = .next gl → NoAsk c0 gl ∧ ∀ c ∈ (backF P cs s).2.choices, NoAsk c0 c.g)
  | [], s, hc => ⟨rfl, by simp [backF]⟩
  | c :: cs, s, hc => by
    obtain ⟨h1, h2⟩ := hc c (by simp)
    have hcs := fun x hx => hc x (List.mem_cons_of_mem _ hx)
    rw [List.map_cons, backF, backF]
    cases hg : c.g with
    | nil =>
      have e : (Chc.up d c).g = [] := hg
      rw [e]
      exact ⟨rfl, by simp⟩
    | cons g rest =>
      have e : (Chc.up d c).g = g :: rest := hg
      rw [e]
      simp only
      rw [hg] at h1
      have key := callF_up h hN h1 (P.length - c.at_) c.at_ { s with choices := cs, env := s.env.take c.trail } rfl h2
      have es : (Sv.up d { s with choices := cs, env := s.env.take c.trail }) = { s.up d with choices := cs.map (Chc.up d), env := (s.up d).env.take (Chc.up d c).trail } := rfl
      have e4 : (Chc.up d c).at_ = c.at_ + d := rfl
      rw [← es, e4]
      have key1 : callF P' g rest (P'.length - (c.at_ + d)) (c.at_ + d) (Sv.up d { s with choices := cs, env := s.env.take c.trail }) = ((callF P g rest (P.length - c.at_) c.at_ { s with choices := cs, env := s.env.take c.trail }).1, (callF P g rest (P.length - c.at_) c.at_ { s with choices := cs, env := s.env.take c.trail }).2.up d) := key.elim (·.1) (·.1)
      have key2 : (∀ gl, (callF P g rest (P.length - c.at_) c.at_ { s with choices := cs, env := s.env.take c.trail }).1 = .next gl → NoAsk c0 gl) := key.elim (·.2.1) (·.2.1)
      have key3 : ∀ x ∈ (callF P g rest (P.length - c.at_) c.at_ { s with choices := cs, env := s.env.take c.trail }).2.choices, NoAsk c0 x.g := by
        rcases key with ⟨_, _, e⟩ | ⟨_, _, y, e, ey⟩
        · rw [e]; exact fun x hx => (hcs x hx).1
        · rw [e]
          intro x hx
          rcases List.mem_cons.1 hx with rfl | hx
          · rw [ey]; exact h1
          · exact (hcs x hx).1
      rw [key1]
      cases he : callF P g rest (P.length - c.at_) c.at_ { s with choices := cs, env := s.env.take c.trail } with
      | mk r s2 =>
        rw [he] at key2 key3
        cases r with
        | next gl => exact ⟨rfl, fun gl' e => ⟨key2 gl' e, key3⟩⟩
        | off => exact ⟨rfl, by simp⟩
        | no => exact backF_up h hN cs s2 hcs

theorem knownF_up {g : Gl} (d : Nat) (s : Sv) : knownF g (s.up d) = ((knownF g s).1, (knownF g s).2.up d) := by
  have e2 : (s.up d).env = s.env := rfl
  have e3 : (s.up d).choices.length = s.choices.length := by simp [Sv.up]
  unfold knownF
  rw [e2, e3]
  repeat' split
  all_goals first | rfl | (simp only [Sv.up, List.map_drop]; done) | (simp only; split <;> first | rfl | (split <;> first | rfl | (split <;> rfl)))

theorem knownF_chc {g : Gl} {s s' : Sv} {r : Option Bool} (h : knownF g s = (r, s')) : ∀ c ∈ s'.choices, c ∈ s.choices := by
  unfold knownF at h
  simp only at h
  repeat' split at h
  all_goals
    simp only [Prod.mk.injEq] at h
    obtain ⟨rfl, rfl⟩ := h
    intro c hc
    first | exact List.mem_of_mem_drop hc | exact hc

theorem stepF_up {d : Nat} (h : Grown1 P P' c0 d) (hN : NoAskP c0 P) {g : Gl} {rest : List Gl} (hg : NoAsk c0 (g :: rest)) (s : Sv) (hc : ∀ c ∈ s.choices, NoAsk c0 c.g ∧ c.at_ ≤ P.length) :
    stepF P' g rest (s.up d) = ((stepF P g rest s).1, (stepF P g rest s).2.up d) ∧ (∀ gl, (stepF P g rest s).1 = .next gl → NoAsk c0 gl ∧ ∀ c ∈ (stepF P g rest s).2.choices, NoAsk c0 c.g) := by
  have hrest : NoAsk c0 rest := fun x hx => hg x (by simp [hx])
  have hg0 := hg g (by simp)
  unfold stepF
  have ef : (s.up d).fuel = s.fuel := rfl
  rw [ef]
  by_cases hf : s.fuel = 0
  · rw [if_pos hf, if_pos hf]; exact ⟨rfl, by simp⟩
  · rw [if_neg hf, if_neg hf]
    simp only
    have e1 : ({ s.up d with fuel := s.fuel - 1 } : Sv) = Sv.up d { s with fuel := s.fuel - 1 } := rfl
    rw [e1]
    have hc1 : ∀ c ∈ ({ s with fuel := s.fuel - 1 } : Sv).choices, NoAsk c0 c.g ∧ c.at_ ≤ P.length := hc
    generalize ({ s with fuel := s.fuel - 1 } : Sv) = s1 at *
    rw [knownF_up]
    split
    · rename_i hk
      cases he : knownF g s1 with
      | mk r s2 =>
        have hm := knownF_chc he
        cases r with
        | none => exact ⟨rfl, by simp⟩
        | some b =>
          cases b with
          | true => exact ⟨rfl, fun gl e => by simp only [Res.next.injEq] at e; subst e; exact ⟨hrest, fun c hc => (hc1 c (hm c hc)).1⟩⟩
          | false => exact backF_up h hN s2.choices s2 fun c hc => hc1 c (hm c hc)
    · have hany : (∀ c ∈ P', ¬ likeF c.head g.t) ↔ ∀ c ∈ P, ¬ likeF c.head g.t := by
        constructor
        · intro h1 c hcm
          obtain ⟨k, hk, rfl⟩ := List.mem_iff_getElem.1 hcm
          have := h.at_ k hk
          rw [List.getElem?_eq_getElem hk] at this
          exact h1 _ (List.mem_of_getElem? this)
        · intro h1 c hcm
          obtain ⟨k, hk, rfl⟩ := List.mem_iff_getElem.1 hcm
          rcases h.rest k hk with ⟨j, hj, rfl⟩ | e
          · have := h.at_ j hj
            rw [List.getElem?_eq_getElem hk] at this
            exact h1 _ (List.mem_of_getElem? this.symm)
          · rw [List.getElem?_eq_getElem hk] at e
            simp only [Option.some.injEq] at e
            rw [e]; exact hg0
      by_cases h1 : ∀ c ∈ P, ¬ likeF c.head g.t
      · rw [if_pos h1, if_pos (hany.2 h1)]; exact ⟨rfl, by simp⟩
      · rw [if_neg h1, if_neg (fun e => h1 (hany.1 e))]
        have hfst : callF P' g rest P'.length 0 (s1.up d) = callF P' g rest (P'.length - (0 + d)) (0 + d) (s1.up d) := by
          have hle := h.le
          have hl := h.len
          by_cases hd : d = 0
          · subst hd; rfl
          · have hd1 : d = 1 := by omega
            subst hd1
            rw [show P'.length = P.length + 1 by omega, callF]
            rcases h.rest 0 (by omega) with ⟨j, hj, e⟩ | e
            · omega
            · rw [e]; simp only; rw [if_pos hg0]; rfl
        rw [hfst]
        have key := callF_up h hN hg P.length 0 s1 (by omega) (by omega)
        have key1 : callF P' g rest (P'.length - (0 + d)) (0 + d) (s1.up d) = ((callF P g rest P.length 0 s1).1, (callF P g rest P.length 0 s1).2.up d) := key.elim (·.1) (·.1)
        have key2 : (∀ gl, (callF P g rest P.length 0 s1).1 = .next gl → NoAsk c0 gl) := key.elim (·.2.1) (·.2.1)
        have key3 : ∀ x ∈ (callF P g rest P.length 0 s1).2.choices, NoAsk c0 x.g := by
          rcases key with ⟨_, _, e⟩ | ⟨_, _, y, e, ey⟩
          · rw [e]; exact fun x hx => (hc1 x hx).1
          · rw [e]
            intro x hx
            rcases List.mem_cons.1 hx with rfl | hx
            · rw [ey]; exact hg
            · exact (hc1 x hx).1
        rw [key1]
        cases he : callF P g rest P.length 0 s1 with
        | mk r s2 =>
          rw [he] at key2 key3
          cases r with
          | next gl => exact ⟨rfl, fun gl' e => ⟨key2 gl' e, key3⟩⟩
          | off => exact ⟨rfl, by simp⟩
          | no =>
            have := callF_no _ _ _ _ he
            subst this
            exact backF_up h hN s2.choices s2 hc1

theorem answerF_up (q d : Nat) (s : Sv) : answerF q (s.up d) = ((answerF q s).1, (answerF q s).2.up d) := by
  have e2 : (s.up d).env = s.env := rfl
  unfold answerF
  rw [e2]
  split
  · rfl
  · simp only
    split <;> rename_i h
    · rw [if_pos (show (s.out ++ _).length ≥ 12 from h)]; rfl
    · rw [if_neg (show ¬ (s.out ++ _).length ≥ 12 from h)]; rfl

theorem runF_up {d : Nat} (h : Grown1 P P' c0 d) (hN : NoAskP c0 P) (q : Nat) : ∀ (n : Nat) (gl : List Gl) (s : Sv), SvOk P s → GlsOk s.vars gl → (q : Int) ≤ s.vars → NoAsk c0 gl → (∀ c ∈ s.choices, NoAsk c0 c.g) →
    (runF P' q n gl (s.up d)).out = (runF P q n gl s).out
  | 0, gl, s, ho, hg, hq, h1, h2 => rfl
  | n + 1, [], s, ho, hg, hq, h1, h2 => by
    rw [runF, runF, answerF_up]
    cases e : answerF q s with
    | mk b s' =>
      rcases answerF_ok ho.env hq e with ⟨rfl, _⟩ | ⟨l, hl, ⟨rfl, h1, _, h3, h4, h5, h6⟩ | ⟨rfl, _⟩⟩
      · rfl
      · have hs' : SvOk P s' := by
          obtain ⟨a1, a2, a3, a4, a5, a6, a7, a8⟩ := ho
          exact ⟨a1, by rw [h5]; exact a2, by rw [h5, h3]; exact a3, by rw [h4, h5, h3]; exact a4, by rw [h4]; exact a5, by rw [h5, h6, h4]; exact a6, by rw [h3, h6, h4]; exact a7, by rw [h4, h6]; exact a8⟩
        obtain ⟨k1, k2⟩ := backF_up h hN s'.choices s' fun c hc => ⟨h2 c (by rw [← h4]; exact hc), Nat.le_of_lt (hs'.chc c hc).lt⟩
        simp only
        rw [show (s'.up d).choices = s'.choices.map (Chc.up d) from rfl, k1]
        cases e2 : backF P s'.choices s' with
        | mk r s2 =>
          rw [e2] at k2
          cases r with
          | next gl =>
            obtain ⟨b1, b2, b3, b4, hv⟩ := backF_next s'.choices s' s2 gl hs' e2
            obtain ⟨c1, c2⟩ := k2 gl rfl
            exact runF_up h hN q n gl s2 b1 b2 (by omega) c1 c2
          | no => rfl
          | off => rfl
      · rfl
  | n + 1, g :: rest, s, ho, hg, hq, h1, h2 => by
    obtain ⟨k1, k2⟩ := stepF_up h hN h1 s fun c hc => ⟨h2 c hc, Nat.le_of_lt (ho.chc c hc).lt⟩
    rw [runF, runF, k1]
    cases e : stepF P g rest s with
    | mk r s' =>
      rw [e] at k2
      cases r with
      | next gl =>
        obtain ⟨b1, b2, b3, b4, hv⟩ := stepF_next ho hg e
        obtain ⟨c1, c2⟩ := k2 gl rfl
        exact runF_up h hN q n gl s' b1 b2 (by omega) c1 c2
      | no => rfl
      | off => rfl

theorem goodP_grown {d : Nat} (h : Grown1 P P' c0 d) (hP : GoodP P) (h0 : c0.Good) (hl : P.length < 24) : GoodP P' := by
  refine ⟨by rw [h.len]; omega, fun c hc => ?_⟩
  obtain ⟨k, hk, rfl⟩ := List.mem_iff_getElem.1 hc
  rcases h.rest k hk with ⟨j, hj, rfl⟩ | e
  · have := h.at_ j hj
    rw [List.getElem?_eq_getElem hk] at this
    exact hP.2 _ (List.mem_of_getElem? this.symm)
  · rw [List.getElem?_eq_getElem hk] at e
    simp only [Option.some.injEq] at e
    rw [e]; exact h0

/-- a clause that nobody asks for changes nothing -/
theorem solveF_grown {d : Nat} (h : Grown1 P P' c0 d) {Q : List Tm} {vars fuel : Int} (h0 : c0.Good) (hl : P.length < 24) (hN : NoAskP c0 P) (hQ : ∀ t ∈ Q, ¬ likeF c0.head t) (he : (solveF P Q vars fuel).2 = 0) :
    solveF P' Q vars fuel = solveF P Q vars fuel := by
  rcases solveF_cases P Q vars fuel with ⟨hn, e⟩ | ⟨_, hf, e⟩ | ⟨⟨hP, hQg⟩, h3, h4, e⟩
  · rw [e] at he; simp at he
  · rw [e] at he; simp at he
  · rcases solveF_cases P' Q vars fuel with ⟨hn, _⟩ | ⟨_, hf, _⟩ | ⟨_, _, _, e'⟩
    · exact absurd ⟨goodP_grown h hP h0 hl, hQg⟩ hn
    · omega
    · rw [e, e']
      obtain ⟨a1, a2⟩ := start_ok (f := fuel.toNat) hP hQg (by omega)
      have := runF_up h hN vars.toNat (fuel.toNat + 14) _ _ a1 a2 (by have := a1.vars0; simp only at this ⊢; omega) (by
        intro g hg
        obtain ⟨t, ht, rfl⟩ := List.mem_map.1 hg
        exact hQ t ht) (by simp)
      rw [← this]
      rfl
end
end Go.Proofs.Ytlpmfkpefoegeab
