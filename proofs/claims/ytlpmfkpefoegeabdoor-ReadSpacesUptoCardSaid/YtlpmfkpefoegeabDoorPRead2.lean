/-
  Reading, in plain data: goals, clauses, programs and queries: the reader and the document's parser come to the same; spaces ahead and behind change nothing.
-/
import Derived.Test.YtlpmfkpefoegeabDoorPRead
import Derived.Test.YtlpmfkpefoegeabDoorQClause2
namespace Go.Proofs.YtlpmfkpefoegeabDoor
set_option linter.unusedVariables false
set_option linter.unusedSimpArgs false
theorem isNameNE {s : ByteArray} (h : IsName s) : s ≠ bs [] := by
  rintro rfl
  rcases h with h | ⟨h, -⟩
  · exact absurd h (by decide +kernel)
  · exact absurd h (by decide +kernel)
theorem ill_bad {v : Int} {t : Tm} (h : Ill t) : ¬ t.Good v := by
  induction h with
  | name k n l h =>
    intro hg
    cases hg with
    | var _ _ _ => omega
    | atom _ h => exact isNameNE h rfl
    | int _ _ _ => omega
    | comp _ _ h => exact isNameNE h rfl
  | arg k n s l t ht h ih =>
    intro hg
    cases hg with
    | var _ _ _ => cases ht
    | atom _ h => cases ht
    | int _ _ _ => cases ht
    | comp _ _ h h1 h2 h3 h4 => exact ih (h4 t ht)
theorem ill_query {v : Int} {l : List Tm} (h : ∃ t ∈ l, Ill t) : ¬ GoodQ l v := by
  rintro ⟨-, -, -, h4⟩
  obtain ⟨t, ht, hi⟩ := h
  exact ill_bad hi (h4 t ht).2.1
def goalsRN (f : Rd → Tm × Rd) : Nat → List Tm → Rd → List Tm × Rd
  | 0, l, r => (l, r)
  | k + 1, l, r => if r.bad then (l, r) else
    if ((f r).2.at_ [44]).1 then goalsRN f k (l ++ [(f r).1]) ((f r).2.at_ [44]).2 else (l ++ [(f r).1], ((f r).2.at_ [44]).2)
def Rd.must (sg : Str) (r : Rd) : Rd := if (r.at_ sg).1 then (r.at_ sg).2 else (r.at_ sg).2.kill
def goalsR (r : Rd) : List Tm × Rd := ((goalsRN (termR 24) (r.s.length + 1) [] r).1, (goalsRN (termR 24) (r.s.length + 1) [] r).2.must [46])
def Ps.must (sg : Str) (p : Ps) : Ps := if p.bad then p else if (p.take sg).1 then (p.take sg).2 else p.kill
def goalsP (p : Ps) : List Tm × Ps :=
  ((argsP (termP 24) ((termP 24 p).2.l.length + 1) [(termP 24 p).1] (termP 24 p).2).1, (argsP (termP 24) ((termP 24 p).2.l.length + 1) [(termP 24 p).1] (termP 24 p).2).2.must [46])
theorem at_badT {sg : Str} {r : Rd} (h : r.bad = true) : (r.at_ sg).2.bad = true := (at_bad r).trans h
theorem must_badT {sg : Str} {r : Rd} (h : r.bad = true) : (r.must sg).bad = true := by
  unfold Rd.must
  split
  · exact at_badT h
  · rfl
theorem goalsRN_bad {f : Rd → Tm × Rd} (k : Nat) (l : List Tm) (r : Rd) (h : r.bad = true) : goalsRN f k l r = (l, r) := by
  cases k with
  | zero => rfl
  | succ k => rw [goalsRN, if_pos h]
theorem goalsR_bad {r : Rd} (h : r.bad = true) : (goalsR r).2.bad = true := by
  unfold goalsR
  simp only
  rw [goalsRN_bad _ _ _ h]
  exact must_badT h
theorem goalsRN_ill {f : Rd → Tm × Rd} : ∀ (k : Nat) (l : List Tm) (r : Rd), (∃ t ∈ l, Ill t) → ∃ t ∈ (goalsRN f k l r).1, Ill t
  | 0, l, r, h => h
  | k + 1, l, r, ⟨t, ht, hi⟩ => by
    rw [goalsRN]
    split
    · exact ⟨t, ht, hi⟩
    · split
      · exact goalsRN_ill k _ _ ⟨t, by simp [ht], hi⟩
      · exact ⟨t, by simp [ht], hi⟩
theorem goalsRN_sim {f : Rd → Tm × Rd} {g : Ps → Tm × Ps} (hfg : ∀ r p, Corr r p → SimT (f r) (g p)) (hlr : ∀ r, (f r).2.s.length ≤ r.s.length) (hlp : ∀ p, (g p).2.l.length ≤ p.l.length) :
    ∀ (k kp : Nat) (l : List Tm) (r : Rd) (p : Ps), Corr r p → r.s.length < k → (g p).2.l.length < kp →
    ((goalsRN f k l r).1 = (argsP g kp (l ++ [(g p).1]) (g p).2).1 ∧ Corr (goalsRN f k l r).2 (argsP g kp (l ++ [(g p).1]) (g p).2).2) ∨
    ((argsP g kp (l ++ [(g p).1]) (g p).2).2.bad = true ∧ ((goalsRN f k l r).2.bad = true ∨ ∃ t ∈ (goalsRN f k l r).1, Ill t))
  | 0, kp, l, r, p, hc, hk, hkp => by omega
  | k + 1, 0, l, r, p, hc, hk, hkp => by omega
  | k + 1, kp + 1, l, r, p, hc, hk, hkp => by
    have eR : goalsRN f (k + 1) l r = if ((f r).2.at_ [44]).1 then goalsRN f k (l ++ [(f r).1]) ((f r).2.at_ [44]).2 else (l ++ [(f r).1], ((f r).2.at_ [44]).2) := by
      rw [goalsRN, if_neg (by rw [hc.rb]; simp)]
    rw [eR]
    rcases hfg r p hc with ⟨he, hc'⟩ | ⟨hb, hd⟩
    · have eP : argsP g (kp + 1) (l ++ [(g p).1]) (g p).2 = if ((g p).2.take [44]).1 = false then (l ++ [(g p).1], (g p).2) else argsP g kp ((l ++ [(g p).1]) ++ [(g ((g p).2.take [44]).2).1]) (g ((g p).2.take [44]).2).2 := by
        rw [argsP, if_neg (by rw [hc'.pb]; simp)]
      rw [eP]
      obtain ⟨e1, hc2⟩ := take_corr comma hc'
      have hlt := at_len (sg := [44]) (f r).2
      have hl0 := hlr r
      rw [e1]
      cases ha : ((f r).2.at_ [44]).1 with
      | false =>
        simp only [if_true, Bool.false_eq_true, if_false]
        refine .inl ⟨by rw [he], ?_⟩
        have h9 := take_same (e1.trans ha)
        rw [h9] at hc2
        exact hc2
      | true =>
        simp only [if_true, Bool.true_eq_false, if_false]
        rw [he]
        have h5 := hlt.2 ha
        simp only [List.length_singleton] at h5
        have h6 := (take_len (sg := [44]) (g p).2).2 (e1.trans ha)
        have h7 := hlp ((g p).2.take [44]).2
        exact goalsRN_sim hfg hlr hlp k kp (l ++ [(g p).1]) _ _ hc2 (by omega) (by omega)
    · right
      rw [argsP, if_pos hb]
      refine ⟨hb, ?_⟩
      rcases hd with hd | hd
      · left
        split
        · rw [goalsRN_bad _ _ _ (at_badT hd)]; exact at_badT hd
        · exact at_badT hd
      · right
        split
        · exact goalsRN_ill k _ _ ⟨_, by simp, hd⟩
        · exact ⟨_, by simp, hd⟩
theorem must_sim {sg : Str} (hs : IsSign sg) {r : Rd} {p : Ps} (h : Corr r p) : Corr (r.must sg) (p.must sg) ∨ ((p.must sg).bad = true ∧ (r.must sg).bad = true) := by
  obtain ⟨e1, hc⟩ := take_corr hs h
  unfold Rd.must Ps.must
  rw [if_neg (show ¬ p.bad = true by rw [h.pb]; simp), e1]
  split
  · exact .inl hc
  · exact .inr ⟨rfl, rfl⟩
theorem mustP_bad {sg : Str} {p : Ps} (h : p.bad = true) : (p.must sg).bad = true := by unfold Ps.must; rw [if_pos h]; exact h
def SimL (x : List Tm × Rd) (y : List Tm × Ps) : Prop := (x.1 = y.1 ∧ Corr x.2 y.2) ∨ (y.2.bad = true ∧ (x.2.bad = true ∨ ∃ t ∈ x.1, Ill t))
theorem goals_sim {r : Rd} {p : Ps} (h : Corr r p) : SimL (goalsR r) (goalsP p) := by
  unfold goalsR goalsP SimL
  simp only
  have h0 := goalsRN_sim (term_sim 24) (term_len 24) (termP_len 24) (r.s.length + 1) ((termP 24 p).2.l.length + 1) [] r p h (by omega) (by omega)
  rw [List.nil_append] at h0
  rcases h0 with ⟨h1, h2⟩ | ⟨h1, h2⟩
  · rcases must_sim dot h2 with h3 | ⟨h3, h4⟩
    · exact .inl ⟨h1, h3⟩
    · exact .inr ⟨h3, .inl h4⟩
  · exact .inr ⟨mustP_bad h1, h2.imp must_badT id⟩
def clauseR (r : Rd) : Cl × Rd :=
  let h := termR 24 { r with vars := [] }
  if (h.2.at_ [58, 45]).1 then (⟨h.1, (goalsR (h.2.at_ [58, 45]).2).1, ((goalsR (h.2.at_ [58, 45]).2).2.vars.length : Nat)⟩, (goalsR (h.2.at_ [58, 45]).2).2)
  else (⟨h.1, [], (((h.2.at_ [58, 45]).2.must [46]).vars.length : Nat)⟩, (h.2.at_ [58, 45]).2.must [46])
def clauseP (p : Ps) : Cl × Ps :=
  let h := termP 24 { p with vars := [] }
  if h.2.bad = false ∧ (h.2.take [58, 45]).1 = true then (⟨h.1, (goalsP (h.2.take [58, 45]).2).1, ((goalsP (h.2.take [58, 45]).2).2.vars.length : Nat)⟩, (goalsP (h.2.take [58, 45]).2).2)
  else (⟨h.1, [], ((h.2.must [46]).vars.length : Nat)⟩, h.2.must [46])
def SimC (x : Cl × Rd) (y : Cl × Ps) : Prop := (x.1 = y.1 ∧ Corr x.2 y.2) ∨ (y.2.bad = true ∧ (x.2.bad = true ∨ ¬ x.1.Good))
theorem clause_sim {r : Rd} {p : Ps} (h : Corr r p) : SimC (clauseR r) (clauseP p) := by
  unfold clauseR clauseP SimC
  simp only
  have h0 : Corr { r with vars := [] } { p with vars := [] } := ⟨h.rb, h.pb, rfl, h.l⟩
  rcases term_sim 24 _ _ h0 with ⟨h1, h2⟩ | ⟨h1, h2⟩
  · generalize termR 24 { r with vars := [] } = X at *
    generalize termP 24 { p with vars := [] } = Y at *
    obtain ⟨e1, hc⟩ := take_corr neck h2
    rw [e1]
    by_cases ha : (X.2.at_ [58, 45]).1 = true
    · rw [if_pos ha, if_pos ⟨h2.pb, ha⟩]
      rcases goals_sim hc with ⟨h3, h4⟩ | ⟨h3, h4⟩
      · exact .inl ⟨by rw [h1, h3, h4.vars], h4⟩
      · refine .inr ⟨h3, h4.imp id fun h4 => fun hg => ?_⟩
        exact ill_query h4 hg.1
    · rw [if_neg ha, if_neg (fun e => ha e.2)]
      rw [take_same (e1.trans (by simpa using ha))] at hc
      rcases must_sim dot hc with h3 | ⟨h3, h4⟩
      · exact .inl ⟨by rw [h1, h3.vars], h3⟩
      · exact .inr ⟨h3, .inl h4⟩
  · generalize termR 24 { r with vars := [] } = X at *
    generalize termP 24 { p with vars := [] } = Y at *
    rw [if_neg (show ¬ (Y.2.bad = false ∧ (Y.2.take [58, 45]).1 = true) from fun e => by rw [h1] at e; cases e.1)]
    refine .inr ⟨mustP_bad h1, ?_⟩
    rcases h2 with h2 | h2
    · left
      split
      · exact goalsR_bad (at_badT h2)
      · exact must_badT (at_badT h2)
    · right
      split
      · exact fun hg => ill_bad h2 hg.2.2.1.1
      · exact fun hg => ill_bad h2 hg.2.2.1.1
/-! programs -/
section
open Classical
noncomputable def progR : Nat → List Cl → Rd → Option (List Cl)
  | 0, l, _ => some l
  | k + 1, l, r => if r.space.s = [] then some l else if (clauseR r.space).2.bad = true ∨ ¬ (clauseR r.space).1.Good then none else progR k (l ++ [(clauseR r.space).1]) (clauseR r.space).2
noncomputable def progP : Nat → List Cl → Ps → Option (List Cl)
  | 0, l, _ => some l
  | k + 1, l, p => if p.l = [] then some l else if (clauseP p).2.bad = true ∨ ¬ (clauseP p).1.Good then none else progP k (l ++ [(clauseP p).1]) (clauseP p).2
def progE : Option (List Cl) → List Cl × Int
  | none => ([], 1)
  | some l => if l.length > 24 then ([], 3) else (l, 0)
noncomputable def readR (s : Str) : List Cl × Int := if s.length > 2000 then ([], 3) else progE (progR (s.length + 1) [] ⟨s, [], false⟩)
noncomputable def readP (s : Str) : List Cl × Int := if s.length > 2000 then ([], 3) else progE (progP ((words s).length + 1) [] ⟨words s, [], false⟩)
end
/-! what is consumed -/
theorem must_len {sg : Str} (r : Rd) : (r.must sg).s.length ≤ r.s.length ∧ ((r.must sg).bad = false → (r.must sg).s.length + sg.length ≤ r.s.length) := by
  unfold Rd.must
  have h := at_len (sg := sg) r
  split
  · rename_i ha; exact ⟨h.1, fun _ => h.2 ha⟩
  · exact ⟨h.1, fun e => by cases e⟩
theorem mustP_len {sg : Str} (p : Ps) : (p.must sg).l.length ≤ p.l.length ∧ ((p.must sg).bad = false → (p.must sg).l.length < p.l.length) := by
  unfold Ps.must
  have h := take_len (sg := sg) p
  split
  · rename_i hb; exact ⟨Nat.le_refl _, fun e => by rw [hb] at e; cases e⟩
  · split
    · rename_i ha; exact ⟨h.1, fun _ => h.2 ha⟩
    · exact ⟨Nat.le_refl _, fun e => by cases e⟩
theorem goalsRN_len {f : Rd → Tm × Rd} (hf : ∀ r, (f r).2.s.length ≤ r.s.length) : ∀ (k : Nat) (l : List Tm) (r : Rd), (goalsRN f k l r).2.s.length ≤ r.s.length
  | 0, l, r => Nat.le_refl _
  | k + 1, l, r => by
    rw [goalsRN]
    have h1 := hf r
    have h2 := (at_len (sg := [44]) (f r).2).1
    split
    · exact Nat.le_refl _
    · split
      · have := goalsRN_len hf k (l ++ [(f r).1]) ((f r).2.at_ [44]).2
        omega
      · simp only; omega
theorem goalsR_len (r : Rd) : (goalsR r).2.s.length ≤ r.s.length := by
  unfold goalsR
  have := goalsRN_len (term_len 24) (r.s.length + 1) [] r
  have := (must_len (sg := [46]) (goalsRN (termR 24) (r.s.length + 1) [] r).2).1
  simp only; omega
theorem clauseR_len (r : Rd) : (clauseR r).2.s.length ≤ r.s.length ∧ ((clauseR r).2.bad = false → (clauseR r).2.s.length < r.s.length) := by
  unfold clauseR
  simp only
  have h1 := term_len 24 { r with vars := [] }
  generalize termR 24 { r with vars := [] } = X at *
  have h2 := at_len (sg := [58, 45]) X.2
  split
  · rename_i ha
    have h3 := goalsR_len (X.2.at_ [58, 45]).2
    have h4 := h2.2 ha
    simp only [List.length_cons, List.length_nil] at h1 h4 ⊢
    exact ⟨by omega, fun _ => by omega⟩
  · have h3 := must_len (sg := [46]) (X.2.at_ [58, 45]).2
    simp only [List.length_cons, List.length_nil] at h1 h3 ⊢
    exact ⟨by omega, fun h => by have := h3.2 h; omega⟩
theorem goalsP_len (p : Ps) : (goalsP p).2.l.length ≤ p.l.length := by
  unfold goalsP
  have h1 := termP_len 24 p
  have h2 := argsP_len (termP_len 24) ((termP 24 p).2.l.length + 1) [(termP 24 p).1] (termP 24 p).2
  have h3 := (mustP_len (sg := [46]) (argsP (termP 24) ((termP 24 p).2.l.length + 1) [(termP 24 p).1] (termP 24 p).2).2).1
  simp only; omega
theorem clauseP_len (p : Ps) : (clauseP p).2.l.length ≤ p.l.length ∧ ((clauseP p).2.bad = false → (clauseP p).2.l.length < p.l.length) := by
  unfold clauseP
  simp only
  have h1 := termP_len 24 { p with vars := [] }
  generalize termP 24 { p with vars := [] } = X at *
  have h2 := take_len (sg := [58, 45]) X.2
  split
  · rename_i ha
    have h3 := goalsP_len (X.2.take [58, 45]).2
    have h4 := h2.2 ha.2
    simp only at h1 ⊢
    exact ⟨by omega, fun _ => by omega⟩
  · have h3 := mustP_len (sg := [46]) X.2
    simp only at h1 ⊢
    exact ⟨by omega, fun h => by have := h3.2 h; omega⟩
theorem prog_sim : ∀ (k kp : Nat) (l : List Cl) (r : Rd) (p : Ps), Corr r p → r.s.length < k → p.l.length < kp → progR k l r = progP kp l p
  | 0, kp, l, r, p, hc, hk, hkp => by omega
  | k + 1, 0, l, r, p, hc, hk, hkp => by omega
  | k + 1, kp + 1, l, r, p, hc, hk, hkp => by
    rw [progR, progP]
    have e0 : (r.space.s = []) = (p.l = []) := by
      rw [hc.l]; exact propext words_eq_nil.symm
    have hcs : Corr r.space p := ⟨hc.rb, hc.pb, hc.vars, by rw [hc.l]; exact (words_space _).symm⟩
    have hsl : r.space.s.length ≤ r.s.length := spaceF_len _
    by_cases h0 : p.l = []
    · rw [if_pos h0, if_pos (by rw [e0]; exact h0)]
    · rw [if_neg h0, if_neg (by rw [e0]; exact h0)]
      rcases clause_sim hcs with ⟨h1, h2⟩ | ⟨h1, h2⟩
      · rw [h1, h2.rb, h2.pb]
        have h3 := (clauseR_len r.space).2 h2.rb
        have h4 := (clauseP_len p).2 h2.pb
        split
        · rfl
        · exact prog_sim k kp _ _ _ h2 (by omega) (by omega)
      · rw [if_pos h2, if_pos (.inl h1)]
theorem read_same (s : Str) : readR s = readP s := by
  unfold readR readP
  split
  · rfl
  · rw [prog_sim (s.length + 1) ((words s).length + 1) [] ⟨s, [], false⟩ ⟨words s, [], false⟩ ⟨rfl, rfl, rfl, rfl⟩ (by simp) (by simp)]
/-! spaces -/
theorem lows_app {s gap : Str} (h : ∀ c ∈ gap, spB c = true) : lows (s ++ gap) = lows s ∧ digs (s ++ gap) = digs s := by
  have hg : ∀ c ∈ gap, lowB c = false ∧ digB c = false := by
    intro c hc
    have hs := h c hc
    obtain ⟨k1, k2, -⟩ := low_num c
    constructor
    · by_cases hl : lowB c = true
      · have := (k1 (by simp [hl])).2.2.2; rw [this] at hs; cases hs
      · simpa using hl
    · by_cases hl : digB c = true
      · have := (k2 (.inr hl)).2.2.2; rw [this] at hs; cases hs
      · simpa using hl
  unfold lows digs
  rw [List.takeWhile_append, List.takeWhile_append]
  have e1 : gap.takeWhile lowB = [] := by cases gap with
    | nil => rfl
    | cons c r => rw [List.takeWhile_cons, (hg c (by simp)).1]; rfl
  have e2 : gap.takeWhile digB = [] := by cases gap with
    | nil => rfl
    | cons c r => rw [List.takeWhile_cons, (hg c (by simp)).2]; rfl
  rw [e1, e2]
  constructor <;> split <;> simp_all
theorem tokLen_app {s gap : Str} {c : UInt8} (h : ∀ c ∈ gap, spB c = true) : tokLen (c :: s ++ gap) = tokLen (c :: s) := by
  obtain ⟨e1, e2⟩ := lows_app (s := s) h
  have e3 : ((s ++ gap).head? = some 45) = (s.head? = some 45) := by
    cases s with
    | cons x r => rfl
    | nil =>
      cases gap with
      | nil => rfl
      | cons x r =>
        refine propext ⟨fun e => ?_, fun e => by cases e⟩
        simp only [List.nil_append, List.head?_cons, Option.some.injEq] at e
        subst e
        exact absurd (h 45 (by simp)) (by decide)
  rw [List.cons_append, tokLen_cons, tokLen_cons, e1, e2]
  by_cases h9 : s.head? = some 45
  · have h8 : (s ++ gap).head? = some 45 := by rw [e3]; exact h9
    simp only [h8, h9]
  · have h8 : ¬ (s ++ gap).head? = some 45 := by rw [e3]; exact h9
    simp only [h8, h9]
theorem tokLen_le (c : UInt8) (s : Str) : tokLen (c :: s) ≤ (c :: s).length := by
  have h1 : lows s ≤ s.length := (List.takeWhile_sublist _).length_le
  have h2 : digs s ≤ s.length := (List.takeWhile_sublist _).length_le
  rw [tokLen_cons, List.length_cons]
  split
  · omega
  · split
    · omega
    · split
      · rename_i h
        cases s with
        | nil => simp at h
        | cons x r => simp only [List.length_cons]; omega
      · split <;> omega
theorem words_gap : ∀ (gap : Str), (∀ c ∈ gap, spB c = true) → words gap = []
  | [], _ => words_nil
  | c :: r, h => by rw [words_sp (h c (by simp))]; exact words_gap r fun c hc => h c (by simp [hc])
theorem words_app {gap : Str} (h : ∀ c ∈ gap, spB c = true) : ∀ (n : Nat) (s : Str), s.length ≤ n → words (s ++ gap) = words s := by
  intro n
  induction n with
  | zero => intro s hs; have : s = [] := List.eq_nil_of_length_eq_zero (by omega); subst this; exact words_gap gap h
  | succ n ih =>
    intro s hs
    cases s with
    | nil => exact words_gap gap h
    | cons c r =>
      simp only [List.length_cons] at hs
      by_cases hc : spB c = true
      · rw [List.cons_append, words_sp hc, words_sp hc]; exact ih r (by omega)
      · have hc' : spB c = false := by simpa using hc
        have et := tokLen_app (s := r) (c := c) h
        have hle := tokLen_le c r
        by_cases h0 : tokLen (c :: r) = 0
        · rw [words_bad hc' h0, List.cons_append, words_bad hc' (by rw [← List.cons_append, et]; exact h0)]
        · rw [words_tok hc' h0, List.cons_append, words_tok hc' (by rw [← List.cons_append, et]; exact h0), ← List.cons_append, et]
          rw [List.take_append_of_le_length hle, List.drop_append_of_le_length hle, ih _ (by simp only [List.length_drop, List.length_cons]; omega)]
theorem words_pre {gap : Str} (h : ∀ c ∈ gap, spB c = true) (s : Str) : words (gap ++ s) = words s := by
  induction gap with
  | nil => rfl
  | cons c r ih => rw [List.cons_append, words_sp (h c (by simp))]; exact ih fun c hc => h c (by simp [hc])
theorem read_spaces {gap p : Str} (h : ∀ c ∈ gap, spB c = true) (hl : p.length + 2 * gap.length ≤ 2000) : readR (gap ++ p ++ gap) = readR p := by
  rw [read_same, read_same]
  unfold readP
  have e : words (gap ++ p ++ gap) = words p := by rw [words_app h _ _ (Nat.le_refl _), words_pre h]
  rw [if_neg (by simp only [List.length_append]; omega), if_neg (by omega), e]
end Go.Proofs.YtlpmfkpefoegeabDoor
