/-
  Plain law: the solver of choices and the prover of functions that call one another tell the same.
-/
import Derived.Test.YtlpmfkpefoegeabPSolveM
namespace Go.Proofs.Ytlpmfkpefoegeab
set_option linter.unusedVariables false
set_option linter.unusedSimpArgs false

/-- a goal, and which call its clause belongs to -/
structure Td where
  t : Tm
  call : Nat

/-- the prover at work -/
structure Pv where
  fuel : Nat
  vars : Int
  out : List Ev
  ended : Bool
  calls : Nat
def Pv.put (p : Pv) (kind : Int) : Pv := { p with out := p.out ++ [⟨kind, []⟩], ended := true }

def bodyT (c : Nat) (d : Int) (l : List Tm) (rest : List Td) : List Td := (l.map fun t => (⟨shiftF t d, c⟩ : Td)) ++ rest

/-- the clauses of a goal one after the other -/
def loopR (pr : List Td → Env → Pv → Int × Pv) (t : Tm) (rest : List Td) (E : Env) (call : Nat) : List Cl → Pv → Int × Pv
  | [], p => (-1, p)
  | c :: cs, p =>
    let u := uniS 400 [(shiftF c.head p.vars, t)] E
    if u.work < 0 then (-1, p.put 4)
    else if u.ok = false then loopR pr t rest E call cs p
    else
      let r := pr (bodyT call p.vars c.body rest) u.env { p with vars := p.vars + c.vars }
      if r.2.ended = true then (-1, r.2)
      else if r.1 = call then (-1, r.2)
      else if r.1 ≥ 0 then r
      else loopR pr t rest E call cs r.2

/-- a goal that everybody knows -/
noncomputable def simpleR (pr : List Td → Env → Pv → Int × Pv) (g : Td) (rest : List Td) (E : Env) (p : Pv) : Int × Pv :=
  if g.t.s.toList = [33] then
    let r := pr rest E p
    if r.1 ≥ 0 ∧ r.1 < g.call then r else ((g.call : Int), r.2)
  else if g.t.s.toList = [116, 114, 117, 101] then pr rest E p
  else if g.t.s.toList = [102, 97, 105, 108] then (-1, p)
  else if g.t.s.toList = [101, 113] then
    let u := uniS 400 [((g.t.args[0]?).getD default, (g.t.args[1]?).getD default)] E
    if u.work < 0 then (-1, p.put 4) else if u.ok = false then (-1, p) else pr rest u.env p
  else
    let a := slook E ((g.t.args[0]?).getD default)
    let b := slook E ((g.t.args[1]?).getD default)
    if a.kind ≠ 2 ∨ b.kind ≠ 2 then (-1, p.put 5)
    else if g.t.s.toList = [108, 101, 115, 115] then (if a.n < b.n then pr rest E p else (-1, p))
    else if a.n + b.n > 1099511627776 ∨ a.n + b.n < -1099511627776 then (-1, p.put 5)
    else
      let u := uniS 400 [((g.t.args[2]?).getD default, .mk 2 (a.n + b.n) ByteArray.empty [])] E
      if u.ok = false then (-1, p) else pr rest u.env p

def tellR (q : Nat) (E : Env) (p : Pv) : Int × Pv :=
  match flL E 200 ((List.range q).map fun i => tvar (i : Nat)) with
  | none => (-1, p.put 4)
  | some (l, _) =>
    let p := { p with out := p.out ++ [⟨1, tidy l⟩] }
    if p.out.length ≥ 12 then (-1, p.put 6) else (-1, p)

/-- the clauses of a name, from number k on -/
noncomputable def mineR (P : List Cl) (t : Tm) (k : Nat) : List Cl := (P.drop k).filter fun c => decide (likeF c.head t)

noncomputable def proveR (P : List Cl) (q : Nat) : Nat → List Td → Env → Pv → Int × Pv
  | 0, _, _, p => (-1, p)
  | _ + 1, [], E, p => tellR q E p
  | k + 1, g :: rest, E, p =>
    if p.fuel = 0 then (-1, p.put 3)
    else
      let p := { p with fuel := p.fuel - 1 }
      haveI := Classical.propDecidable g.t.Known
      if g.t.Known then simpleR (proveR P q k) g rest E p
      else if mineR P g.t 0 = [] then (-1, p.put 5)
      else loopR (proveR P q k) g.t rest E (p.calls + 1) (mineR P g.t 0) { p with calls := p.calls + 1 }

/-- a goal whose clauses are gone through; what comes then -/
structure Fr where
  call : Nat
  g : Td
  rest : List Td
  gg : Gl
  grest : List Gl
  env : Env
  next : Nat
  lev : Nat

/-- the frames that have more clauses, as choices -/
def chsOf (P : List Cl) (fr : List Fr) : List Chc := fr.filterMap fun f => if f.next < P.length then some ⟨f.gg :: f.grest, f.next, f.env.length⟩ else none
/-- the frames below a call -/
def below (c : Nat) (fr : List Fr) : List Fr := fr.dropWhile fun f => decide (c ≤ f.call)

/-- what comes behind a proof: what is left of the frames -/
noncomputable def resume (P : List Cl) (q : Nat) : List Fr → Int × Pv → Pv
  | [], r => if r.2.ended = true then r.2 else r.2.put 2
  | f :: fr, r =>
    if r.2.ended = true then r.2
    else if 0 ≤ r.1 ∧ r.1 ≤ f.call then resume P q fr (if r.1 = f.call then -1 else r.1, r.2)
    else resume P q fr (loopR (proveR P q f.lev) f.g.t f.rest f.env f.call (mineR P f.g.t f.next) r.2)

theorem chsOf_cons (P : List Cl) (f : Fr) (fr : List Fr) : chsOf P (f :: fr) = if f.next < P.length then ⟨f.gg :: f.grest, f.next, f.env.length⟩ :: chsOf P fr else chsOf P fr := by
  unfold chsOf
  rw [List.filterMap_cons]
  split <;> split <;> simp_all

/-- goals of both kinds -/
def GRel (P : List Cl) (fr : List Fr) : List Td → List Gl → Prop
  | [], [] => True
  | a :: td, b :: gl => (a.t = b.t ∧ b.bar = (chsOf P (below a.call fr)).length) ∧ GRel P fr td gl
  | _, _ => False

def Desc (td : List Td) : Prop := td.Pairwise fun a b => b.call ≤ a.call

/-- the frames are in order -/
def FrsOk (P : List Cl) : List Fr → Prop
  | [] => True
  | f :: fr => FrsOk P fr ∧ GRel P fr (f.g :: f.rest) (f.gg :: f.grest) ∧ (∀ x ∈ fr, x.call < f.call) ∧ (∀ a ∈ f.g :: f.rest, a.call < f.call) ∧ Desc (f.g :: f.rest) ∧ (∀ x ∈ fr, x.env <+: f.env)

section
variable {P : List Cl} {q : Nat}

theorem below_cons_le {c : Nat} {f : Fr} {fr : List Fr} (h : c ≤ f.call) : below c (f :: fr) = below c fr := by
  unfold below; rw [List.dropWhile_cons, if_pos (by simpa using h)]
theorem below_cons_gt {c : Nat} {f : Fr} {fr : List Fr} (h : f.call < c) : below c (f :: fr) = f :: fr := by
  unfold below; rw [List.dropWhile_cons, if_neg (by simp; omega)]
theorem below_all {c : Nat} {fr : List Fr} (h : ∀ x ∈ fr, x.call < c) : below c fr = fr := by
  cases fr with
  | nil => rfl
  | cons f fr => exact below_cons_gt (h f (by simp))
theorem below_below {a c : Nat} (h : a ≤ c) : ∀ (fr : List Fr), below a (below c fr) = below a fr
  | [] => rfl
  | f :: fr => by
    by_cases h1 : c ≤ f.call
    · rw [below_cons_le h1, below_cons_le (Nat.le_trans h h1)]; exact below_below h fr
    · rw [below_cons_gt (by omega)]
theorem below_suffix (c : Nat) : ∀ (fr : List Fr), ∃ X, fr = X ++ below c fr ∧ ∀ x ∈ X, c ≤ x.call
  | [] => ⟨[], rfl, by simp⟩
  | f :: fr => by
    by_cases h1 : c ≤ f.call
    · obtain ⟨X, h2, h3⟩ := below_suffix c fr
      rw [below_cons_le h1]
      refine ⟨f :: X, by rw [List.cons_append, ← h2], fun x hx => ?_⟩
      rcases List.mem_cons.1 hx with rfl | hx
      · exact h1
      · exact h3 x hx
    · exact ⟨[], by rw [below_cons_gt (by omega)]; rfl, by simp⟩
theorem below_mem {c : Nat} {fr : List Fr} {x : Fr} (h : x ∈ below c fr) : x ∈ fr := by
  obtain ⟨X, h1, _⟩ := below_suffix c fr
  rw [h1]; exact List.mem_append_right _ h
theorem below_lt {c : Nat} : ∀ {fr : List Fr}, FrsOk P fr → ∀ x ∈ below c fr, x.call < c
  | [], _, x, hx => by cases hx
  | f :: fr, h, x, hx => by
    by_cases h1 : c ≤ f.call
    · rw [below_cons_le h1] at hx; exact below_lt h.1 x hx
    · rw [below_cons_gt (by omega)] at hx
      rcases List.mem_cons.1 hx with rfl | hx
      · omega
      · have := h.2.2.1 x hx; omega
theorem frsOk_below (c : Nat) : ∀ {fr : List Fr}, FrsOk P fr → FrsOk P (below c fr)
  | [], h => h
  | f :: fr, h => by
    by_cases h1 : c ≤ f.call
    · rw [below_cons_le h1]; exact frsOk_below c h.1
    · rw [below_cons_gt (by omega)]; exact h
theorem chsOf_append (fr fr' : List Fr) : chsOf P (fr ++ fr') = chsOf P fr ++ chsOf P fr' := by unfold chsOf; rw [List.filterMap_append]
theorem chsOf_below (c : Nat) (fr : List Fr) : (chsOf P fr).drop ((chsOf P fr).length - (chsOf P (below c fr)).length) = chsOf P (below c fr) := by
  obtain ⟨X, h1, _⟩ := below_suffix c fr
  have h2 : chsOf P fr = chsOf P X ++ chsOf P (below c fr) := by rw [← chsOf_append, ← h1]
  rw [h2, List.length_append, Nat.add_sub_cancel, List.drop_left]

/-- a cut's number takes all frames from it on -/
theorem resume_cut (c : Nat) (p : Pv) (hp : p.ended = false) : ∀ (fr : List Fr), FrsOk P fr → resume P q fr ((c : Int), p) = resume P q (below c fr) (-1, p)
  | [], _ => by simp [resume, below, hp]
  | f :: fr, h => by
    by_cases h1 : c ≤ f.call
    · rw [below_cons_le h1, resume]
      simp only [hp, Bool.false_eq_true, if_false]
      rw [if_pos ⟨by omega, by omega⟩]
      by_cases h2 : (c : Int) = f.call
      · have h3 : c = f.call := by omega
        rw [if_pos h2, below_all (by rw [h3]; exact h.2.2.1)]
      · rw [if_neg h2]; exact resume_cut c p hp fr h.1
    · rw [below_cons_gt (by omega), resume, resume]
      simp only [hp, Bool.false_eq_true, if_false]
      rw [if_neg (by omega), if_neg (by omega)]

theorem resume_ended (fr : List Fr) (r : Int × Pv) (h : r.2.ended = true) : resume P q fr r = r.2 := by
  cases fr <;> simp [resume, h]

/-- behind a cut -/
theorem resume_bang (c : Nat) (r : Int × Pv) (h0 : -1 ≤ r.1) (fr : List Fr) (h : FrsOk P fr) :
    resume P q fr (if r.1 ≥ 0 ∧ r.1 < c then r else ((c : Int), r.2)) = resume P q (below c fr) r := by
  by_cases he : r.2.ended = true
  · rw [resume_ended _ _ (by split <;> exact he), resume_ended _ _ he]; split <;> rfl
  have hp : r.2.ended = false := by simpa using he
  obtain ⟨i, p⟩ := r
  simp only at h0 hp
  by_cases h1 : i ≥ 0 ∧ i < c
  · rw [if_pos h1]
    obtain ⟨j, rfl⟩ := Int.eq_ofNat_of_zero_le h1.1
    rw [resume_cut j p hp fr h, resume_cut j p hp _ (frsOk_below c h), below_below (by omega)]
  · rw [if_neg h1]
    simp only
    rw [resume_cut c p hp fr h]
    by_cases h2 : i = -1
    · subst h2; rfl
    · obtain ⟨j, rfl⟩ := Int.eq_ofNat_of_zero_le (show 0 ≤ i by omega)
      rw [resume_cut j p hp _ (frsOk_below c h), below_all (c := j)]
      intro x hx
      have := below_lt h x hx
      omega

/-- a cut's number is one of the goals' -/
def CutIn (td : List Td) (c : Int) : Prop := c = -1 ∨ ∃ a ∈ td, c = (a.call : Int)
theorem CutIn.ge {td : List Td} {c : Int} (h : CutIn td c) : -1 ≤ c := by
  rcases h with rfl | ⟨a, _, rfl⟩ <;> omega

theorem loopR_cut (pr : List Td → Env → Pv → Int × Pv) (ih : ∀ td E p, CutIn td (pr td E p).1) (t : Tm) (rest : List Td) (E : Env) (call : Nat) : ∀ (cs : List Cl) (p : Pv), CutIn rest (loopR pr t rest E call cs p).1
  | [], p => .inl rfl
  | c :: cs, p => by
    have i1 := loopR_cut pr ih t rest E call cs
    rw [loopR]
    simp only
    split
    · exact .inl rfl
    · split
      · exact i1 p
      · have h1 := ih (bodyT call p.vars c.body rest) (uniS 400 [(shiftF c.head p.vars, t)] E).env { p with vars := p.vars + c.vars }
        generalize pr (bodyT call p.vars c.body rest) (uniS 400 [(shiftF c.head p.vars, t)] E).env { p with vars := p.vars + c.vars } = r at *
        split
        · exact .inl rfl
        · split
          · exact .inl rfl
          · split
            · rename_i k1 k2 k3
              rcases h1 with h1 | ⟨a, ha, h1⟩
              · omega
              · simp only [bodyT, List.mem_append, List.mem_map] at ha
                rcases ha with ⟨x, _, rfl⟩ | ha
                · exact absurd h1 k2
                · exact .inr ⟨a, ha, h1⟩
            · exact i1 _

theorem simpleR_cut (pr : List Td → Env → Pv → Int × Pv) (ih : ∀ td E p, CutIn td (pr td E p).1) (g : Td) (rest : List Td) (E : Env) (p : Pv) : CutIn (g :: rest) (simpleR pr g rest E p).1 := by
  have up : ∀ {c}, CutIn rest c → CutIn (g :: rest) c := fun h => h.imp id fun ⟨a, ha, e⟩ => ⟨a, by simp [ha], e⟩
  unfold simpleR
  split
  · simp only
    split
    · exact up (ih _ _ _)
    · exact .inr ⟨g, by simp, rfl⟩
  · simp only
    repeat' split
    all_goals first | exact up (ih _ _ _) | exact .inl rfl

theorem proveR_cut : ∀ (k : Nat) (td : List Td) (E : Env) (p : Pv), CutIn td (proveR P q k td E p).1
  | 0, td, E, p => .inl rfl
  | k + 1, [], E, p => by
    rw [proveR]
    unfold tellR
    split
    · exact .inl rfl
    · simp only; split <;> exact .inl rfl
  | k + 1, g :: rest, E, p => by
    have ih := proveR_cut k
    rw [proveR]
    split
    · exact .inl rfl
    · simp only
      split
      · exact simpleR_cut _ ih _ _ _ _
      · split
        · exact .inl rfl
        · exact (loopR_cut _ ih _ _ _ _ _ _).imp id fun ⟨a, ha, e⟩ => ⟨a, by simp [ha], e⟩
end
end Go.Proofs.Ytlpmfkpefoegeab
