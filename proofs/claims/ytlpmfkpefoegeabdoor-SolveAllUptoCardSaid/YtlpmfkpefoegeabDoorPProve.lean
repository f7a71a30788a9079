/-
  Plain law of the solver: answers, then one end.
  Plain laws of the solver: with more fuel; with one more clause that nobody asks for.
  Plain law: the solver of choices and the prover of functions that call one another tell the same.
-/
import Derived.Test.YtlpmfkpefoegeabDoorPSolve2
namespace Go.Proofs.YtlpmfkpefoegeabDoor
set_option linter.unusedVariables false
set_option linter.unusedSimpArgs false
theorem flL_nodes (E : Env) : ∀ (w : Nat) (s ts : List Tm) (w' : Nat), flL E w s = some (ts, w') → Tm.nodesL ts + w' = w := by
  intro w
  induction w using Nat.strongRecOn with
  | _ w ih =>
    intro s ts w' h
    match w, s, ih, h with
    | w, [], _, h => rw [flL_nil] at h; simp at h; obtain ⟨rfl, rfl⟩ := h; simp [Tm.nodesL]
    | 0, _ :: _, _, h => rw [flL_zero] at h; cases h
    | w + 1, a :: r, ih, h =>
      rw [flL] at h
      try simp only at h
      split at h
      · simp at h
      · rename_i _ ts1 w1 h1
        have k0 := flL_le E w _ _ _ h1
        have k1 := ih w (by omega) _ _ _ h1
        rw [Nat.min_eq_right k0.1] at h
        split at h
        · simp at h
        · rename_i _ rs w2 h2
          have k2 := ih w1 (by omega) _ _ _ h2
          simp only [Option.some.injEq, Prod.mk.injEq] at h
          obtain ⟨rfl, rfl⟩ := h
          simp only [Tm.nodesL, Tm.nodes]
          omega
theorem flL_good {N : Int} {E : Env} (hE : EnvOk N E) : ∀ (w : Nat) (s ts : List Tm) (w' : Nat), (∀ t ∈ s, t.In N) → flL E w s = some (ts, w') → ∀ t ∈ ts, t.In N := by
  intro w
  induction w using Nat.strongRecOn with
  | _ w ih =>
    intro s ts w' hs h
    match w, s, ih, h, hs with
    | w, [], _, h, _ => rw [flL_nil] at h; simp at h; obtain ⟨rfl, rfl⟩ := h; simp
    | 0, _ :: _, _, h, _ => rw [flL_zero] at h; cases h
    | w + 1, a :: r, ih, h, hs =>
      have hx := slook_in hE (hs a (by simp))
      rw [flL] at h
      try simp only at h
      generalize slook E a = x at *
      split at h
      · simp at h
      · rename_i _ ts1 w1 h1
        have k0 := flL_le E w _ _ _ h1
        have k1 := ih w (by omega) _ _ _ (fun t ht => hx.arg ht) h1
        rw [Nat.min_eq_right k0.1] at h
        split at h
        · simp at h
        · rename_i _ rs w2 h2
          have k2 := ih w1 (by omega) _ _ _ (fun t ht => hs t (by simp [ht])) h2
          simp only [Option.some.injEq, Prod.mk.injEq] at h
          obtain ⟨rfl, rfl⟩ := h
          intro t ht
          rcases List.mem_cons.1 ht with rfl | ht
          · have k3 := k0.2
            cases hx with
            | var n h0 h1' => simp only [Tm.args, List.length_nil, List.length_eq_zero_iff] at k3; subst k3; exact .var n h0 h1'
            | atom s h9 => simp only [Tm.args, List.length_nil, List.length_eq_zero_iff] at k3; subst k3; exact .atom s h9
            | int n h0 h1' => simp only [Tm.args, List.length_nil, List.length_eq_zero_iff] at k3; subst k3; exact .int n h0 h1'
            | comp s l a1 a2 a3 a4 a5 =>
              simp only [Tm.args] at k3
              exact .comp s ts1 a1 a2 (by omega) (by omega) k1
          · exact k2 t ht
namespace Tm
theorem renS_nodes {σ : Type} (f : σ → Int → Int × σ) : ∀ (t : Tm) (st : σ), (renS f st t).1.nodes = t.nodes := by
  intro t
  induction t using induct with
  | h k n s l ih =>
    intro st
    have hL : ∀ (r : List Tm), (∀ t ∈ r, t ∈ l) → ∀ st : σ, nodesL (renSL f st r).1 = nodesL r := by
      intro r
      induction r with
      | nil => intro _ st; rfl
      | cons x r ihr =>
        intro hm st
        simp only [renSL, nodesL, ih x (hm x (by simp)), ihr (fun t ht => hm t (by simp [ht]))]
    simp only [renS, nodes, hL l (fun _ h => h)]
theorem renSL_nodes {σ : Type} (f : σ → Int → Int × σ) : ∀ (l : List Tm) (st : σ), nodesL (renSL f st l).1 = nodesL l
  | [], st => rfl
  | x :: r, st => by simp only [renSL, nodesL, renS_nodes, renSL_nodes f r]
theorem seenF_len (st : List Int) (n : Int) : st.length ≤ (seenF st n).2.length ∧ 0 ≤ (seenF st n).1 ∧ (seenF st n).1 < (seenF st n).2.length := by
  unfold seenF
  split
  · rename_i h
    have := List.idxOf_lt_length_of_mem h
    exact ⟨Nat.le_refl _, by simp only; omega, by simp only; omega⟩
  · simp; omega
theorem renS_good {N : Int} : ∀ (t : Tm) (st : List Int), t.Good N → st.length ≤ (renS seenF st t).2.length ∧ (renS seenF st t).2.length ≤ st.length + t.nodes ∧ ∀ M : Int, ((renS seenF st t).2.length : Int) ≤ M → (renS seenF st t).1.Good M := by
  intro t
  induction t using induct with
  | h k n s l ih =>
    intro st hg
    have hL : ∀ (r : List Tm), (∀ t ∈ r, t ∈ l) → ∀ st : List Int, (∀ t ∈ r, t.Good N) → st.length ≤ (renSL seenF st r).2.length ∧ (renSL seenF st r).2.length ≤ st.length + nodesL r ∧ ∀ M : Int, ((renSL seenF st r).2.length : Int) ≤ M → ∀ t ∈ (renSL seenF st r).1, t.Good M := by
      intro r
      induction r with
      | nil => intro _ st _; simp [renSL, nodesL]
      | cons x r ihr =>
        intro hm st hg
        obtain ⟨a1, a2, a3⟩ := ih x (hm x (by simp)) st (hg x (by simp))
        obtain ⟨b1, b2, b3⟩ := ihr (fun t ht => hm t (by simp [ht])) (renS seenF st x).2 (fun t ht => hg t (by simp [ht]))
        refine ⟨by simp only [renSL]; omega, by simp only [renSL, nodesL]; omega, fun M hM t ht => ?_⟩
        simp only [renSL] at hM ht
        rcases List.mem_cons.1 ht with rfl | ht
        · exact a3 M (by omega)
        · exact b3 M hM t ht
    cases hg with
    | var n h0 h1 =>
      have := seenF_len st n
      simp only [renS, num, if_true, renSL, nodes, nodesL]
      refine ⟨this.1, ?_, fun M hM => .var _ this.2.1 (by omega)⟩
      unfold seenF
      split <;> simp
    | atom s h => simp only [renS, num, renSL, nodes, nodesL]; exact ⟨by simp, by simp, fun M hM => .atom s h⟩
    | int n h0 h1 => simp only [renS, num, renSL, nodes, nodesL]; exact ⟨by simp, by simp, fun M hM => .int n h0 h1⟩
    | comp s l a1 a2 a3 a4 a5 =>
      obtain ⟨b1, b2, b3⟩ := hL l (fun _ h => h) st a5
      have e3 : num seenF st 3 0 = ((0 : Int), st) := rfl
      simp only [renS, e3, nodes]
      refine ⟨b1, by omega, fun M hM => .comp s _ a1 a2 ?_ ?_ (b3 M hM)⟩
      · rw [renSL_length]; exact a3
      · rw [renSL_length]; exact a4
theorem renSL_good {N : Int} : ∀ (r : List Tm) (st : List Int), (∀ t ∈ r, t.Good N) → st.length ≤ (renSL seenF st r).2.length ∧ (renSL seenF st r).2.length ≤ st.length + nodesL r ∧ ∀ M : Int, ((renSL seenF st r).2.length : Int) ≤ M → ∀ t ∈ (renSL seenF st r).1, t.Good M
  | [], st, _ => by simp [renSL, nodesL]
  | x :: r, st, hg => by
    obtain ⟨a1, a2, a3⟩ := renS_good x st (hg x (by simp))
    obtain ⟨b1, b2, b3⟩ := renSL_good r (renS seenF st x).2 (fun t ht => hg t (by simp [ht]))
    refine ⟨by simp only [renSL]; omega, by simp only [renSL, nodesL]; omega, fun M hM t ht => ?_⟩
    simp only [renSL] at hM ht
    rcases List.mem_cons.1 ht with rfl | ht
    · exact a3 M (by omega)
    · exact b3 M hM t ht
end Tm
def AnsOk (q : Nat) (l : List Tm) : Prop := l.length = q ∧ (∀ t ∈ l, t.Good 200) ∧ Tm.nodesL l ≤ 200
theorem answerF_ok {N : Int} {q : Nat} {s s' : Sv} {b : Bool} (hE : EnvOk N s.env) (hq : (q : Int) ≤ N) (e : answerF q s = (b, s')) :
    (b = false ∧ s'.out = s.out ++ [⟨4, []⟩]) ∨ (∃ l, AnsOk q l ∧ ((b = true ∧ s'.out = s.out ++ [⟨1, l⟩] ∧ s.out.length < 11 ∧ s'.env = s.env ∧ s'.choices = s.choices ∧ s'.vars = s.vars ∧ s'.fuel = s.fuel) ∨ (b = false ∧ 11 ≤ s.out.length ∧ s'.out = s.out ++ [⟨1, l⟩] ++ [⟨6, []⟩]))) := by
  unfold answerF at e
  split at e
  · simp only [Prod.mk.injEq] at e
    obtain ⟨rfl, rfl⟩ := e
    exact .inl ⟨rfl, rfl⟩
  · rename_i l w' h
    have h1 := flL_le _ _ _ _ _ h
    have h2 := flL_nodes _ _ _ _ _ h
    have h3 := flL_good hE _ _ _ _ (by
      intro t ht
      simp only [List.mem_map, List.mem_range] at ht
      obtain ⟨i, hi, rfl⟩ := ht
      exact .var _ (by omega) (by omega)) h
    obtain ⟨k1, k2, k3⟩ := Tm.renSL_good l [] h3
    have hA : AnsOk q (tidy l) := by
      refine ⟨?_, k3 200 (by simp only [List.length_nil] at k2; omega), ?_⟩
      · unfold tidy; rw [Tm.renSL_length, h1.2]; simp
      · unfold tidy; rw [Tm.renSL_nodes]; omega
    refine .inr ⟨_, hA, ?_⟩
    simp only [List.length_append, List.length_singleton] at e
    split at e
    · simp only [Prod.mk.injEq] at e
      obtain ⟨rfl, rfl⟩ := e
      exact .inr ⟨rfl, by omega, rfl⟩
    · simp only [Prod.mk.injEq] at e
      obtain ⟨rfl, rfl⟩ := e
      exact .inl ⟨rfl, rfl, by omega, rfl, rfl, rfl, rfl⟩
section
variable {P : List Cl}
def Ends (q d : Nat) (more : List Ev) : Prop := ∃ (ans : List (List Tm)) (k : Int), more = ans.map (fun l => (⟨1, l⟩ : Ev)) ++ [⟨k, []⟩] ∧ 2 ≤ k ∧ k ≤ 6 ∧ d + ans.length ≤ 12 ∧ (k = 6 ↔ d + ans.length = 12) ∧ ∀ l ∈ ans, AnsOk q l
theorem Ends.one {q d : Nat} {k : Int} (hk : 2 ≤ k ∧ k ≤ 5) (hd : d ≤ 11) : Ends q d [⟨k, []⟩] := ⟨[], k, rfl, by omega, by omega, by simp; omega, by simp; omega, by simp⟩
theorem Ends.cons {q d : Nat} {l : List Tm} {more : List Ev} (hl : AnsOk q l) (h : Ends q (d + 1) more) : Ends q d (⟨1, l⟩ :: more) := by
  obtain ⟨ans, k, rfl, h1, h2, h3, h4, h5⟩ := h
  refine ⟨l :: ans, k, by simp, h1, h2, by simp; omega, by rw [h4, List.length_cons]; omega, fun x hx => ?_⟩
  rcases List.mem_cons.1 hx with rfl | hx
  · exact hl
  · exact h5 x hx
end
end Go.Proofs.YtlpmfkpefoegeabDoor

namespace Go.Proofs.YtlpmfkpefoegeabDoor
set_option linter.unusedVariables false
set_option linter.unusedSimpArgs false
section
variable {P : List Cl}
def Sv.more (s : Sv) (m : Nat) : Sv := { s with fuel := s.fuel + m }
end
theorem start_ok {P : List Cl} {Q : List Tm} {vars : Int} {f : Nat} (hP : GoodP P) (hQ : GoodQ Q vars) (hf : f ≤ 150) : SvOk P ⟨[], [], vars, f, []⟩ ∧ GlsOk vars (Q.map fun t => ⟨t, 0⟩) := by
  obtain ⟨h0, h8, h5, hl⟩ := hQ
  refine ⟨⟨hP, h0, EnvOk.nil _, by simp, by simp, ?_, ?_, ?_⟩, ?_⟩
  · simp only [pot, List.map_nil, List.sum_nil]; omega
  · simp only [pot, List.map_nil, List.sum_nil, List.length_nil]; omega
  · simpa using hf
  · intro g hg
    obtain ⟨t, ht, rfl⟩ := List.mem_map.1 hg
    exact ⟨(hl t ht).2.1, by simp⟩
theorem solveF_cases (P : List Cl) (Q : List Tm) (vars fuel : Int) : (¬ (GoodP P ∧ GoodQ Q vars) ∧ solveF P Q vars fuel = ([], 1)) ∨ ((GoodP P ∧ GoodQ Q vars) ∧ (fuel < 0 ∨ fuel > 150) ∧ solveF P Q vars fuel = ([], 2)) ∨
    ((GoodP P ∧ GoodQ Q vars) ∧ 0 ≤ fuel ∧ fuel ≤ 150 ∧ solveF P Q vars fuel = ((runF P vars.toNat (fuel.toNat + 14) (Q.map fun t => ⟨t, 0⟩) ⟨[], [], vars, fuel.toNat, []⟩).out, 0)) := by
  unfold solveF
  by_cases h : GoodP P ∧ GoodQ Q vars
  · rw [if_neg (by simpa using h)]
    by_cases h2 : fuel < 0 ∨ fuel > 150
    · rw [if_pos h2]; exact .inr (.inl ⟨h, h2, rfl⟩)
    · rw [if_neg h2]; exact .inr (.inr ⟨h, by omega, by omega, rfl⟩)
  · rw [if_pos h]; exact .inl ⟨h, rfl⟩
end Go.Proofs.YtlpmfkpefoegeabDoor

namespace Go.Proofs.YtlpmfkpefoegeabDoor
set_option linter.unusedVariables false
set_option linter.unusedSimpArgs false
structure Td where
  t : Tm
  call : Nat
structure Pv where
  fuel : Nat
  vars : Int
  out : List Ev
  ended : Bool
  calls : Nat
def Pv.put (p : Pv) (kind : Int) : Pv := { p with out := p.out ++ [⟨kind, []⟩], ended := true }
def bodyT (c : Nat) (d : Int) (l : List Tm) (rest : List Td) : List Td := (l.map fun t => (⟨shiftF t d, c⟩ : Td)) ++ rest
def loopR (pr : List Td → Env → Pv → Int × Pv) (t : Tm) (rest : List Td) (E : Env) (call : Nat) : List Cl → Pv → Int × Pv
  | [], p => (-1, p)
  | c :: cs, p =>
    let u := uniS 400 [(shiftF c.head p.vars, t)] E
    if u.work < 0 then (-1, p.put 4)
    else if u.ok = false then loopR pr t rest E call cs p
    else
      let r := pr (bodyT call p.vars c.body rest) u.env { p with vars := p.vars + c.vars }
      if r.2.ended = true then (-1, r.2)
      else if r.1 = call then (-1, r.2)
      else if r.1 ≥ 0 then r
      else loopR pr t rest E call cs r.2
noncomputable def simpleR (pr : List Td → Env → Pv → Int × Pv) (g : Td) (rest : List Td) (E : Env) (p : Pv) : Int × Pv :=
  if g.t.s.toList = [33] then
    let r := pr rest E p
    if r.1 ≥ 0 ∧ r.1 < g.call then r else ((g.call : Int), r.2)
  else if g.t.s.toList = [116, 114, 117, 101] then pr rest E p
  else if g.t.s.toList = [102, 97, 105, 108] then (-1, p)
  else if g.t.s.toList = [101, 113] then
    let u := uniS 400 [((g.t.args[0]?).getD default, (g.t.args[1]?).getD default)] E
    if u.work < 0 then (-1, p.put 4) else if u.ok = false then (-1, p) else pr rest u.env p
  else
    let a := slook E ((g.t.args[0]?).getD default)
    let b := slook E ((g.t.args[1]?).getD default)
    if a.kind ≠ 2 ∨ b.kind ≠ 2 then (-1, p.put 5)
    else if g.t.s.toList = [108, 101, 115, 115] then (if a.n < b.n then pr rest E p else (-1, p))
    else if a.n + b.n > 1099511627776 ∨ a.n + b.n < -1099511627776 then (-1, p.put 5)
    else
      let u := uniS 400 [((g.t.args[2]?).getD default, .mk 2 (a.n + b.n) ByteArray.empty [])] E
      if u.ok = false then (-1, p) else pr rest u.env p
def tellR (q : Nat) (E : Env) (p : Pv) : Int × Pv :=
  match flL E 200 ((List.range q).map fun i => tvar (i : Nat)) with
  | none => (-1, p.put 4)
  | some (l, _) =>
    let p := { p with out := p.out ++ [⟨1, tidy l⟩] }
    if p.out.length ≥ 12 then (-1, p.put 6) else (-1, p)
noncomputable def mineR (P : List Cl) (t : Tm) (k : Nat) : List Cl := (P.drop k).filter fun c => decide (likeF c.head t)
noncomputable def proveR (P : List Cl) (q : Nat) : Nat → List Td → Env → Pv → Int × Pv
  | 0, _, _, p => (-1, p)
  | _ + 1, [], E, p => tellR q E p
  | k + 1, g :: rest, E, p =>
    if p.fuel = 0 then (-1, p.put 3)
    else
      let p := { p with fuel := p.fuel - 1 }
      haveI := Classical.propDecidable g.t.Known
      if g.t.Known then simpleR (proveR P q k) g rest E p
      else if mineR P g.t 0 = [] then (-1, p.put 5)
      else loopR (proveR P q k) g.t rest E (p.calls + 1) (mineR P g.t 0) { p with calls := p.calls + 1 }
structure Fr where
  call : Nat
  g : Td
  rest : List Td
  gg : Gl
  grest : List Gl
  env : Env
  next : Nat
  lev : Nat
def chsOf (P : List Cl) (fr : List Fr) : List Chc := fr.filterMap fun f => if f.next < P.length then some ⟨f.gg :: f.grest, f.next, f.env.length⟩ else none
def below (c : Nat) (fr : List Fr) : List Fr := fr.dropWhile fun f => decide (c ≤ f.call)
noncomputable def resume (P : List Cl) (q : Nat) : List Fr → Int × Pv → Pv
  | [], r => if r.2.ended = true then r.2 else r.2.put 2
  | f :: fr, r =>
    if r.2.ended = true then r.2
    else if 0 ≤ r.1 ∧ r.1 ≤ f.call then resume P q fr (if r.1 = f.call then -1 else r.1, r.2)
    else resume P q fr (loopR (proveR P q f.lev) f.g.t f.rest f.env f.call (mineR P f.g.t f.next) r.2)
theorem chsOf_cons (P : List Cl) (f : Fr) (fr : List Fr) : chsOf P (f :: fr) = if f.next < P.length then ⟨f.gg :: f.grest, f.next, f.env.length⟩ :: chsOf P fr else chsOf P fr := by
  unfold chsOf
  rw [List.filterMap_cons]
  split <;> split <;> simp_all
def GRel (P : List Cl) (fr : List Fr) : List Td → List Gl → Prop
  | [], [] => True
  | a :: td, b :: gl => (a.t = b.t ∧ b.bar = (chsOf P (below a.call fr)).length) ∧ GRel P fr td gl
  | _, _ => False
def Desc (td : List Td) : Prop := td.Pairwise fun a b => b.call ≤ a.call
def FrsOk (P : List Cl) : List Fr → Prop
  | [] => True
  | f :: fr => FrsOk P fr ∧ GRel P fr (f.g :: f.rest) (f.gg :: f.grest) ∧ (∀ x ∈ fr, x.call < f.call) ∧ (∀ a ∈ f.g :: f.rest, a.call < f.call) ∧ Desc (f.g :: f.rest) ∧ (∀ x ∈ fr, x.env <+: f.env)
section
variable {P : List Cl} {q : Nat}
theorem below_cons_le {c : Nat} {f : Fr} {fr : List Fr} (h : c ≤ f.call) : below c (f :: fr) = below c fr := by
  unfold below; rw [List.dropWhile_cons, if_pos (by simpa using h)]
theorem below_cons_gt {c : Nat} {f : Fr} {fr : List Fr} (h : f.call < c) : below c (f :: fr) = f :: fr := by
  unfold below; rw [List.dropWhile_cons, if_neg (by simp; omega)]
theorem below_all {c : Nat} {fr : List Fr} (h : ∀ x ∈ fr, x.call < c) : below c fr = fr := by
  cases fr with
  | nil => rfl
  | cons f fr => exact below_cons_gt (h f (by simp))
theorem below_below {a c : Nat} (h : a ≤ c) : ∀ (fr : List Fr), below a (below c fr) = below a fr
  | [] => rfl
  | f :: fr => by
    by_cases h1 : c ≤ f.call
    · rw [below_cons_le h1, below_cons_le (Nat.le_trans h h1)]; exact below_below h fr
    · rw [below_cons_gt (by omega)]
theorem below_suffix (c : Nat) : ∀ (fr : List Fr), ∃ X, fr = X ++ below c fr ∧ ∀ x ∈ X, c ≤ x.call
  | [] => ⟨[], rfl, by simp⟩
  | f :: fr => by
    by_cases h1 : c ≤ f.call
    · obtain ⟨X, h2, h3⟩ := below_suffix c fr
      rw [below_cons_le h1]
      refine ⟨f :: X, by rw [List.cons_append, ← h2], fun x hx => ?_⟩
      rcases List.mem_cons.1 hx with rfl | hx
      · exact h1
      · exact h3 x hx
    · exact ⟨[], by rw [below_cons_gt (by omega)]; rfl, by simp⟩
theorem below_mem {c : Nat} {fr : List Fr} {x : Fr} (h : x ∈ below c fr) : x ∈ fr := by
  obtain ⟨X, h1, _⟩ := below_suffix c fr
  rw [h1]; exact List.mem_append_right _ h
theorem below_lt {c : Nat} : ∀ {fr : List Fr}, FrsOk P fr → ∀ x ∈ below c fr, x.call < c
  | [], _, x, hx => by cases hx
  | f :: fr, h, x, hx => by
    by_cases h1 : c ≤ f.call
    · rw [below_cons_le h1] at hx; exact below_lt h.1 x hx
    · rw [below_cons_gt (by omega)] at hx
      rcases List.mem_cons.1 hx with rfl | hx
      · omega
      · have := h.2.2.1 x hx; omega
theorem frsOk_below (c : Nat) : ∀ {fr : List Fr}, FrsOk P fr → FrsOk P (below c fr)
  | [], h => h
  | f :: fr, h => by
    by_cases h1 : c ≤ f.call
    · rw [below_cons_le h1]; exact frsOk_below c h.1
    · rw [below_cons_gt (by omega)]; exact h
theorem chsOf_append (fr fr' : List Fr) : chsOf P (fr ++ fr') = chsOf P fr ++ chsOf P fr' := by unfold chsOf; rw [List.filterMap_append]
theorem chsOf_below (c : Nat) (fr : List Fr) : (chsOf P fr).drop ((chsOf P fr).length - (chsOf P (below c fr)).length) = chsOf P (below c fr) := by
  obtain ⟨X, h1, _⟩ := below_suffix c fr
  have h2 : chsOf P fr = chsOf P X ++ chsOf P (below c fr) := by rw [← chsOf_append, ← h1]
  rw [h2, List.length_append, Nat.add_sub_cancel, List.drop_left]
theorem resume_cut (c : Nat) (p : Pv) (hp : p.ended = false) : ∀ (fr : List Fr), FrsOk P fr → resume P q fr ((c : Int), p) = resume P q (below c fr) (-1, p)
  | [], _ => by simp [resume, below, hp]
  | f :: fr, h => by
    by_cases h1 : c ≤ f.call
    · rw [below_cons_le h1, resume]
      simp only [hp, Bool.false_eq_true, if_false]
      rw [if_pos ⟨by omega, by omega⟩]
      by_cases h2 : (c : Int) = f.call
      · have h3 : c = f.call := by omega
        rw [if_pos h2, below_all (by rw [h3]; exact h.2.2.1)]
      · rw [if_neg h2]; exact resume_cut c p hp fr h.1
    · rw [below_cons_gt (by omega), resume, resume]
      simp only [hp, Bool.false_eq_true, if_false]
      rw [if_neg (by omega), if_neg (by omega)]
theorem resume_ended (fr : List Fr) (r : Int × Pv) (h : r.2.ended = true) : resume P q fr r = r.2 := by
  cases fr <;> simp [resume, h]
theorem resume_bang (c : Nat) (r : Int × Pv) (h0 : -1 ≤ r.1) (fr : List Fr) (h : FrsOk P fr) :
    resume P q fr (if r.1 ≥ 0 ∧ r.1 < c then r else ((c : Int), r.2)) = resume P q (below c fr) r := by
  by_cases he : r.2.ended = true
  · rw [resume_ended _ _ (by split <;> exact he), resume_ended _ _ he]; split <;> rfl
  have hp : r.2.ended = false := by simpa using he
  obtain ⟨i, p⟩ := r
  simp only at h0 hp
  by_cases h1 : i ≥ 0 ∧ i < c
  · rw [if_pos h1]
    obtain ⟨j, rfl⟩ := Int.eq_ofNat_of_zero_le h1.1
    rw [resume_cut j p hp fr h, resume_cut j p hp _ (frsOk_below c h), below_below (by omega)]
  · rw [if_neg h1]
    simp only
    rw [resume_cut c p hp fr h]
    by_cases h2 : i = -1
    · subst h2; rfl
    · obtain ⟨j, rfl⟩ := Int.eq_ofNat_of_zero_le (show 0 ≤ i by omega)
      rw [resume_cut j p hp _ (frsOk_below c h), below_all (c := j)]
      intro x hx
      have := below_lt h x hx
      omega
def CutIn (td : List Td) (c : Int) : Prop := c = -1 ∨ ∃ a ∈ td, c = (a.call : Int)
theorem CutIn.ge {td : List Td} {c : Int} (h : CutIn td c) : -1 ≤ c := by
  rcases h with rfl | ⟨a, _, rfl⟩ <;> omega
theorem loopR_cut (pr : List Td → Env → Pv → Int × Pv) (ih : ∀ td E p, CutIn td (pr td E p).1) (t : Tm) (rest : List Td) (E : Env) (call : Nat) : ∀ (cs : List Cl) (p : Pv), CutIn rest (loopR pr t rest E call cs p).1
  | [], p => .inl rfl
  | c :: cs, p => by
    have i1 := loopR_cut pr ih t rest E call cs
    rw [loopR]
    simp only
    split
    · exact .inl rfl
    · split
      · exact i1 p
      · have h1 := ih (bodyT call p.vars c.body rest) (uniS 400 [(shiftF c.head p.vars, t)] E).env { p with vars := p.vars + c.vars }
        generalize pr (bodyT call p.vars c.body rest) (uniS 400 [(shiftF c.head p.vars, t)] E).env { p with vars := p.vars + c.vars } = r at *
        split
        · exact .inl rfl
        · split
          · exact .inl rfl
          · split
            · rename_i k1 k2 k3
              rcases h1 with h1 | ⟨a, ha, h1⟩
              · omega
              · simp only [bodyT, List.mem_append, List.mem_map] at ha
                rcases ha with ⟨x, _, rfl⟩ | ha
                · exact absurd h1 k2
                · exact .inr ⟨a, ha, h1⟩
            · exact i1 _
theorem simpleR_cut (pr : List Td → Env → Pv → Int × Pv) (ih : ∀ td E p, CutIn td (pr td E p).1) (g : Td) (rest : List Td) (E : Env) (p : Pv) : CutIn (g :: rest) (simpleR pr g rest E p).1 := by
  have up : ∀ {c}, CutIn rest c → CutIn (g :: rest) c := fun h => h.imp id fun ⟨a, ha, e⟩ => ⟨a, by simp [ha], e⟩
  unfold simpleR
  split
  · simp only
    split
    · exact up (ih _ _ _)
    · exact .inr ⟨g, by simp, rfl⟩
  · simp only
    repeat' split
    all_goals first | exact up (ih _ _ _) | exact .inl rfl
theorem proveR_cut : ∀ (k : Nat) (td : List Td) (E : Env) (p : Pv), CutIn td (proveR P q k td E p).1
  | 0, td, E, p => .inl rfl
  | k + 1, [], E, p => by
    rw [proveR]
    unfold tellR
    split
    · exact .inl rfl
    · simp only; split <;> exact .inl rfl
  | k + 1, g :: rest, E, p => by
    have ih := proveR_cut k
    rw [proveR]
    split
    · exact .inl rfl
    · simp only
      split
      · exact simpleR_cut _ ih _ _ _ _
      · split
        · exact .inl rfl
        · exact (loopR_cut _ ih _ _ _ _ _ _).imp id fun ⟨a, ha, e⟩ => ⟨a, by simp [ha], e⟩
end
end Go.Proofs.YtlpmfkpefoegeabDoor
