/-
  Machine and solver side by side: a goal is called by its clauses.
-/
import Derived.Test.YtlpmfkpefoegeabPMSim
namespace Go.Proofs.Ytlpmfkpefoegeab
set_option linter.unusedVariables false
set_option linter.unusedSimpArgs false
theorem env_len {N : Int} {E : Env} (h : EnvOk N E) (hN : 0 ≤ N) : (E.length : Int) ≤ N := by
  obtain ⟨n, rfl⟩ := Int.eq_ofNat_of_zero_le hN
  have := nodup_lt n (E.map (·.1)) h.nodup (fun x hx => by
    obtain ⟨p, hp, rfl⟩ := List.mem_map.1 hx
    exact h.key p hp)
  rw [List.length_map] at this
  omega
theorem load_eq {h : Hp} {F : List Ce} (hg : h.Good) (hF : GoodC F) (hl : h.cells.length + F.length ≤ 65536) : loadF h F = (⟨h.cells ++ F.map (shC h.cells.length), h.trail⟩, (h.cells.length : Int), 0) := by
  rw [loadF, if_neg (not_not_intro ⟨hg, hF, fun j hj => by simp at hj, by simp only; omega, by simp⟩), if_neg (by omega)]
theorem unify_eq {h : Hp} {a b : Int} (hg : h.Good) (ha : Inb h.cells a) (hb : Inb h.cells b) : unifyF h a b = if (uniL 400 [(a, b)] h.cells h.trail).work < 0 then (h, false, 3) else if (uniL 400 [(a, b)] h.cells h.trail).ok = false then (h, false, 0) else if 65536 < (uniL 400 [(a, b)] h.cells h.trail).trail.length then (h, false, 3) else (⟨(uniL 400 [(a, b)] h.cells h.trail).cells, (uniL 400 [(a, b)] h.cells h.trail).trail⟩, true, 0) := by
  rw [unifyF, if_neg (not_not_intro hg), if_neg (not_not_intro ⟨ha, hb⟩)]
theorem bound_cell {l l' : List Ce} {vs : List Int} (hB : Bound l vs l') {a : Int} (ha : Inb l a) (hk : (cellAt l a).kind ≠ 0) : cellAt l' a = cellAt l a ∧ Inb l' a := by
  obtain ⟨k, rfl, hkl, e⟩ := cellAt_eq ha
  have hkl' : k < l'.length := by rw [hB.1]; exact hkl
  rw [e] at hk ⊢
  rw [cellAt_nat hkl']
  rcases hB.2 k hkl hkl' with ⟨_, k2⟩ | ⟨_, k2, _⟩
  · exact ⟨k2, Int.natCast_nonneg _, by omega⟩
  · exact absurd k2 hk
theorem bound_good {l l' : List Ce} {t vs : List Int} (hg : Hp.Good ⟨l, t⟩) (h2 : Bound l vs l') (h3 : ∀ v ∈ vs, Inb l v) (htl : (t ++ vs).length ≤ 65536) : Hp.Good ⟨l', t ++ vs⟩ := by
  refine ⟨h2.good hg.1, fun j hj => ?_, by rw [h2.1]; exact hg.2.2.1, htl⟩
  simp only at hj
  by_cases hlt : j < t.length
  · obtain ⟨v, e1, e2, e3⟩ := hg.2.1 j hlt
    refine ⟨v, by simp only; rw [List.getElem_append_left hlt]; exact e1, by rw [h2.1]; exact e2, ?_⟩
    rw [h2.kind v e2 (by rw [h2.1]; exact e2)]
    exact e3
  · have hj' : j - t.length < vs.length := by simp only [List.length_append] at hj; omega
    obtain ⟨k1, k2⟩ := h3 vs[j - t.length] (List.getElem_mem _)
    obtain ⟨v, hv⟩ := Int.eq_ofNat_of_zero_le k1
    have hvl : v < l.length := by omega
    refine ⟨v, by simp only; rw [List.getElem_append_right (by omega)]; exact hv, by rw [h2.1]; exact hvl, ?_⟩
    rcases h2.2 v hvl (by rw [h2.1]; exact hvl) with ⟨k3, _⟩ | ⟨_, k4, _, n, _, _, k5⟩
    · exact absurd (hv ▸ List.getElem_mem _) k3
    · rw [k5]; exact k4
theorem IsGoal.ne {t : Tm} (h : t.IsGoal) : t.kind ≠ 0 := by rcases h with h | h <;> rw [h] <;> decide
theorem GoalAt.kind {N : Int} {l : List Ce} {φ : Int → Int} {E : Env} {a : Int} {t : Tm} (h : GoalAt N l φ E a t) : (cellAt l a).kind ≠ 0 := by rw [h.cell]; exact IsGoal.ne h.goal
theorem GoalAt.move {N N' : Int} {l l' : List Ce} {φ φ' : Int → Int} {E E' : Env} {a : Int} {t : Tm} (h : GoalAt N l φ E a t) (hN : N ≤ N') (hc : cellAt l' a = cellAt l a) (hi : Inb l' a) (hr : Hr l' φ' E' (fun _ => True) a t) : GoalAt N' l' φ' E' a t :=
  ⟨hi, hc.trans h.cell, h.goal, h.tin.mono hN, hr⟩
theorem push_chain {N : Int} {l : List Ce} {φ : Int → Int} {E : Env} {base : Int} {bar : Nat} {gs0 : List Gm} {nx : Int} {rest : List Gl} (hch : Chain N l φ E gs0 nx rest) : ∀ (xs : List Int) (ts : List Tm), xs.length = ts.length →
    (∀ (j : Nat) (hj : j < ts.length), ∃ a, xs[j]? = some a ∧ GoalAt N l φ E (base + a) ts[j]) →
    Chain N l φ E (pushM base bar xs gs0 nx).1 (pushM base bar xs gs0 nx).2 ((ts.map fun t => (⟨t, bar⟩ : Gl)) ++ rest) ∧ gs0.length ≤ (pushM base bar xs gs0 nx).1.length ∧ ∀ k, k < gs0.length → (pushM base bar xs gs0 nx).1[k]? = gs0[k]?
  | [], [], _, _ => ⟨hch, Nat.le_refl _, fun _ _ => rfl⟩
  | a :: xs, t :: ts, hl, h => by
    obtain ⟨k1, k2, k3⟩ := push_chain hch xs ts (by simpa using hl) (fun j hj => by
      obtain ⟨a', e1, e2⟩ := h (j + 1) (by simp; omega)
      exact ⟨a', by simpa using e1, by simpa using e2⟩)
    rw [pushM]
    generalize pushM base bar xs gs0 nx = p at k1 k2 k3 ⊢
    obtain ⟨a', e1, e2⟩ := h 0 (by simp)
    simp only [List.getElem?_cons_zero, Option.some.injEq, List.getElem_cons_zero] at e1 e2
    subst e1
    have hge := k1.ge
    refine ⟨⟨p.1.length, rfl, by simp, ?_⟩, by simp; omega, fun k hk => by rw [List.getElem?_append_left (by omega)]; exact k3 k hk⟩
    simp only [List.getElem?_concat_length, Option.getD_some]
    refine ⟨trivial, e2, hge.2, k1.imp (fun k hk => List.getElem?_append_left hk) (by simp) fun _ _ h => h⟩
  | [], _ :: _, hl, _ => by simp at hl
  | _ :: _, [], hl, _ => by simp at hl
theorem pushM_len {base : Int} {bar : Nat} {gs0 : List Gm} {nx : Int} : ∀ (xs : List Int), (pushM base bar xs gs0 nx).1.length = gs0.length + xs.length
  | [] => rfl
  | a :: xs => by rw [pushM]; simp only [List.length_append, List.length_cons, List.length_nil, pushM_len xs]; omega
theorem shiftF_parts (t : Tm) (d : Int) (hk : t.kind ≠ 0) : (shiftF t d).kind = t.kind ∧ (shiftF t d).args.length = t.args.length ∧ (shiftF t d).s = t.s := by
  obtain ⟨k, n, s, l⟩ := t
  simp [shiftF, Tm.ren, Tm.renL_map, Tm.kind, Tm.args, Tm.s]
theorem shiftF_goal {t : Tm} {d : Int} (h : t.IsGoal) : (shiftF t d).IsGoal := by
  unfold Tm.IsGoal at h ⊢
  rw [(shiftF_parts t d (IsGoal.ne h)).1]
  exact h
structure CallOk (q : Nat) (m : Mv) (s : Sv) (n : Nat) (g : Gl) (rest : List Gl) : Prop where
  good : m.h.Good
  env : EnvOk s.vars s.env
  v0 : 0 ≤ s.vars
  v1 : s.vars ≤ 40000
  qv : (q : Int) ≤ s.vars
  gt : g.t.In s.vars
  fuel : m.fuel = s.fuel
  out : m.out = s.out
  tr : m.h.trail.length ≤ s.env.length
  cur : Snap s.vars m.h.cells s.env q m.query m.goals (n : Int) (g :: rest)
  chc : ChsR m.h s.env s.vars q m.query m.goals m.choices s.choices
  pot : m.h.cells.length + 300 + slackM m.fuel m.out ≤ 60000
  pots : ∀ c ∈ m.choices, c.top + 300 + slackM m.fuel m.out ≤ 60000
  gcnt : m.goals.length + 5 + slackG m.fuel m.out ≤ 5000
theorem call_sim {P : List Cl} {q : Nat} {m : Mv} {s : Sv} {n : Nat} {g : Gl} {rest : List Gl} (hP : GoodP P) (C : CallOk q m s n g rest) : ∀ (j k : Nat), j = P.length - k →
    Both q (callM P n (goalM m n) j k m) (callF P g rest j k s)
  | 0, k, _ => by rw [callM, callF]; trivial
  | j + 1, k, hj => by
    have ih := call_sim hP C j (k + 1) (by omega)
    have hkl : k < P.length := by omega
    rw [callM, callF, List.getElem?_eq_getElem hkl]
    simp only
    obtain ⟨φ, hM, hq, kk, e1, hlt, hbar, hga, hnx, hch⟩ := C.cur
    have e2 : kk = n := by omega
    subst e2
    have hgm : goalM m kk = (m.goals[kk]?).getD default := rfl
    rw [← hgm] at hbar hga hnx hch
    generalize goalM m kk = gm at *
    have hls := like_same hga P[k]
    by_cases hlike : likeF (P[k]).head g.t
    · have hlm := hls.2 hlike
      rw [if_neg (not_not_intro hlm), if_neg (not_not_intro hlike)]
      have hnext : nextM P (cellAt m.h.cells gm.at_) (P.length - (k + 1)) (k + 1) = nextF P g.t (P.length - (k + 1)) (k + 1) := next_same hga P _ _
      rw [hnext]
      have hcg : (P[k]).Good := hP.2 _ (List.getElem_mem hkl)
      generalize P[k] = c at *
      obtain ⟨head, body, vars⟩ := c
      obtain ⟨v, rfl⟩ := Int.eq_ofNat_of_zero_le (show 0 ≤ vars from hcg.1.1)
      obtain ⟨F, hF⟩ : ∃ F, F = (goalsF (goalF (begF v) head) body).1 := ⟨_, rfl⟩
      obtain ⟨b1, b2, b3, b4⟩ := code_block hcg F hF
      have hcells : (clauseB ⟨head, body, (v : Int)⟩).cells = F := by rw [hF]; simp [clauseB]
      have hgoals : (clauseB ⟨head, body, (v : Int)⟩).goals = (goalsF (goalF (begF v) head) body).2 := by simp [clauseB]
      have hhd : (clauseB ⟨head, body, (v : Int)⟩).head = (v : Int) := by simp [clauseB]
      have hbody : ∀ t ∈ body, t.IsGoal ∧ t.Good (v : Int) := fun t ht => ⟨(hcg.1.2.2.2 t ht).1, (hcg.1.2.2.2 t ht).2.1⟩
      have hv8 : (v : Int) ≤ 8 := hcg.1.2.1
      obtain ⟨n1, n2⟩ := goal_nf v head (begF v) hcg.2.2.1.1 hcg.2.1 (begF_nf v) (by rw [begF_len]; exact Nat.le_refl _)
      have n3 := goals_nf v body (goalF (begF v) head) hbody n1 (by have := goalF_pos head (begF v); rw [begF_len] at this; omega)
      rw [← hF] at n3
      obtain ⟨n3, n4⟩ := n3
      have hlen : m.h.cells.length + F.length ≤ 65536 := by have := C.pot; omega
      have hld := load_eq C.good b2 hlen
      have hg1 := load_good C.good b2 hlen
      rw [hcells, hgoals, hhd, hld]
      simp only [ne_eq, not_true_eq_false, if_false]
      have hM1 := load_mon hM C.env C.v0 n3
      have hE1 : EnvOk (s.vars + (v : Int)) s.env := C.env.mono (by omega)
      have hφ : ∀ n : Int, 0 ≤ n → n < (v : Int) → phiL m.h.cells s.vars φ (n + (m.h.cells.length : Int)) = s.vars + n := fun n h0 h1 => by
        unfold phiL; rw [if_neg (by omega)]; omega
      have tell : ∀ (t : Tm) (a : Int), t.Good (v : Int) → Laid F id a t → Hr (m.h.cells ++ F.map (shC m.h.cells.length)) (phiL m.h.cells s.vars φ) s.env (fun _ => True) ((m.h.cells.length : Int) + a) (shiftF t s.vars) := fun t a ht ha => by
        have := laid_hr (v := (v : Int)) C.env C.v0 (by have := C.v1; omega) hv8 hφ t _ ht (laid_shift (H := m.h.cells) t a ha)
        rwa [Int.add_comm] at this
      have hhead := tell head (v : Int) hcg.2.2.1.1 b3
      have hgoal : Hr (m.h.cells ++ F.map (shC m.h.cells.length)) (phiL m.h.cells s.vars φ) s.env (fun _ => True) gm.at_ g.t := load_hr C.good.1 hga.inb hga.tells
      have hinb : Inb (m.h.cells ++ F.map (shC m.h.cells.length)) ((m.h.cells.length : Int) + (v : Int)) := by
        obtain ⟨x, hx⟩ := hhead.looks; exact hx.start
      have hinb2 : Inb (m.h.cells ++ F.map (shC m.h.cells.length)) gm.at_ := (cellAt_left hga.inb).2
      rw [unify_eq hg1 hinb hinb2]
      have hIs : ∀ p ∈ [(shiftF head s.vars, g.t)], p.1.In (s.vars + (v : Int)) ∧ p.2.In (s.vars + (v : Int)) := by
        intro p hp
        simp only [List.mem_singleton] at hp
        subst hp
        exact ⟨shiftF_in hcg.2.2.1.1 hv8 C.v0 (by have := C.v1; omega), C.gt.mono (by omega)⟩
      have U := uni_same (N := s.vars + (v : Int)) 400 [((m.h.cells.length : Int) + (v : Int), gm.at_)] [(shiftF head s.vars, g.t)] (m.h.cells ++ F.map (shC m.h.cells.length)) s.env m.h.trail hE1 hM1 ⟨⟨hhead, hgoal⟩, trivial⟩ hIs
      have hUE := uniS_env (N := s.vars + (v : Int)) 400 [(shiftF head s.vars, g.t)] s.env hE1 hIs
      have hUB := uniL_bound 400 [((m.h.cells.length : Int) + (v : Int), gm.at_)] (m.h.cells ++ F.map (shC m.h.cells.length)) m.h.trail
      simp only at hUB ⊢
      generalize uniL 400 [((m.h.cells.length : Int) + (v : Int), gm.at_)] (m.h.cells ++ F.map (shC m.h.cells.length)) m.h.trail = u at U hUB ⊢
      generalize uniS 400 [(shiftF head s.vars, g.t)] s.env = u' at U hUE ⊢
      by_cases hw : u'.work < 0
      · rw [if_pos (show u.work < 0 by rw [U.work]; exact hw), if_pos hw]
        simp only [ne_eq, show ¬ ((3 : Int) = 0) by decide, not_false_eq_true, if_true]
        show m.out ++ _ = s.out ++ _
        rw [C.out]
      rw [if_neg (show ¬ u.work < 0 by rw [U.work]; exact hw), if_neg hw]
      by_cases hok : u'.ok = false
      · rw [if_pos (show u.ok = false by rw [U.ok]; exact hok), if_pos hok]
        simp only [not_true_eq_false, if_false, if_true]
        exact ih
      have hok' : u.ok = true := by rw [U.ok]; simpa using hok
      rw [if_neg (show ¬ u.ok = false by rw [hok']; decide), if_neg hok]
      obtain ⟨vs, t1, t2, t3⟩ := U.trail hok'
      obtain ⟨vs', t1', hB, -, -⟩ := hUB hok'
      have hvs : vs' = vs := List.append_cancel_left (t1'.symm.trans t1)
      subst hvs
      have hel := env_len hUE.1 (by have := C.v0; omega)
      have htl : u.trail.length ≤ 65536 := by
        rw [t1, List.length_append]
        have := C.tr; have := C.v1
        omega
      rw [if_neg (show ¬ 65536 < u.trail.length by omega)]
      simp only [ne_eq, not_true_eq_false, if_false, Bool.true_eq_false]
      have hcellU : ∀ a, Inb (m.h.cells ++ F.map (shC m.h.cells.length)) a → (cellAt (m.h.cells ++ F.map (shC m.h.cells.length)) a).kind ≠ 0 → cellAt u.cells a = cellAt (m.h.cells ++ F.map (shC m.h.cells.length)) a ∧ Inb u.cells a := fun a ha hk => bound_cell hB ha hk
      have hgold : ∀ a t, GoalAt s.vars m.h.cells φ s.env a t → GoalAt (s.vars + (v : Int)) u.cells (phiL m.h.cells s.vars φ) u'.env a t := fun a t h => by
        have hl := cellAt_left (F := F) h.inb
        obtain ⟨k1, k2⟩ := hcellU a hl.2 (by rw [hl.1]; exact h.kind)
        exact h.move (by omega) (k1.trans hl.1) k2 (U.tells hok' a t (h.tin.mono (by omega)) (load_hr C.good.1 h.inb h.tells))
      have hgnew : ∀ (j : Nat) (hj : j < (body.map fun t => shiftF t s.vars).length), ∃ a, (goalsF (goalF (begF v) head) body).2[j]? = some a ∧ GoalAt (s.vars + (v : Int)) u.cells (phiL m.h.cells s.vars φ) u'.env ((m.h.cells.length : Int) + a) (body.map fun t => shiftF t s.vars)[j] := fun j hj => by
        have hj' : j < body.length := by simpa using hj
        obtain ⟨a, e1, e2⟩ := n4 j hj'
        obtain ⟨a', f1, f2⟩ := b4 j hj'
        rw [e1] at f1
        obtain rfl := Option.some.inj f1
        have hbj := hbody _ (List.getElem_mem hj')
        have hkne := IsGoal.ne hbj.1
        obtain ⟨c1, c2⟩ := cellAt_some e2
        obtain ⟨d1, d2⟩ := cellAt_shift (H := m.h.cells) c2
        rw [c1, shC_same _ (by simpa using hkne), Int.add_comm] at d1
        rw [Int.add_comm] at d2
        obtain ⟨k1, k2⟩ := hcellU _ d2 (by rw [d1]; simpa using hkne)
        have hin := shiftF_in (d := s.vars) hbj.2 hv8 C.v0 (by have := C.v1; omega)
        obtain ⟨p1, p2, p3⟩ := shiftF_parts body[j] s.vars hkne
        refine ⟨(a : Int), e1, ?_⟩
        rw [List.getElem_map]
        exact ⟨k2, by rw [k1, d1, p1, p2, p3], shiftF_goal hbj.1, hin, U.tells hok' _ _ hin (tell _ _ hbj.2 f2)⟩
      have hrest : Chain (s.vars + (v : Int)) u.cells (phiL m.h.cells s.vars φ) u'.env m.goals gm.next rest := hch.imp (fun _ _ => rfl) (Nat.le_refl _) hgold
      have hlg := goalsF_len2 body (goalF (begF v) head)
      obtain ⟨p1, p2, p3⟩ := push_chain (base := (m.h.cells.length : Int)) (bar := m.choices.length) hrest (goalsF (goalF (begF v) head) body).2 (body.map fun t => shiftF t s.vars) (by simpa using hlg) hgnew
      rw [List.map_map] at p1
      have hul : u.cells.length = m.h.cells.length + F.length := by rw [hB.1]; simp
      have hold : ∀ top tr, top ≤ m.h.cells.length → tr ≤ m.h.trail.length → oldH ⟨u.cells, u.trail⟩ top tr = oldH m.h top tr := fun top tr h1 h2 => by
        rw [t1]; exact old_grown hB h1 h2
      obtain ⟨hE2, F2, hF2, -⟩ := hUE
      have htake : ∀ k, k ≤ s.env.length → u'.env.take k = s.env.take k := fun k hk => by rw [hF2, List.take_append_of_le_length hk]
      have hchl := C.chc.len
      have hchs : ChsR ⟨u.cells, u.trail⟩ u'.env (s.vars + (v : Int)) q m.query (pushM (m.h.cells.length : Int) m.choices.length (goalsF (goalF (begF v) head) body).2 m.goals gm.next).1 m.choices s.choices :=
        C.chc.imp fun c d hc hd k => k.move (hold _ _ k.top k.tr) (by simp only; have := k.top; omega) (by simp only [t1, List.length_append]; have := k.tr; omega) (htake _ k.dtr) (by rw [hF2, List.length_append]; have := k.dtr; omega) (by omega) p3 p2
      have hnew : Both q
          (.next, { m with
            h := ⟨u.cells, u.trail⟩
            choices := if nextF P g.t (P.length - (k + 1)) (k + 1) < P.length then ⟨kk, nextF P g.t (P.length - (k + 1)) (k + 1), m.h.cells.length, m.h.trail.length⟩ :: m.choices else m.choices
            goals := (pushM (m.h.cells.length : Int) m.choices.length (goalsF (goalF (begF v) head) body).2 m.goals gm.next).1
            now := (pushM (m.h.cells.length : Int) m.choices.length (goalsF (goalF (begF v) head) body).2 m.goals gm.next).2 })
          (.next (bodyF s.choices.length s.vars body rest), { s with
            env := u'.env
            choices := if nextF P g.t (P.length - (k + 1)) (k + 1) < P.length then ⟨g :: rest, nextF P g.t (P.length - (k + 1)) (k + 1), s.env.length⟩ :: s.choices else s.choices
            vars := s.vars + (v : Int) }) := by
        refine ⟨?_, C.fuel, C.out, ?_, ?_, ?_, ?_, ?_, by have := C.gcnt; have h5 : body.length ≤ 5 := hcg.1.2.2.1; simp only [pushM_len, hlg]; omega⟩
        · simp only
          rw [t1] at htl ⊢
          exact bound_good hg1 hB (fun x hx => (t3 x hx).1) htl
        · simp only [t1, List.length_append]
          have := C.tr
          omega
        · refine ⟨phiL m.h.cells s.vars φ, U.mon hok', fun w hw => ?_, ?_⟩
          · obtain ⟨q1, q2⟩ := hq w hw
            refine ⟨?_, ?_⟩
            · unfold Inb at q1 ⊢; simp only; omega
            · exact U.tells hok' _ _ (.var _ (by omega) (by have := C.qv; omega)) (load_hr C.good.1 q1 q2)
          · unfold bodyF
            rw [← hchl]
            exact p1
        · by_cases hmore : nextF P g.t (P.length - (k + 1)) (k + 1) < P.length
          · simp only [if_pos hmore]
            refine ⟨⟨rfl, by simp only; omega, by simp only [t1, List.length_append]; omega, C.tr, by rw [hF2, List.length_append]; simp only; omega, ?_, ?_⟩, fun x hx => ?_, hchs⟩
            · simp only
              rw [hold _ _ (Nat.le_refl _) (Nat.le_refl _), old_self]; exact C.good
            · simp only
              rw [hold _ _ (Nat.le_refl _) (Nat.le_refl _), old_self, htake _ (Nat.le_refl _), List.take_length]
              exact C.cur.mono (by omega) p3 p2
            · obtain ⟨d, _, hd⟩ := C.chc.mem x hx
              exact ⟨hd.top, hd.tr⟩
          · simp only [if_neg hmore]
            exact hchs
        · simp only
          have := C.pot
          omega
        · intro x hx
          simp only at hx ⊢
          split at hx
          · rcases List.mem_cons.1 hx with rfl | hx
            · exact C.pot
            · exact C.pots x hx
          · exact C.pots x hx
      exact hnew
    · rw [if_pos (fun h => hlike (hls.1 h)), if_pos hlike]
      exact ih
end Go.Proofs.Ytlpmfkpefoegeab
