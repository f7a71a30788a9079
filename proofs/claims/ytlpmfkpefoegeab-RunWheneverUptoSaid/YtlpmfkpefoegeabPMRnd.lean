/-
  The machine's run, round by round.
-/
import Derived.Test.YtlpmfkpefoegeabPMCol
import Derived.Test.YtlpmfkpefoegeabQFront2
import Derived.Test.YtlpmfkpefoegeabQMach12
namespace Go.Proofs.Ytlpmfkpefoegeab
set_option linter.unusedVariables false
set_option linter.unusedSimpArgs false
theorem answerF_ok2 {P : List Cl} {q : Nat} {s s' : Sv} (h : SvOk P s) (e : answerF q s = (true, s')) : SvOk P s' ∧ s'.out.length = s.out.length + 1 ∧ s'.out.length ≤ 11 ∧ s'.vars = s.vars := by
  unfold answerF at e
  split at e
  · simp at e
  · simp only at e
    split at e
    · simp at e
    · rename_i hlt
      simp only [Prod.mk.injEq, true_and] at e
      subst e
      obtain ⟨h1, h2, h3, h4, h5, h6, h7, h8⟩ := h
      simp only [List.length_append, List.length_singleton] at hlt ⊢
      exact ⟨⟨h1, h2, h3, h4, h5, h6, h7, h8⟩, trivial, by omega, trivial⟩
theorem backM_yes {P : List Cl} : ∀ (cs : List Cm) (m : Mv), (backM P cs m).1 ≠ .no
  | [], m => by rw [backM]; simp
  | c :: cs, m => by
    rw [backM]
    have ih := backM_yes (P := P) cs
    split
    · exact ih _
    · rename_i r hne
      generalize callM P c.goal (goalM m c.goal) (P.length - c.from_) c.from_ { m with choices := cs, h := (cutF (undoF m.h (c.trail : Int)).1 (c.top : Int)).1 } = r at *
      obtain ⟨a, b⟩ := r
      intro e
      simp only at e
      subst e
      exact hne b rfl
theorem stepM_yes {P : List Cl} (m : Mv) : (stepM P m).1 ≠ .no := by
  unfold stepM
  split
  · simp
  · simp only
    split
    · split
      · simp
      · simp
      · exact backM_yes _ _
    · split
      · simp
      · split
        · exact backM_yes _ _
        · rename_i hne
          intro e
          exact hne _ (Prod.ext e rfl)
theorem answerM_yes {P : List Cl} {q : Nat} (m : Mv) : (answerM P q m).1 ≠ .no := by
  unfold answerM
  split
  · simp
  · simp only
    split
    · simp
    · exact backM_yes _ _
theorem run_sim {P : List Cl} {q : Nat} (hP : GoodP P) (fuel every : Int) : ∀ (n : Nat) (m : Mv) (s : Sv) (gl : List Gl), Sim P q m s gl → (q : Int) ≤ s.vars → s.out.length ≤ 11 → (runM P q fuel every n m).out = (runF P q n gl s).out
  | 0, m, s, gl, S, _, _ => by rw [runM, runF]; exact S.sim.out
  | n + 1, m, s, [], S, hqv, hout => by
    have hnow : m.now < 0 := by
      obtain ⟨φ, -, -, h⟩ := S.sim.cur
      have : m.now = -1 := h
      omega
    rw [runM, runF, if_pos hnow]
    have hA := answer_sim hP S hqv hout
    have hok2 := fun s' (e : answerF q s = (true, s')) => answerF_ok2 S.ok e
    have hyes := answerM_yes (P := P) (q := q) m
    generalize answerM P q m = rm at *
    obtain ⟨ra, m'⟩ := rm
    cases ha : answerF q s with
    | mk b s' =>
      rw [ha] at hA hok2
      cases b with
      | false =>
        simp only at hA ⊢
        cases ra with
        | next => exact hA.elim
        | no => exact hA.elim
        | off => exact hA
      | true =>
        simp only at hA ⊢
        obtain ⟨a1, a2, a3, a4⟩ := hok2 s' rfl
        have hbn := fun s'' gl (e : backF P s'.choices s' = (.next gl, s'')) => backF_next s'.choices s' s'' gl a1 e
        generalize backF P s'.choices s' = rs at *
        obtain ⟨rb, s''⟩ := rs
        cases ra with
        | next =>
          cases rb with
          | next gl =>
            obtain ⟨b1, b2, b3, b4, b5⟩ := hbn s'' gl rfl
            exact run_sim hP fuel every n m' s'' gl ⟨b1, b2, hA⟩ (by omega) (by rw [b4]; exact a3)
          | no => exact hA.elim
          | off => exact hA.elim
        | no =>
          cases rb with
          | next gl => exact hA.elim
          | no => exact absurd rfl hyes
          | off => exact hA.elim
        | off =>
          cases rb with
          | next gl => exact hA.elim
          | no => exact hA.elim
          | off => exact hA
  | n + 1, m, s, g :: rest, S, hqv, hout => by
    have hnow : ¬ m.now < 0 := by
      obtain ⟨φ, -, -, k, h, -⟩ := S.sim.cur
      omega
    rw [runM, runF, if_neg hnow]
    have S2 : Sim P q (if every > 0 ∧ (fuel - m.fuel) % every = 0 then collectM q m else m) s (g :: rest) := by
      split
      · exact collect_sim S
      · exact S
    generalize (if every > 0 ∧ (fuel - m.fuel) % every = 0 then collectM q m else m) = m2 at *
    have hA := step_sim hP S2 hqv
    have hsn := fun s' gl (e : stepF P g rest s = (.next gl, s')) => stepF_next S.ok S.gls e
    have hyes := stepM_yes (P := P) m2
    generalize stepM P m2 = rm at *
    generalize stepF P g rest s = rs at *
    obtain ⟨ra, m'⟩ := rm
    obtain ⟨rb, s'⟩ := rs
    cases ra with
    | next =>
      cases rb with
      | next gl =>
        obtain ⟨b1, b2, b3, b4, b5⟩ := hsn s' gl rfl
        exact run_sim hP fuel every n m' s' gl ⟨b1, b2, hA⟩ (by omega) (by rw [b4]; exact hout)
      | no => exact hA.elim
      | off => exact hA.elim
    | no =>
      cases rb with
      | next gl => exact hA.elim
      | no => exact absurd rfl hyes
      | off => exact hA.elim
    | off =>
      cases rb with
      | next gl => exact hA.elim
      | no => exact hA.elim
      | off => exact hA
theorem query_block {Q : List Tm} {n : Nat} (hg : GoodQ Q (n : Int)) (F : List Ce) (hF : F = (goalsF (begF n) Q).1) :
    F.length ≤ 296 ∧ n ≤ F.length ∧ GoodC F ∧ VarsAt F n ∧ NF n F ∧ ∀ (j : Nat) (hj : j < Q.length), ∃ a : Nat, (goalsF (begF n) Q).2[j]? = some (a : Int) ∧ Laid F id (a : Int) Q[j] ∧ F[a]? = some ⟨Q[j].kind, (Q[j].args.length : Int), Q[j].s⟩ := by
  obtain ⟨v0, v8, l5, lg⟩ := hg
  have hnd := nodesL_le Q (fun g hg => (lg g hg).2.2)
  have h2 := goalsF_len1 Q (begF n)
  rw [begF_len, ← hF] at h2
  have hlg : ∀ t ∈ Q, t.Good (n : Int) := fun t ht => (lg t ht).2.1
  have hva : VarsAt F n := fun i hi => by
    rw [hF, goals_keep Q _ i (by rw [begF_len]; exact hi)]
    exact begF_vars n i hi
  obtain ⟨n3, n4⟩ := goals_nf n Q (begF n) (fun t ht => ⟨(lg t ht).1, hlg t ht⟩) (begF_nf n) (by rw [begF_len]; exact Nat.le_refl _)
  have hla := goals_laid n F hva Q (begF n) hlg (by rw [begF_len]; exact Nat.le_refl _) (fun i hi hil => by rw [hF])
  rw [← hF] at n3 n4
  refine ⟨by omega, h2.1, ?_, hva, n3, fun j hj => ?_⟩
  · by_cases h0 : F.length = 0
    · intro i hi; omega
    · have hok := goals_good (v := n) (N := F.length) h2.1 (by omega) Q (begF n) hlg (begF_ok h2.1) (by rw [← hF]; exact Nat.le_refl _)
      rw [← hF] at hok
      intro i hi
      exact hok i _ (List.getElem?_eq_getElem hi)
  · obtain ⟨a, e1, e2⟩ := n4 j hj
    obtain ⟨a', f1, f2⟩ := hla j hj
    rw [e1] at f1
    obtain rfl := Option.some.inj f1
    exact ⟨a, e1, f2, e2⟩
theorem shiftF_zero {v : Int} {t : Tm} (h : t.Good v) (hv : v ≤ 8) : shiftF t 0 = t := by
  unfold shiftF
  induction h with
  | var n h0 h1 => simp [Tm.ren, Tm.renL, low_id h0 (show n < 1099511627776 by omega), low_id (show (0 : Int) ≤ 0 by omega) (show (0 : Int) < 1099511627776 by omega)]
  | atom s h => simp [Tm.ren, Tm.renL]
  | int n h0 h1 => simp [Tm.ren, Tm.renL]
  | comp s l h h1 h2 h3 _ ih =>
    simp only [Tm.ren, Tm.renL_map, show ¬ ((3 : Int) = 0) by decide, if_false, Tm.mk.injEq, true_and]
    conv => rhs; rw [← List.map_id l]
    exact List.map_congr_left fun x hx => ih x hx
theorem begin_sim {P : List Cl} {Q : List Tm} {n f : Nat} (hP : GoodP P) (hQ : GoodQ Q (n : Int)) (hf : f ≤ 150) : Sim P n (beginM Q (n : Int) f) ⟨[], [], (n : Int), f, []⟩ (Q.map fun t => ⟨t, 0⟩) := by
  obtain ⟨hok, hgl⟩ := start_ok (f := f) hP hQ hf
  refine ⟨hok, hgl, ?_⟩
  obtain ⟨F, hF⟩ : ∃ F, F = (goalsF (begF n) Q).1 := ⟨_, rfl⟩
  obtain ⟨b1, b2, b3, b4, b5, b6⟩ := query_block hQ F hF
  have hcells : (queryB Q (n : Int)).cells = F := by rw [hF]; simp [queryB]
  have hgoals : (queryB Q (n : Int)).goals = (goalsF (begF n) Q).2 := by simp [queryB]
  have h0g : Hp.Good ⟨[], []⟩ := ⟨fun i hi => by simp at hi, fun j hj => by simp at hj, by simp, by simp⟩
  have hld := load_eq (h := ⟨[], []⟩) (F := F) h0g b3 (by simp only [List.length_nil]; omega)
  have hg1 := load_good (h := ⟨[], []⟩) (F := F) h0g b3 (by simp only [List.length_nil]; omega)
  simp only [List.length_nil, Int.natCast_zero] at hld hg1
  have hM0 : Mon 0 [] (fun x => x) [] := ⟨fun x y hx => by have := hx.1; unfold Inb at this; simp at this; omega, fun x hx => by have := hx.1; unfold Inb at this; simp at this; omega, fun x _ => rfl⟩
  have hM1 := load_mon hM0 (EnvOk.nil 0) (Int.le_refl _) b5
  rw [Int.zero_add] at hM1
  simp only [List.length_nil] at hM1
  have hφ : ∀ k : Int, 0 ≤ k → k < (n : Int) → phiL [] 0 (fun x => x) (k + 0) = 0 + k := fun k h0 h1 => by
    unfold phiL; simp only [List.length_nil]; rw [if_neg (by omega)]; omega
  have tell : ∀ (t : Tm) (a : Int), t.Good (n : Int) → Laid F id a t → Hr ([] ++ F.map (shC 0)) (phiL [] 0 (fun x => x)) [] (fun _ => True) (0 + a) t := fun t a ht ha => by
    have h1 := laid_shift (H := []) t a ha
    have := laid_hr (v := (n : Int)) (φ := phiL [] 0 (fun x => x)) (EnvOk.nil 0) (Int.le_refl _) (by omega) hQ.2.1 hφ t _ ht h1
    rw [shiftF_zero ht hQ.2.1, Int.add_comm] at this
    exact this
  have hgat : ∀ (j : Nat) (hj : j < Q.length), ∃ a, (goalsF (begF n) Q).2[j]? = some a ∧ GoalAt (n : Int) ([] ++ F.map (shC 0)) (phiL [] 0 (fun x => x)) [] (0 + a) Q[j] := fun j hj => by
    obtain ⟨a, e1, e2, e3⟩ := b6 j hj
    have hgj := hQ.2.2.2 _ (List.getElem_mem hj)
    obtain ⟨c1, c2⟩ := cellAt_some e3
    obtain ⟨d1, d2⟩ := cellAt_shift (H := []) c2
    rw [c1, shC_same _ (by simpa using IsGoal.ne hgj.1), Int.add_comm] at d1
    rw [Int.add_comm] at d2
    exact ⟨(a : Int), e1, d2, d1, hgj.1, hgj.2.1, tell _ _ hgj.2.1 e2⟩
  have hlg := goalsF_len2 Q (begF n)
  obtain ⟨p1, p2, p3⟩ := push_chain (N := (n : Int)) (base := 0) (bar := 0) (gs0 := []) (nx := -1) (rest := []) (by show (-1 : Int) = -1; rfl) (goalsF (begF n) Q).2 Q hlg hgat
  rw [List.append_nil] at p1
  have hb : beginM Q (n : Int) f = { h := ⟨[] ++ F.map (shC 0), []⟩, goals := (pushM 0 0 (goalsF (begF n) Q).2 [] (-1)).1, choices := [], now := (pushM 0 0 (goalsF (begF n) Q).2 [] (-1)).2, query := 0, fuel := f, out := [] } := by
    unfold beginM
    simp only [hcells, hgoals, hld]
  rw [hb]
  refine ⟨hg1, rfl, rfl, by simp, ⟨_, hM1, fun v hv => ?_, p1⟩, trivial, ?_, by simp, ?_⟩
  · have h1 := b4 v hv
    obtain ⟨c1, c2⟩ := cellAt_some h1
    obtain ⟨d1, d2⟩ := cellAt_shift (H := []) c2
    simp only [List.length_nil, Int.natCast_zero, Int.add_zero] at d1 d2
    rw [c1, shC, if_pos rfl] at d1
    simp only [Int.natCast_zero, Int.add_zero] at d1
    rw [Int.zero_add]
    have hst : slook [] (tvar (v : Nat)) = tvar (v : Nat) := slook_stop (.inr rfl)
    exact ⟨d2, .var (.stop d2 (.inr (by rw [d1]))) (by rw [d1]) trivial (by rw [hst]; rfl) (by rw [hst]; unfold phiL; simp only [List.length_nil]; rw [if_neg (by omega)]; show (v : Int) = _; omega)⟩
  · simp only [List.nil_append, List.length_map, slackM, List.length_nil]
    omega
  · have h5 : Q.length ≤ 5 := hQ.2.2.1
    simp only [pushM_len, hlg, List.length_nil, slackG]
    omega
noncomputable def machF (P : List Cl) (Q : List Tm) (vars fuel every : Int) : List Ev × Int :=
  haveI := Classical.propDecidable (GoodP P ∧ GoodQ Q vars)
  if ¬ (GoodP P ∧ GoodQ Q vars) then ([], 1)
  else if fuel < 0 ∨ fuel > 150 ∨ every < 0 then ([], 2)
  else ((runM P vars.toNat fuel every (fuel.toNat + 14) (beginM Q vars fuel.toNat)).out, 0)
theorem mach_same (P : List Cl) (Q : List Tm) (vars fuel every : Int) (he : 0 ≤ every) : machF P Q vars fuel every = solveF P Q vars fuel := by
  unfold machF
  rcases solveF_cases P Q vars fuel with ⟨hn, e⟩ | ⟨hg, hf, e⟩ | ⟨hg, h0, h1, e⟩
  · rw [e, if_pos hn]
  · rw [e, if_neg (not_not_intro hg), if_pos (by omega)]
  · rw [e, if_neg (not_not_intro hg), if_neg (by omega)]
    obtain ⟨n, rfl⟩ := Int.eq_ofNat_of_zero_le hg.2.1
    obtain ⟨f, rfl⟩ := Int.eq_ofNat_of_zero_le h0
    rw [Int.toNat_natCast, Int.toNat_natCast]
    have := run_sim hg.1 (f : Int) every (f + 14) _ _ _ (begin_sim (f := f) hg.1 hg.2 (by omega)) (by simp only; omega) (by simp)
    rw [this]
section
variable {P : List Cl} {q : Nat} {m : Mv} {s : Sv}
theorem bkpre_congr : ∀ (cs : List Cm) (m m' : Mv), m.h = m'.h → m.goals = m'.goals → BkPre P cs m → BkPre P cs m'
  | [], m, m', _, _, h => trivial
  | c :: cs, m, m', e1, e2, h => by
    obtain ⟨h1, h2, h3, h4, h5⟩ := h
    refine ⟨by rw [← e2]; exact h1, h2, by rw [← e1]; exact h3, ?_, bkpre_congr cs _ _ ?_ ?_ h5⟩
    · unfold goalM at h4 ⊢
      rw [← e1, ← e2]; exact h4
    · simp only [e1]
    · exact e2
theorem bkpre_of : ∀ (cs : List Cm) (ds : List Chc) (m : Mv) (s : Sv), SvOk P { s with choices := ds } → m.h.Good → ChsR m.h s.env s.vars q m.query m.goals cs ds → BkPre P cs m
  | [], ds, m, s, _, _, _ => trivial
  | _ :: _, [], m, s, _, _, h => h.elim
  | c :: cs, d :: ds, m, s, hok, hg, hch => by
    obtain ⟨k, hle, hrest⟩ := hch
    have hdo := hok.chc d (by simp)
    have hpop := hok.pop
    have hpw := (List.pairwise_cons.1 hok.trails).1
    simp only at hdo hpop hpw
    have hu := undo_cut hg k.top k.tr k.good
    have hlen := oldH_len (h := m.h) c.top c.trail k.top
    have hsnap := k.snap
    cases hg' : d.g with
    | nil => exact absurd hg' hdo.ne
    | cons g rest =>
      rw [hg'] at hsnap
      obtain ⟨φ, -, -, kk, e1, hlt, -, hga, -⟩ := hsnap
      have e2 : kk = c.goal := by omega
      subst e2
      refine ⟨hlt, by rw [k.from_]; have := hdo.lt; omega, by rw [hu]; exact k.good, by rw [hu]; exact hga.inb, ?_⟩
      rw [hu]
      refine bkpre_of cs ds { m with choices := cs, h := oldH m.h c.top c.trail } { s with choices := ds, env := s.env.take d.trail } hpop k.good ?_
      exact hrest.imp fun x y hx hy r => by
        obtain ⟨h1, h2⟩ := hle x hx
        refine r.move (old_old h1 h2) (by rw [hlen]; exact h1) ?_ ?_ ?_ (Int.le_refl _) (fun _ _ => rfl) (Nat.le_refl _)
        · show x.trail ≤ (m.h.trail.take c.trail).length
          rw [List.length_take]; have := k.tr; omega
        · rw [List.take_take, Nat.min_eq_left (hpw y hy)]
        · rw [List.length_take]; have := hpw y hy; have := r.dtr; omega
theorem sim_few {gl : List Gl} (S : Sim P q m s gl) : m.choices.length ≤ 150 ∧ m.goals.length ≤ 5000 := by
  have h1 := S.sim.chc.len
  have h2 := S.ok.few
  have h3 := S.sim.gcnt
  omega
theorem sim_bk {gl : List Gl} (S : Sim P q m s gl) : BkPre P m.choices m := bkpre_of m.choices s.choices m s S.ok S.sim.good S.sim.chc
theorem sim_query {gl : List Gl} (S : Sim P q m s gl) : ∀ v : Nat, v < q → I64 (m.query + (v : Nat)) := fun v hv => by
  obtain ⟨φ, -, hq, -⟩ := S.sim.cur
  obtain ⟨h0, h1⟩ := (hq v hv).1
  have := S.sim.good.2.2.1
  unfold I64
  omega
theorem hr_look {N : Int} {l : List Ce} {φ : Int → Int} {E : Env} {K : Int → Prop} {a : Int} {t : Tm} (h : Hr l φ E K a t) : 0 ≤ look l a := by
  obtain ⟨x, hx⟩ := h.looks
  rw [look_of hx]
  exact hx.nonneg
theorem good_num {N : Int} {t : Tm} (h : t.In N) (hk : t.kind = 2) : -1099511627776 ≤ t.n ∧ t.n ≤ 1099511627776 := by
  cases h with
  | var => cases hk
  | atom => cases hk
  | int n h0 h1 => exact ⟨h0, h1⟩
  | comp => cases hk
theorem good_args {N : Int} {t : Tm} (h : t.In N) : t.args.length ≤ 4 := by
  cases h with
  | var => simp [Tm.args]
  | atom => simp [Tm.args]
  | int => simp [Tm.args]
  | comp _ _ _ _ _ h3 => exact h3
theorem sim_step {g : Gl} {rest : List Gl} (hP : GoodP P) (S : Sim P q m s (g :: rest)) (hqv : (q : Int) ≤ s.vars) (hout : s.out.length ≤ 11) (hf : m.fuel ≠ 0) : StPre P m := by
  obtain ⟨hok, hgls, S⟩ := S
  obtain ⟨φ, hM, hq, kk, e1, hlt, hbar, hga, hnx, hch⟩ := S.cur
  obtain rfl : kk = m.now.toNat := by omega
  have hf' : s.fuel ≠ 0 := by rw [← S.fuel]; exact hf
  have hp := pot_fuel s.fuel s.choices hf'
  have hs1 : SvOk P { s with fuel := s.fuel - 1 } := by
    obtain ⟨h1, h2, h3, h4, h5, h6, h7, h8⟩ := hok
    rw [hp] at h6 h7
    exact ⟨h1, h2, h3, h4, h5, by simp only; omega, by simp only; omega, by simp only; omega⟩
  have hpV := hok.potV
  have hpE := hok.potE
  rw [hp] at hpE
  have hsl : ∀ c : Nat, c + slackM m.fuel m.out ≤ 60000 → c + 300 + slackM (m.fuel - 1) m.out ≤ 60000 := fun c h => by
    unfold slackM at h ⊢
    omega
  have hsl2 : ∀ c : Nat, c + 300 + slackM m.fuel m.out ≤ 60000 → c + 300 + slackM (m.fuel - 1) m.out ≤ 60000 := fun c h => by
    unfold slackM at h ⊢
    omega
  have hslg : m.goals.length + 5 + slackG (m.fuel - 1) m.out ≤ 5000 := by
    have h := S.gcnt
    unfold slackG at h ⊢
    omega
  have C : CallOk q { m with fuel := m.fuel - 1 } { s with fuel := s.fuel - 1 } m.now.toNat g rest :=
    { good := S.good, env := hok.env, v0 := hok.vars0, v1 := by simp only; omega, qv := hqv, gt := (hgls g (by simp)).1, fuel := by show m.fuel - 1 = s.fuel - 1; rw [S.fuel], out := S.out, tr := S.tr
      cur := ⟨φ, hM, hq, m.now.toNat, rfl, hlt, hbar, hga, by rw [← e1]; exact hnx, hch⟩, chc := S.chc, pot := hsl _ S.pot, pots := fun c hc => hsl2 _ (S.pots c hc), gcnt := hslg }
  have hga' : GoalAt s.vars m.h.cells φ s.env (goalM m m.now.toNat).at_ g.t := hga
  have hkc := known_cell hga'
  have htin := hga'.tin
  have hcl := S.chc.len
  have hfew := hok.few
  refine ⟨by omega, hlt, S.good, hga'.inb, ?_, ?_, ?_, ?_, ?_⟩
  · rw [hga'.cell]; exact Int.natCast_nonneg _
  · rw [hga'.cell]; have := good_args htin; simp only; omega
  · intro hk n1 n2 n3 n4
    have hk' := hkc.1 hk
    rw [hga'.cell] at n1 n2 n3 n4
    simp only at n1 n2 n3 n4
    have h2 : 2 ≤ g.t.args.length := by
      rcases hk' with ⟨_, h | h | h⟩ | ⟨h, _⟩ | ⟨h, _⟩
      · exact absurd h n1
      · exact absurd h n2
      · exact absurd h n3
      · omega
      · omega
    have hne : g.t.args ≠ [] := fun e => by rw [e] at h2; simp at h2
    have ha := goal_args hga' hne 0 (by omega)
    have hb := goal_args hga' hne 1 (by omega)
    simp only [Int.natCast_zero, Int.add_zero] at ha
    rw [show (goalM m m.now.toNat).at_ + 1 + ((1 : Nat) : Int) = (goalM m m.now.toNat).at_ + 2 by omega] at hb
    refine ⟨hr_look (N := s.vars) ha, hr_look (N := s.vars) hb, fun ka kb => ?_⟩
    obtain ⟨a1, a2⟩ := hr_num ha
    obtain ⟨c1, c2⟩ := hr_num hb
    have g1 := good_num (slook_in hok.env (htin.arg (List.getElem_mem (show 0 < g.t.args.length by omega)))) (a1.1 ka)
    have g2 := good_num (slook_in hok.env (htin.arg (List.getElem_mem (show 1 < g.t.args.length by omega)))) (c1.1 kb)
    rw [a2 (a1.1 ka), c2 (c1.1 kb)]
    unfold I64
    omega
  · intro m' hk e
    have hk' := hkc.1 hk
    have hks := known_sim (P := P) C hk'
    have e1' : goalM { m with fuel := m.fuel - 1 } m.now.toNat = goalM m m.now.toNat := rfl
    rw [e1', e] at hks
    have hkf := fun (r : Option Bool) (s' : Sv) (e : knownF g { s with fuel := s.fuel - 1 } = (r, s')) (hr : r ≠ none) => knownF_ok hs1 (hgls g (by simp)).1 hk' (by simp only; omega) e hr
    generalize knownF g { s with fuel := s.fuel - 1 } = rs at *
    obtain ⟨rb, s'⟩ := rs
    match rb, hks, hkf with
    | none, hks, _ => exact hks.elim
    | some true, hks, _ => exact hks.elim
    | some false, hks, hkf =>
      obtain ⟨a1, a2, a3, a4⟩ := hkf (some false) s' rfl (by simp)
      have B := hks a1
      have b1 := B.chc.len
      have b2 := a1.few
      have b3 := B.gcnt
      have b4 := B.out
      refine ⟨bkpre_of m'.choices s'.choices m' s' a1 B.good B.chc, by omega, by omega, by rw [b4, a3]; show s.out.length + 1 ≤ 20; omega⟩
  · intro m' hk e
    obtain rfl := callM_no P.length 0 _ _ e
    exact bkpre_congr _ m _ rfl rfl (bkpre_of m.choices s.choices m s hok S.good S.chc)
theorem sim_col {gl : List Gl} (S : Sim P q m s gl) : CoPre q m := by
  have hquery := sim_query S
  obtain ⟨hok, hgls, S⟩ := S
  obtain ⟨φ, hM, hq, hch⟩ := S.cur
  have hst : ∀ n ∈ startsM m, 0 ≤ n → Vis m.goals m.h.cells n.toNat := by
    intro n hn h0
    unfold startsM at hn
    rcases List.mem_append.1 hn with hn | hn
    · obtain ⟨c, hc, rfl⟩ := List.mem_map.1 hn
      obtain ⟨d, hd, k⟩ := S.chc.mem c (List.mem_reverse.1 hc)
      obtain ⟨φ', -, -, k3⟩ := k.snap
      refine chain_vis (fun a ha => ?_) _ _ k3 h0
      have := oldH_len (h := m.h) c.top c.trail k.top
      have := k.top
      unfold Inb at ha ⊢
      omega
    · simp only [List.mem_singleton] at hn
      subst hn
      exact chain_vis (fun _ h => h) _ _ hch h0
  have hgc := S.gcnt
  have hlow : ∀ n ∈ startsM m, -1 ≤ n := by
    intro n hn
    unfold startsM at hn
    rcases List.mem_append.1 hn with hn | hn
    · obtain ⟨c, hc, rfl⟩ := List.mem_map.1 hn
      omega
    · simp only [List.mem_singleton] at hn
      subst hn
      exact hch.ge.1
  have hgood := S.good
  have h65 := hgood.2.2.1
  have htl := hgood.2.2.2
  obtain ⟨-, -, -, hvv⟩ := needed_ok (l := m.h.cells) (startsM m) [] hst (by simp) (by intro i hi; cases hi)
  have hri : ∀ r ∈ rootsM q m, Inb m.h.cells r := by
    intro r hr
    unfold rootsM at hr
    rcases List.mem_append.1 hr with hr | hr
    · obtain ⟨v, hv, rfl⟩ := List.mem_map.1 hr
      exact (hq v (List.mem_range.1 hv)).1
    · obtain ⟨i, hi, rfl⟩ := List.mem_map.1 hr
      cases hvv i hi with | mk _ h1 h2 => exact h2
  refine ⟨hst, fun n hn => ?_, hquery, fun _ => ?_⟩
  · by_cases h0 : 0 ≤ n
    · have := (hst n hn h0).lt
      unfold I64; omega
    · have := hlow n hn
      unfold I64; omega
  · rw [collect_eq hgood hri]
    simp only [List.length_map, List.length_reverse]
    refine ⟨trivial, trivial, trivial, fun x hx => ?_, fun x hx => ?_⟩
    · obtain ⟨y, hy, rfl⟩ := List.mem_map.1 hx
      obtain ⟨c, hc, rfl⟩ := List.mem_map.1 hy
      obtain ⟨d, hd, k⟩ := S.chc.mem c (List.mem_reverse.1 hc)
      have h1 := k.top
      have h2 := cnt_le_len (m := marks m.h.cells (rootsM q m)) ((c.top : Int).toNat)
      unfold ahead
      rw [Int.toNat_natCast] at h2 ⊢
      omega
    · obtain ⟨y, hy, rfl⟩ := List.mem_map.1 hx
      obtain ⟨c, hc, rfl⟩ := List.mem_map.1 hy
      obtain ⟨d, hd, k⟩ := S.chc.mem c (List.mem_reverse.1 hc)
      have h1 := k.tr
      have h2 := cnt_le_len (m := trailM (marks m.h.cells (rootsM q m)) m.h.trail) ((c.trail : Int).toNat)
      unfold ahead
      rw [Int.toNat_natCast] at h2 ⊢
      omega
end
def RunAt (P : List Cl) (q : Nat) (fuel every : Int) (R : Mv) (m : Mv) : Prop := ∃ (k : Nat) (s : Sv) (gl : List Gl), Sim P q m s gl ∧ (q : Int) ≤ s.vars ∧ s.out.length ≤ 11 ∧ s.fuel + 13 ≤ k + s.out.length ∧ runM P q fuel every k m = R
def muM (m : Mv) : Nat := m.fuel + 13 - m.out.length
section
variable {P : List Cl} {q : Nat} {fuel every : Int} {R m : Mv}
theorem answer_fuel {s s' : Sv} (e : answerF q s = (true, s')) : s'.fuel = s.fuel := by
  unfold answerF at e
  split at e
  · simp at e
  · simp only at e
    split at e
    · simp at e
    · simp only [Prod.mk.injEq, true_and] at e
      subst e
      rfl
theorem RunAt.few (h : RunAt P q fuel every R m) : m.choices.length < 900 ∧ m.goals.length ≤ 5900 ∧ m.out.length + 2 ≤ 20 ∧ CoPre q m ∧ (∀ e : Ev, BkPre P m.choices { m with out := m.out ++ [e] }) ∧ ∀ v : Nat, v < q → I64 (m.query + (v : Nat)) := by
  obtain ⟨k, s, gl, S, hqv, hout, hk, hr⟩ := h
  obtain ⟨h1, h2⟩ := sim_few S
  refine ⟨by omega, by omega, by rw [S.sim.out]; omega, sim_col S, fun e => bkpre_congr _ m _ rfl rfl (sim_bk S), sim_query S⟩
theorem RunAt.answer (hP : GoodP P) (h : RunAt P q fuel every R m) (hn : m.now < 0) : (∀ m', answerM P q m = (.next, m') → RunAt P q fuel every R m' ∧ muM m' < muM m) ∧ (∀ r m', answerM P q m = (r, m') → r ≠ .next → m' = R) := by
  obtain ⟨k, s, gl, S, hqv, hout, hk, hr⟩ := h
  obtain ⟨n, rfl⟩ : ∃ n, k = n + 1 := ⟨k - 1, by omega⟩
  cases gl with
  | cons g rest =>
    obtain ⟨φ, -, -, kk, h, -⟩ := S.sim.cur
    omega
  | nil =>
    have hA := answer_sim hP S hqv hout
    have hok2 := fun s' (e : answerF q s = (true, s')) => answerF_ok2 S.ok e
    have hat := fun s' (e : answerF q s = (true, s')) => answer_fuel e
    rw [runM, if_pos hn] at hr
    have hmf := S.sim.fuel
    have hmo := S.sim.out
    refine ⟨fun m' e => ?_, fun r m' e hne => ?_⟩
    · rw [e] at hA hr
      simp only at hr
      cases ha : answerF q s with
      | mk b s' =>
        rw [ha] at hA hok2 hat
        cases b with
        | false => exact hA.elim
        | true =>
          simp only at hA
          obtain ⟨a1, a2, a3, a4⟩ := hok2 s' rfl
          have a5 := hat s' rfl
          have hbn := fun s'' gl (e : backF P s'.choices s' = (.next gl, s'')) => backF_next s'.choices s' s'' gl a1 e
          generalize backF P s'.choices s' = rs at *
          obtain ⟨rb, s''⟩ := rs
          cases rb with
          | next gl =>
            obtain ⟨b1, b2, b3, b4, b5⟩ := hbn s'' gl rfl
            have hA' : Sim0 q m' s'' gl := hA
            have hf2 := hA'.fuel
            have ho2 := hA'.out
            refine ⟨⟨n, s'', gl, ⟨b1, b2, hA'⟩, by omega, by rw [b4]; exact a3, by rw [b4]; omega, hr⟩, ?_⟩
            unfold muM
            rw [hf2, ho2, hmf, hmo, b4]
            omega
          | no => exact hA.elim
          | off => exact hA.elim
    · rw [e] at hr
      cases r with
      | next => exact absurd rfl hne
      | no => exact hr
      | off => exact hr
noncomputable def colM (q : Nat) (fuel every : Int) (m : Mv) : Mv := if every > 0 ∧ (fuel - m.fuel) % every = 0 then collectM q m else m
theorem RunAt.step (hP : GoodP P) (h : RunAt P q fuel every R m) (hn : ¬ m.now < 0) : ((colM q fuel every m).fuel ≠ 0 → StPre P (colM q fuel every m)) ∧ (colM q fuel every m).choices.length < 900 ∧ (colM q fuel every m).goals.length ≤ 5900 ∧ (colM q fuel every m).out.length + 1 ≤ 20 ∧
    (∀ m', stepM P (colM q fuel every m) = (.next, m') → RunAt P q fuel every R m' ∧ muM m' < muM m) ∧ (∀ r m', stepM P (colM q fuel every m) = (r, m') → r ≠ .next → m' = R) := by
  obtain ⟨k, s, gl, S, hqv, hout, hk, hr⟩ := h
  obtain ⟨n, rfl⟩ : ∃ n, k = n + 1 := ⟨k - 1, by omega⟩
  cases gl with
  | nil =>
    obtain ⟨φ, -, -, h⟩ := S.sim.cur
    have : m.now = -1 := h
    omega
  | cons g rest =>
    have S2 : Sim P q (colM q fuel every m) s (g :: rest) := by
      unfold colM
      split
      · exact collect_sim S
      · exact S
    rw [runM, if_neg hn] at hr
    have hmf := S.sim.fuel
    have hmo := S.sim.out
    have hA := step_sim hP S2 hqv
    have hsn := fun s' gl (e : stepF P g rest s = (.next gl, s')) => stepF_next S.ok S.gls e
    obtain ⟨f1, f2⟩ := sim_few S2
    refine ⟨fun hf => sim_step hP S2 hqv hout hf, by omega, by omega, by rw [S2.sim.out]; omega, fun m' e => ?_, fun r m' e hne => ?_⟩
    · have e' := e
      unfold colM at e'
      rw [e'] at hr
      rw [e] at hA
      simp only at hr
      generalize stepF P g rest s = rs at *
      obtain ⟨rb, s'⟩ := rs
      cases rb with
      | next gl =>
        obtain ⟨b1, b2, b3, b4, b5⟩ := hsn s' gl rfl
        have hA' : Sim0 q m' s' gl := hA
        have hf2 := hA'.fuel
        have ho2 := hA'.out
        refine ⟨⟨n, s', gl, ⟨b1, b2, hA'⟩, by omega, by rw [b4]; exact hout, by rw [b4]; omega, hr⟩, ?_⟩
        unfold muM
        rw [hf2, ho2, hmf, hmo, b4]
        omega
      | no => exact hA.elim
      | off => exact hA.elim
    · unfold colM at e
      rw [e] at hr
      cases r with
      | next => exact absurd rfl hne
      | no => exact hr
      | off => exact hr
end
end Go.Proofs.Ytlpmfkpefoegeab
