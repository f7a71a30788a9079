/-
  Machine and solver side by side: the heap is collected.
-/
import Derived.Test.YtlpmfkpefoegeabPMStep
namespace Go.Proofs.Ytlpmfkpefoegeab
set_option linter.unusedVariables false
set_option linter.unusedSimpArgs false
theorem nextF_all {P : List Cl} {t : Tm} : ∀ (n k : Nat), n = P.length - k → k ≤ P.length → (nextF P t n k = P.length ↔ ∀ (i : Nat) (h : i < P.length), k ≤ i → ¬ likeF (P[i]).head t)
  | 0, k, hn, hk => by
    rw [nextF]
    exact ⟨fun _ i h hi => by omega, fun _ => by omega⟩
  | n + 1, k, hn, hk => by
    have hlt : k < P.length := by omega
    have ih := nextF_all (P := P) (t := t) n (k + 1) (by omega) (by omega)
    rw [nextF, List.getElem?_eq_getElem hlt]
    simp only
    by_cases h : likeF (P[k]).head t
    · rw [if_pos h]
      exact ⟨fun e => by omega, fun h2 => absurd h (h2 k hlt (Nat.le_refl _))⟩
    · rw [if_neg h, ih]
      refine ⟨fun h2 i hi hki => ?_, fun h2 i hi hki => h2 i hi (by omega)⟩
      by_cases e : i = k
      · subst e; exact h
      · exact h2 i hi (by omega)
theorem known_cell {N : Int} {l : List Ce} {φ : Int → Int} {E : Env} {a : Int} {t : Tm} (h : GoalAt N l φ E a t) : KnownC (cellAt l a) ↔ t.Known := by
  unfold KnownC Tm.Known
  rw [h.cell]
  simp [Tm.args, Tm.s]
section
variable {P : List Cl} {q : Nat} {m : Mv} {s : Sv} {g : Gl} {rest : List Gl}
theorem step_sim (hP : GoodP P) (S : Sim P q m s (g :: rest)) (hqv : (q : Int) ≤ s.vars) : Both q (stepM P m) (stepF P g rest s) := by
  obtain ⟨hok, hgls, S⟩ := S
  unfold stepM stepF
  rw [S.fuel]
  by_cases hf : s.fuel = 0
  · rw [if_pos hf, if_pos hf]
    show m.out ++ _ = s.out ++ _
    rw [S.out]
  rw [if_neg hf, if_neg hf]
  obtain ⟨φ, hM, hq, kk, e1, hlt, hbar, hga, hnx, hch⟩ := S.cur
  obtain rfl : kk = m.now.toNat := by omega
  have hp := pot_fuel s.fuel s.choices hf
  have hs1 : SvOk P { s with fuel := s.fuel - 1 } := by
    obtain ⟨h1, h2, h3, h4, h5, h6, h7, h8⟩ := hok
    rw [hp] at h6 h7
    exact ⟨h1, h2, h3, h4, h5, by simp only; omega, by simp only; omega, by simp only; omega⟩
  have hpV := hok.potV
  have hpE := hok.potE
  rw [hp] at hpE
  have hsl : ∀ c : Nat, c + slackM m.fuel m.out ≤ 60000 → c + 300 + slackM (s.fuel - 1) m.out ≤ 60000 := fun c h => by
    unfold slackM at h ⊢
    rw [S.fuel] at h
    omega
  have hsl2 : ∀ c : Nat, c + 300 + slackM m.fuel m.out ≤ 60000 → c + 300 + slackM (s.fuel - 1) m.out ≤ 60000 := fun c h => by
    unfold slackM at h ⊢
    rw [S.fuel] at h
    omega
  have hslg : m.goals.length + 5 + slackG (s.fuel - 1) m.out ≤ 5000 := by
    have h := S.gcnt
    unfold slackG at h ⊢
    rw [S.fuel] at h
    omega
  have C : CallOk q { m with fuel := s.fuel - 1 } { s with fuel := s.fuel - 1 } m.now.toNat g rest :=
    { good := S.good, env := hok.env, v0 := hok.vars0, v1 := by simp only; omega, qv := hqv, gt := (hgls g (by simp)).1, fuel := rfl, out := S.out, tr := S.tr
      cur := ⟨φ, hM, hq, m.now.toNat, rfl, hlt, hbar, hga, by rw [← e1]; exact hnx, hch⟩, chc := S.chc, pot := hsl _ S.pot, pots := fun c hc => hsl2 _ (S.pots c hc), gcnt := hslg }
  have hB : Bak P q { m with fuel := s.fuel - 1 } { s with fuel := s.fuel - 1 } m.choices s.choices := ⟨hs1, S.good, rfl, S.out, S.chc, C.pots, C.gcnt⟩
  have hgmk : goalM { m with fuel := s.fuel - 1 } m.now.toNat = (m.goals[m.now.toNat]?).getD default := rfl
  simp only
  have hga' : GoalAt s.vars m.h.cells φ s.env (goalM { m with fuel := s.fuel - 1 } m.now.toNat).at_ g.t := hga
  have hkc := known_cell hga'
  by_cases hk : g.t.Known
  · rw [if_pos (hkc.2 hk), if_pos hk]
    have hks := known_sim (P := P) C hk
    have hkf := fun (r : Option Bool) (s' : Sv) (e : knownF g { s with fuel := s.fuel - 1 } = (r, s')) (hr : r ≠ none) => knownF_ok hs1 (hgls g (by simp)).1 hk (by simp only; omega) e hr
    generalize knownM (goalM { m with fuel := s.fuel - 1 } m.now.toNat) { m with fuel := s.fuel - 1 } = rm at *
    generalize knownF g { s with fuel := s.fuel - 1 } = rs at *
    obtain ⟨ra, m'⟩ := rm
    obtain ⟨rb, s'⟩ := rs
    match ra, rb, hks, hkf with
    | none, none, hks, _ => exact hks
    | some true, some true, hks, _ => exact hks
    | some false, some false, hks, hkf =>
      obtain ⟨a1, a2, a3, a4⟩ := hkf (some false) s' rfl (by simp)
      exact back_sim hP _ _ _ _ (hks a1) (by rw [a4]; exact hqv)
    | none, some b, hks, _ => cases b <;> exact hks.elim
    | some b, none, hks, _ => cases b <;> exact hks.elim
    | some true, some false, hks, _ => exact hks.elim
    | some false, some true, hks, _ => exact hks.elim
  · rw [if_neg (fun h => hk (hkc.1 h)), if_neg hk]
    have hnext : nextM P (cellAt m.h.cells (goalM { m with fuel := s.fuel - 1 } m.now.toNat).at_) P.length 0 = nextF P g.t P.length 0 := next_same hga' P _ _
    rw [hnext]
    have hall := nextF_all (P := P) (t := g.t) P.length 0 (by omega) (Nat.zero_le _)
    by_cases hn : ∀ c ∈ P, ¬ likeF c.head g.t
    · rw [if_pos (hall.2 fun i h _ => hn _ (List.getElem_mem h)), if_pos hn]
      show m.out ++ _ = s.out ++ _
      rw [S.out]
    · rw [if_neg (fun h => hn fun c hc => by
        obtain ⟨i, hi, rfl⟩ := List.mem_iff_getElem.1 hc
        exact hall.1 h i hi (Nat.zero_le _)), if_neg hn]
      have hcall := call_sim hP C P.length 0 (by omega)
      have hno := callM_no (P := P) (n := m.now.toNat) (g := goalM { m with fuel := s.fuel - 1 } m.now.toNat) P.length 0 { m with fuel := s.fuel - 1 }
      have hnoF := callF_no (P := P) (g := g) (rest := rest) P.length 0 { s with fuel := s.fuel - 1 }
      generalize callM P m.now.toNat (goalM { m with fuel := s.fuel - 1 } m.now.toNat) P.length 0 { m with fuel := s.fuel - 1 } = rm at *
      generalize callF P g rest P.length 0 { s with fuel := s.fuel - 1 } = rs at *
      obtain ⟨ra, m'⟩ := rm
      obtain ⟨rb, s'⟩ := rs
      cases ra with
      | next =>
        cases rb with
        | next gl => exact hcall
        | no => exact hcall.elim
        | off => exact hcall.elim
      | off =>
        cases rb with
        | next gl => exact hcall.elim
        | no => exact hcall.elim
        | off => exact hcall
      | no =>
        cases rb with
        | next gl => exact hcall.elim
        | off => exact hcall.elim
        | no =>
          obtain rfl := hno m' rfl
          obtain rfl := hnoF s' rfl
          exact back_sim hP _ _ _ _ hB hqv
def TellR (l : List Ce) (φ : Int → Int) : Option (List Tm × Int) → Option (List Tm × Nat) → Prop
  | none, none => True
  | some (xs, left), some (ys, w) => left = (w : Int) ∧ w ≤ 200 ∧ ys = xs.map (Tm.ren φ) ∧ ∀ x ∈ xs, x.Vars (Free l)
  | _, _ => False
theorem tell_sim {h : Hp} {φ : Int → Int} {E : Env} {N : Int} {query : Int} (hg : h.Good) (hE : EnvOk N E) (hqN : (q : Int) ≤ N) (hq : ∀ v : Nat, v < q → Inb h.cells (query + (v : Nat)) ∧ Hr h.cells φ E (fun _ => True) (query + (v : Nat)) (tvar (v : Nat))) :
    ∀ v : Nat, v ≤ q → TellR h.cells φ (tellM h query v) (flL E 200 ((List.range v).map fun i => tvar (i : Nat)))
  | 0, _ => by rw [tellM]; simp only [List.range_zero, List.map_nil, flL_nil]; exact ⟨rfl, Nat.le_refl _, rfl, by simp⟩
  | v + 1, hv => by
    have ih := tell_sim hg hE hqN hq v (by omega)
    rw [tellM, List.range_succ, List.map_append, flL_app]
    revert ih
    cases tellM h query v with
    | none =>
      cases flL E 200 ((List.range v).map fun i => tvar (i : Nat)) with
      | none => intro _; trivial
      | some p => intro h; exact h.elim
    | some p =>
      obtain ⟨xs, left⟩ := p
      cases flL E 200 ((List.range v).map fun i => tvar (i : Nat)) with
      | none => intro h; exact h.elim
      | some p =>
        obtain ⟨ys, w⟩ := p
        rintro ⟨rfl, hw, e2, e3⟩
        simp only
        obtain ⟨q1, q2⟩ := hq v (by omega)
        have hl : leftOf (w : Int) = (w : Int) := by unfold leftOf; omega
        have hA := rd_fl (l := h.cells) (φ := φ) hE w [query + (v : Nat)] [tvar (v : Nat)] ⟨q2, trivial⟩ (by intro t ht; simp only [List.mem_singleton] at ht; subst ht; exact .var _ (by omega) (by omega))
        have ht : termF h (query + (v : Nat)) (w : Int) = termOf (w : Int) (rd1 h.cells w (query + (v : Nat))) := by
          rw [termF, if_neg (not_not_intro hg), if_neg (not_not_intro q1), hl, Int.toNat_natCast]
        rw [ht]
        unfold rd1
        simp only [List.map_cons, List.map_nil]
        have hle := rdL_le h.cells w [query + (v : Nat)]
        revert hA hle
        cases rdL h.cells w [query + (v : Nat)] with
        | none =>
          cases flL E w [tvar (v : Nat)] with
          | none => intro _ _; simp only [termOf]; trivial
          | some p => intro h; exact h.elim
        | some p =>
          obtain ⟨zs, w1⟩ := p
          cases flL E w [tvar (v : Nat)] with
          | none => intro h; exact h.elim
          | some p =>
            obtain ⟨us, w2⟩ := p
            rintro ⟨rfl, d2, d3⟩ hle
            obtain ⟨h1, h2⟩ := hle zs w1 rfl
            match zs, h2, d2, d3 with
            | [z], _, d2, d3 =>
              simp only [termOf, ne_eq, not_true_eq_false, if_false]
              refine ⟨by omega, by omega, by rw [e2, d2, List.map_append], fun x hx => ?_⟩
              rcases List.mem_append.1 hx with hx | hx
              · exact e3 x hx
              · exact d3 x hx
theorem answer_sim (hP : GoodP P) (S : Sim P q m s []) (hqv : (q : Int) ≤ s.vars) (hout : s.out.length ≤ 11) : Both q (answerM P q m) (match answerF q s with
    | (false, s') => (.off, s')
    | (true, s') => backF P s'.choices s') := by
  obtain ⟨hok, hgls, S⟩ := S
  obtain ⟨φ, hM, hq, hch⟩ := S.cur
  have ht := tell_sim S.good hok.env hqv hq q (Nat.le_refl _)
  unfold answerM answerF
  revert ht
  cases tellM m.h m.query q with
  | none =>
    cases flL s.env 200 ((List.range q).map fun i => tvar (i : Nat)) with
    | none => intro _; show m.out ++ _ = s.out ++ _; rw [S.out]
    | some p => intro h; exact h.elim
  | some p =>
    obtain ⟨xs, left⟩ := p
    cases flL s.env 200 ((List.range q).map fun i => tvar (i : Nat)) with
    | none => intro h; exact h.elim
    | some p =>
      obtain ⟨ys, w⟩ := p
      rintro ⟨-, -, e2, e3⟩
      simp only
      rw [tidy_same hM e2 e3, S.out]
      by_cases h12 : (s.out ++ [(⟨1, tidy xs⟩ : Ev)]).length ≥ 12
      · rw [if_pos h12, if_pos h12]
        show _ ++ _ = _ ++ _
        rfl
      · rw [if_neg h12, if_neg h12]
        simp only
        refine back_sim hP _ _ _ _ ⟨?_, S.good, S.fuel, rfl, S.chc, fun c hc => ?_, ?_⟩ hqv
        · obtain ⟨h1, h2, h3, h4, h5, h6, h7, h8⟩ := hok
          exact ⟨h1, h2, h3, h4, h5, h6, h7, h8⟩
        · have := S.pots c hc
          rw [S.out] at this
          unfold slackM at this ⊢
          simp only [List.length_append, List.length_singleton] at h12 ⊢
          omega
        · have := S.gcnt
          rw [S.out] at this
          unfold slackG at this ⊢
          simp only [List.length_append, List.length_singleton] at h12 ⊢
          omega
end
inductive Vis (gs : List Gm) (l : List Ce) : Nat → Prop where
  | mk (i : Nat) : i < gs.length → Inb l ((gs[i]?).getD default).at_ → ((gs[i]?).getD default).next < i → (0 ≤ ((gs[i]?).getD default).next → Vis gs l ((gs[i]?).getD default).next.toNat) → Vis gs l i
theorem chain_vis {N : Int} {l l' : List Ce} {φ : Int → Int} {E : Env} {gs : List Gm} (hl : ∀ a, Inb l' a → Inb l a) : ∀ (gl : List Gl) (n : Int), Chain N l' φ E gs n gl → 0 ≤ n → Vis gs l n.toNat
  | [], n, h, h0 => by have : n = -1 := h; omega
  | g :: r, n, ⟨k, h1, h2, h3, h4, h5, h6⟩, h0 => by
    subst h1
    rw [Int.toNat_natCast]
    exact .mk k h2 (hl _ h4.inb) (by omega) fun h => chain_vis hl r _ h6 h
def Clo (gs : List Gm) (vis : List Nat) : Prop := ∀ i ∈ vis, ((gs[i]?).getD default).next < 0 ∨ ((gs[i]?).getD default).next.toNat ∈ vis
section
variable {gs : List Gm} {l : List Ce}
theorem visit_ok : ∀ (k : Nat) (n : Int) (vis : List Nat), (0 ≤ n → n.toNat < k) → (0 ≤ n → Vis gs l n.toNat) → (∀ i ∈ vis, Vis gs l i) → (∀ i ∈ vis, ((gs[i]?).getD default).next < 0 ∨ ((gs[i]?).getD default).next.toNat ∈ vis ∨ ((gs[i]?).getD default).next = n) →
    Clo gs (visitM gs k n vis) ∧ (∀ i ∈ vis, i ∈ visitM gs k n vis) ∧ (0 ≤ n → n.toNat ∈ visitM gs k n vis) ∧ ∀ i ∈ visitM gs k n vis, Vis gs l i
  | 0, n, vis, hk, hn, hv, hc => by
    rw [visitM]
    refine ⟨fun i hi => ?_, fun i hi => hi, fun h => absurd (hk h) (Nat.not_lt_zero _), hv⟩
    rcases hc i hi with h | h | h
    · exact .inl h
    · exact .inr h
    · have : ¬ 0 ≤ n := fun h0 => absurd (hk h0) (Nat.not_lt_zero _)
      exact .inl (by omega)
  | k + 1, n, vis, hk, hn, hv, hc => by
    rw [visitM]
    by_cases h : n < 0 ∨ n.toNat ∈ vis
    · rw [if_pos h]
      refine ⟨fun i hi => ?_, fun i hi => hi, fun h0 => h.elim (fun h => by omega) id, hv⟩
      rcases hc i hi with h1 | h1 | h1
      · exact .inl h1
      · exact .inr h1
      · rcases h with h | h
        · exact .inl (by omega)
        · exact .inr (by rw [h1]; exact h)
    · rw [if_neg h]
      have h0 : 0 ≤ n := by omega
      have hvn := hn h0
      have hlt := hk h0
      cases hvn with
      | mk _ v1 v2 v3 v4 =>
        obtain ⟨c1, c2, c3, c4⟩ := visit_ok k ((gs[n.toNat]?).getD default).next (vis ++ [n.toNat]) (fun h => by omega) v4 (fun i hi => by
          rcases List.mem_append.1 hi with hi | hi
          · exact hv i hi
          · simp only [List.mem_singleton] at hi; subst hi; exact .mk _ v1 v2 v3 v4) (fun i hi => by
          rcases List.mem_append.1 hi with hi | hi
          · rcases hc i hi with h1 | h1 | h1
            · exact .inl h1
            · exact .inr (.inl (by simp [h1]))
            · exact .inr (.inl (by simp [h1]))
          · simp only [List.mem_singleton] at hi; subst hi; exact .inr (.inr rfl))
        exact ⟨c1, fun i hi => c2 i (by simp [hi]), fun _ => c2 _ (by simp), c4⟩
theorem needed_ok : ∀ (ns : List Int) (vis : List Nat), (∀ n ∈ ns, 0 ≤ n → Vis gs l n.toNat) → (∀ i ∈ vis, Vis gs l i) → Clo gs vis →
    Clo gs (ns.foldl (fun vis n => visitM gs (gs.length + 1) n vis) vis) ∧ (∀ i ∈ vis, i ∈ ns.foldl (fun vis n => visitM gs (gs.length + 1) n vis) vis) ∧ (∀ n ∈ ns, 0 ≤ n → n.toNat ∈ ns.foldl (fun vis n => visitM gs (gs.length + 1) n vis) vis) ∧ ∀ i ∈ ns.foldl (fun vis n => visitM gs (gs.length + 1) n vis) vis, Vis gs l i
  | [], vis, _, hv, hc => ⟨hc, fun _ h => h, by simp, hv⟩
  | n :: ns, vis, hn, hv, hc => by
    have hvn := hn n (by simp)
    obtain ⟨c1, c2, c3, c4⟩ := visit_ok (gs.length + 1) n vis (fun h0 => by cases hvn h0 with | mk _ h => omega) hvn hv (fun i hi => (hc i hi).imp id .inl)
    obtain ⟨d1, d2, d3, d4⟩ := needed_ok ns (visitM gs (gs.length + 1) n vis) (fun x hx => hn x (by simp [hx])) c4 c1
    rw [List.foldl_cons]
    refine ⟨d1, fun i hi => d2 i (c2 i hi), fun x hx h0 => ?_, d4⟩
    rcases List.mem_cons.1 hx with rfl | hx
    · exact d2 _ (c3 h0)
    · exact d3 x hx h0
end
theorem Chain.gc {N : Int} {l l' : List Ce} {φ φ' : Int → Int} {E E' : Env} {gs gs' : List Gm} {vis : List Nat} (hc : Clo gs vis) (hlen : gs'.length = gs.length)
    (hgs : ∀ i ∈ vis, ((gs'[i]?).getD default).bar = ((gs[i]?).getD default).bar ∧ ((gs'[i]?).getD default).next = ((gs[i]?).getD default).next)
    (hG : ∀ i ∈ vis, ∀ t, GoalAt N l φ E ((gs[i]?).getD default).at_ t → GoalAt N l' φ' E' ((gs'[i]?).getD default).at_ t) : ∀ (gl : List Gl) (n : Int), (0 ≤ n → n.toNat ∈ vis) → Chain N l φ E gs n gl → Chain N l' φ' E' gs' n gl
  | [], n, _, h => h
  | g :: r, n, hv, ⟨k, h1, h2, h3, h4, h5, h6⟩ => by
    subst h1
    have hk : k ∈ vis := by have := hv (Int.natCast_nonneg _); rwa [Int.toNat_natCast] at this
    obtain ⟨a1, a2⟩ := hgs k hk
    refine ⟨k, rfl, by omega, by rw [a1]; exact h3, hG k hk _ h4, by rw [a2]; exact h5, ?_⟩
    rw [a2]
    exact Chain.gc hc hlen hgs hG r _ (fun h0 => (hc k hk).elim (fun h => by omega) id) h6
theorem cnt_run {m : List Bool} {a : Nat} : ∀ (v : Nat), (∀ i, i < v → m[a + i]? = some true) → cnt m (a + v) = cnt m a + v
  | 0, _ => rfl
  | v + 1, h => by
    have ih := cnt_run (m := m) (a := a) v (fun i hi => h i (by omega))
    rw [← Nat.add_assoc, cnt, if_pos (h v (by omega)), ih]
    omega
theorem cnt_le_len {m : List Bool} : ∀ k, cnt m k ≤ k := cnt_le m
section
variable {P : List Cl} {q : Nat} {m : Mv} {s : Sv} {gl : List Gl}
theorem collect_eq {h : Hp} {roots tops mks : List Int} (hg : h.Good) (hr : ∀ r ∈ roots, Inb h.cells r) : collectF h roots tops mks = ⟨gcH h roots, roots.map (ahead (marks h.cells roots)), tops.map (ahead (marks h.cells roots)), mks.map (ahead (trailM (marks h.cells roots) h.trail)), 0⟩ := by
  rw [collectF, if_neg (not_not_intro hg), if_neg (not_not_intro hr)]
theorem collect_sim (S : Sim P q m s gl) : Sim P q (collectM q m) s gl := by
  obtain ⟨hok, hgls, S⟩ := S
  refine ⟨hok, hgls, ?_⟩
  obtain ⟨φ, hM, hq, hch⟩ := S.cur
  -- what is visited
  have hst : ∀ n ∈ startsM m, 0 ≤ n → Vis m.goals m.h.cells n.toNat := by
    intro n hn h0
    unfold startsM at hn
    rcases List.mem_append.1 hn with hn | hn
    · obtain ⟨c, hc, rfl⟩ := List.mem_map.1 hn
      obtain ⟨d, hd, k⟩ := S.chc.mem c (List.mem_reverse.1 hc)
      obtain ⟨φ', -, -, k3⟩ := k.snap
      refine chain_vis (fun a ha => ?_) _ _ k3 h0
      have := oldH_len (h := m.h) c.top c.trail k.top
      have := k.top
      unfold Inb at ha ⊢
      omega
    · simp only [List.mem_singleton] at hn
      subst hn
      exact chain_vis (fun _ h => h) _ _ hch h0
  obtain ⟨vis, hvis⟩ : ∃ vis, vis = neededM m.goals (startsM m) := ⟨_, rfl⟩
  obtain ⟨hclo, -, hsv, hvv⟩ := needed_ok (l := m.h.cells) (startsM m) [] hst (by simp) (by intro i hi; cases hi)
  have hnd : (startsM m).foldl (fun vis n => visitM m.goals (m.goals.length + 1) n vis) [] = vis := hvis.symm
  rw [hnd] at hclo hsv hvv
  have hroots : rootsM q m = ((List.range q).map fun v => m.query + (v : Nat)) ++ vis.map fun i => (goalM m i).at_ := by rw [hvis]; rfl
  obtain ⟨roots, hrt⟩ : ∃ roots, roots = rootsM q m := ⟨_, rfl⟩
  have hri : ∀ r ∈ roots, Inb m.h.cells r := by
    intro r hr
    rw [hrt, hroots] at hr
    rcases List.mem_append.1 hr with hr | hr
    · obtain ⟨v, hv, rfl⟩ := List.mem_map.1 hr
      exact (hq v (List.mem_range.1 hv)).1
    · obtain ⟨i, hi, rfl⟩ := List.mem_map.1 hr
      cases hvv i hi with | mk _ h1 h2 => exact h2
  have hrp : ∀ r ∈ roots, RP m.h roots r := fun r hr => by
    obtain ⟨h0, h1⟩ := hri r hr
    obtain ⟨k, rfl⟩ := Int.eq_ofNat_of_zero_le h0
    exact RP.of (.root hr (by omega))
  have hqr : ∀ v : Nat, v < q → RP m.h roots (m.query + (v : Nat)) := fun v hv => hrp _ (by
    rw [hrt, hroots]; exact List.mem_append_left _ (List.mem_map.2 ⟨v, List.mem_range.2 hv, rfl⟩))
  have hgr : ∀ i ∈ vis, RP m.h roots (goalM m i).at_ := fun i hi => hrp _ (by
    rw [hrt, hroots]; exact List.mem_append_right _ (List.mem_map.2 ⟨i, hi, rfl⟩))
  -- the query's places stay behind one another
  have hqa : ∀ v : Nat, v < q → ahead (marks m.h.cells roots) (m.query + (v : Nat)) = ahead (marks m.h.cells roots) m.query + (v : Nat) := fun v hv => by
    have h0 := (hq 0 (by omega)).1.1
    simp only [Int.natCast_zero, Int.add_zero] at h0
    obtain ⟨a, ha⟩ := Int.eq_ofNat_of_zero_le h0
    rw [ha, ahead_nat, show ((a : Nat) : Int) + (v : Nat) = ((a + v : Nat) : Int) by omega, ahead_nat]
    have := cnt_run (m := marks m.h.cells roots) (a := a) v (fun i hi => by
      have h1 := hqr i (by omega)
      rw [ha] at h1
      obtain ⟨k, e, hk, hr⟩ := h1.nat S.good.1
      have : k = a + i := by omega
      subst this
      exact (marks_get hk).2 hr)
    omega
  have hqn : q > 0 → (((rootsM q m).map (ahead (marks m.h.cells roots)))[0]?).getD 0 = ahead (marks m.h.cells roots) m.query := fun h => by
    rw [hroots]
    obtain ⟨q', rfl⟩ : ∃ q', q = q' + 1 := ⟨q - 1, by omega⟩
    rw [List.range_succ_eq_map]
    simp
  have hrm : roots.map (ahead (marks m.h.cells roots)) = (((List.range q).map fun v => m.query + (v : Nat)) ++ vis.map fun i => (goalM m i).at_).map (ahead (marks m.h.cells roots)) := congrArg (List.map _) (hrt.trans hroots)
  -- the machine behind it
  have hcol := collect_eq (tops := m.choices.reverse.map fun c => (c.top : Int)) (mks := m.choices.reverse.map fun c => (c.trail : Int)) S.good hri
  obtain ⟨qn, hqn'⟩ : ∃ qn : Int, qn = if q > 0 then ahead (marks m.h.cells roots) m.query else m.query := ⟨_, rfl⟩
  obtain ⟨gs', hgs'⟩ : ∃ gs' : List Gm, gs' = m.goals.mapIdx fun i g => if i ∈ vis then { g with at_ := ahead (marks m.h.cells roots) g.at_ } else g := ⟨_, rfl⟩
  obtain ⟨cs', hcs'⟩ : ∃ cs' : List Cm, cs' = m.choices.map fun x => { x with top := cnt (marks m.h.cells roots) x.top, trail := cnt (trailM (marks m.h.cells roots) m.h.trail) x.trail } := ⟨_, rfl⟩
  have hres : collectM q m = { m with h := gcH m.h roots, query := qn, goals := gs', choices := cs' } := by
    unfold collectM
    rw [← hrt, hcol]
    simp only [ne_eq, not_true_eq_false, if_false, Mv.mk.injEq, true_and, and_true]
    refine ⟨?_, ?_, ?_⟩
    · rw [hgs', ← hvis]
      apply List.ext_getElem (by simp)
      intro i h1 h2
      simp only [List.getElem_mapIdx]
      by_cases hi : i ∈ vis
      · rw [if_pos hi, if_pos hi]
        congr 1
        have hx : vis.idxOf i < vis.length := List.idxOf_lt_length_iff.2 hi
        rw [hrm, List.map_append, List.getElem?_append_right (by simp), List.length_map, List.length_map, List.length_range, Nat.add_sub_cancel_left, List.getElem?_map, List.getElem?_map, List.getElem?_eq_getElem hx, List.getElem_idxOf hx]
        simp only [Option.map_some, Option.getD_some, goalM]
        rw [List.getElem?_eq_getElem (by simpa using h1)]
        rfl
      · rw [if_neg hi, if_neg hi]
    · rw [hcs']
      have e : (m.choices.reverse.mapIdx fun i x => ({ x with top := ((((m.choices.reverse.map fun c => (c.top : Int)).map (ahead (marks m.h.cells roots)))[i]?).getD 0).toNat, trail := ((((m.choices.reverse.map fun c => (c.trail : Int)).map (ahead (trailM (marks m.h.cells roots) m.h.trail)))[i]?).getD 0).toNat } : Cm)) = (m.choices.map fun x => ({ x with top := cnt (marks m.h.cells roots) x.top, trail := cnt (trailM (marks m.h.cells roots) m.h.trail) x.trail } : Cm)).reverse := by
        rw [← List.map_reverse]
        apply List.ext_getElem (by simp)
        intro i h1 h2
        have hl : i < m.choices.reverse.length := by simpa using h1
        simp only [List.getElem_mapIdx, List.getElem_map, List.getElem?_map, List.getElem?_eq_getElem hl, Option.map_some, Option.getD_some, ahead_nat, Int.toNat_natCast]
      rw [e, List.reverse_reverse]
    · rw [hqn']
      by_cases h : q > 0
      · rw [if_pos h, if_pos h, hrt]; rw [hrt] at hqn; exact hqn h
      · rw [if_neg h, if_neg h]
  have hqq : ∀ v : Nat, v < q → qn + (v : Nat) = ahead (marks m.h.cells roots) (m.query + (v : Nat)) := fun v hv => by
    rw [hqa v hv, hqn', if_pos (by omega)]
  have hgl : gs'.length = m.goals.length := by rw [hgs']; simp
  have hgat : ∀ i, i < m.goals.length → (gs'[i]?).getD default = if i ∈ vis then { (m.goals[i]?).getD default with at_ := ahead (marks m.h.cells roots) ((m.goals[i]?).getD default).at_ } else (m.goals[i]?).getD default := fun i hi => by
    rw [hgs', List.getElem?_mapIdx, List.getElem?_eq_getElem hi]
    rfl
  have hvl : ∀ i ∈ vis, i < m.goals.length := fun i hi => by cases hvv i hi with | mk _ h1 => exact h1
  have hgsv : ∀ i ∈ vis, ((gs'[i]?).getD default).bar = ((m.goals[i]?).getD default).bar ∧ ((gs'[i]?).getD default).next = ((m.goals[i]?).getD default).next := fun i hi => by
    rw [hgat i (hvl i hi), if_pos hi]; exact ⟨rfl, rfl⟩
  have hgsa : ∀ i ∈ vis, ((gs'[i]?).getD default).at_ = ahead (marks m.h.cells roots) ((m.goals[i]?).getD default).at_ := fun i hi => by
    rw [hgat i (hvl i hi), if_pos hi]
  have goalMor : ∀ {l l' : List Ce} {T : Int → Prop} {φ1 : Int → Int} {E1 : Env} (hmor : Mor l l' T (ahead (marks m.h.cells roots))) (hall : ∀ a t, T a → Hr l φ1 E1 (fun _ => True) a t → Hr l' (fun y => φ1 (cameM T (ahead (marks m.h.cells roots)) y)) E1 (fun _ => True) (ahead (marks m.h.cells roots) a) t) (a : Int) (t : Tm), T a → GoalAt s.vars l φ1 E1 a t → GoalAt s.vars l' (fun y => φ1 (cameM T (ahead (marks m.h.cells roots)) y)) E1 (ahead (marks m.h.cells roots) a) t := by
    intro l l' T φ1 E1 hmor hall a t hT k
    refine ⟨(hmor.inb a hT).2, ?_, k.goal, k.tin, hall a t hT k.tells⟩
    rw [hmor.cell a hT]
    unfold mvC
    rw [if_neg k.kind]
    exact k.cell
  rw [hres]
  have hgm := gc_mor (roots := roots) S.good
  obtain ⟨hMall, hHall⟩ := hgm.all (gc_sur (roots := roots) S.good) hM
  have hclen : (gcH m.h roots).cells.length ≤ m.h.cells.length := by show (colC _ _ _).length ≤ _; rw [colC_len]; exact cnt_le _ _
  have htlen : (gcH m.h roots).trail.length ≤ m.h.trail.length := by show (colT _ _ _).length ≤ _; rw [colT_len]; exact cnt_le _ _
  refine ⟨gcH_good S.good, S.fuel, S.out, by have := S.tr; simp only; omega, ?_, ?_, by have := S.pot; simp only; omega, fun c hc => ?_, by have := S.gcnt; simp only; rw [hgl]; exact this⟩
  · refine ⟨_, hMall, fun v hv => ?_, ?_⟩
    · simp only
      rw [hqq v hv]
      exact ⟨(hgm.inb _ (hqr v hv)).2, hHall _ _ (hqr v hv) (hq v hv).2⟩
    · refine Chain.gc hclo hgl hgsv (fun i hi t k => ?_) gl m.now (fun h0 => hsv _ (by unfold startsM; simp) h0) hch
      rw [hgsa i hi]
      exact goalMor hgm hHall _ _ (hgr i hi) k
  · -- the choices
    have hone : ∀ c d, c ∈ m.choices → ChR m.h s.env s.vars q m.query m.goals c d → ChR (gcH m.h roots) s.env s.vars q qn gs' { c with top := cnt (marks m.h.cells roots) c.top, trail := cnt (trailM (marks m.h.cells roots) m.h.trail) c.trail } d := fun c d hc k => by
      obtain ⟨omor, osur⟩ := old_mor (roots := roots) S.good k.top k.tr k.good
      obtain ⟨φ1, k1, k2, k3⟩ := k.snap
      obtain ⟨oM, oH⟩ := omor.all osur k1
      have hol := oldH_len (h := m.h) c.top c.trail k.top
      refine ⟨k.from_, ?_, ?_, Nat.le_trans (cnt_le _ _) k.tre, k.dtr, old_good S.good k.top k.tr k.good, ⟨_, oM, fun v hv => ?_, ?_⟩⟩
      · show cnt _ c.top ≤ (colC _ _ _).length
        rw [colC_len]; exact cnt_mono' k.top
      · show cnt _ c.trail ≤ (colT _ _ _).length
        rw [colT_len]; exact cnt_mono' k.tr
      · obtain ⟨i1, i2⟩ := k2 v hv
        have hT : RP m.h roots (m.query + (v : Nat)) ∧ m.query + (v : Nat) < (c.top : Int) := ⟨hqr v hv, by have := i1.2; omega⟩
        rw [hqq v hv]
        exact ⟨(omor.inb _ hT).2, oH _ _ hT i2⟩
      · refine Chain.gc hclo hgl hgsv (fun i hi t kk => ?_) d.g (c.goal : Int) (fun h0 => hsv _ (by unfold startsM; exact List.mem_append_left _ (List.mem_map.2 ⟨c, List.mem_reverse.2 hc, rfl⟩)) h0) k3
        rw [hgsa i hi]
        exact goalMor omor oH _ _ ⟨hgr i hi, by have := kk.inb.2; omega⟩ kk
    simp only
    rw [hcs']
    have hlist : ∀ (cs : List Cm) (ds : List Chc), (∀ c ∈ cs, c ∈ m.choices) → ChsR m.h s.env s.vars q m.query m.goals cs ds → ChsR (gcH m.h roots) s.env s.vars q qn gs' (cs.map fun x => { x with top := cnt (marks m.h.cells roots) x.top, trail := cnt (trailM (marks m.h.cells roots) m.h.trail) x.trail }) ds := by
      intro cs
      induction cs with
      | nil => intro ds _ h; cases ds with
        | nil => trivial
        | cons d ds => exact h.elim
      | cons c cs ih =>
        intro ds hm h
        cases ds with
        | nil => exact h.elim
        | cons d ds =>
          refine ⟨hone c d (hm c (by simp)) h.1, fun x hx => ?_, ih ds (fun x hx => hm x (by simp [hx])) h.2.2⟩
          obtain ⟨y, hy, rfl⟩ := List.mem_map.1 hx
          obtain ⟨h1, h2⟩ := h.2.1 y hy
          exact ⟨cnt_mono' h1, cnt_mono' h2⟩
    exact hlist _ _ (fun _ h => h) S.chc
  · rw [hcs'] at hc
    obtain ⟨x, hx, rfl⟩ := List.mem_map.1 hc
    have := S.pots x hx
    have := cnt_le (marks m.h.cells roots) x.top
    simp only
    omega
end
end Go.Proofs.Ytlpmfkpefoegeab
