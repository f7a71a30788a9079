/-
  Plain law: the solver and the prover tell the same.
-/
import Derived.Test.YtlpmfkpefoegeabDoorPProve
namespace Go.Proofs.YtlpmfkpefoegeabDoor
set_option linter.unusedVariables false
set_option linter.unusedSimpArgs false
theorem uniS_pre : ∀ (w : Nat) (s : List (Tm × Tm)) (E : Env), E <+: (uniS w s E).env := by
  intro w
  induction w using Nat.strongRecOn with
  | _ w ih =>
    intro s E
    match w, s, ih with
    | w, [], _ => rw [uniS_nil]; exact List.prefix_rfl
    | 0, _ :: _, _ => rw [uniS_zero]; exact List.prefix_rfl
    | w + 1, (a, b) :: r, ih =>
      rw [uniS]
      simp only
      repeat' split
      all_goals first
        | exact List.prefix_rfl
        | exact ih _ (by omega) _ _
        | exact (List.prefix_append _ _).trans (ih _ (by omega) _ _)
section
variable {P : List Cl} {q : Nat}
theorem mineR_end (t : Tm) {k : Nat} (h : P.length ≤ k) : mineR P t k = [] := by unfold mineR; rw [List.drop_eq_nil_of_le h]; rfl
theorem mineR_at (t : Tm) {k : Nat} (h : k < P.length) : mineR P t k = if likeF (P[k]).head t then P[k] :: mineR P t (k + 1) else mineR P t (k + 1) := by
  unfold mineR
  rw [List.drop_eq_getElem_cons h, List.filter_cons]
  by_cases e : likeF (P[k]).head t <;> simp [e]
theorem mineR_next (t : Tm) : ∀ (n k : Nat), n = P.length - k → mineR P t k = mineR P t (nextF P t n k)
  | 0, k, hn => rfl
  | n + 1, k, hn => by
    have h : k < P.length := by omega
    rw [nextF, List.getElem?_eq_getElem h]
    simp only
    by_cases e : likeF (P[k]).head t
    · rw [if_pos e]
    · rw [if_neg e, mineR_at t h, if_neg e]; exact mineR_next t n (k + 1) (by omega)
def contR (pr : List Td → Env → Pv → Int × Pv) (t : Tm) (rest : List Td) (E : Env) (call : Nat) (cs : List Cl) (r : Int × Pv) : Int × Pv :=
  if r.2.ended = true then (-1, r.2) else if r.1 = call then (-1, r.2) else if r.1 ≥ 0 then r else loopR pr t rest E call cs r.2
theorem resume_cont (fr : List Fr) (f : Fr) (r : Int × Pv) (h0 : -1 ≤ r.1) (h1 : r.1 ≤ f.call) :
    resume P q fr (contR (proveR P q f.lev) f.g.t f.rest f.env f.call (mineR P f.g.t f.next) r) = resume P q (f :: fr) r := by
  unfold contR
  rw [resume]
  by_cases he : r.2.ended = true
  · rw [if_pos he, if_pos he, resume_ended fr (-1, r.2) he]
  · rw [if_neg he, if_neg he]
    by_cases h2 : r.1 = f.call
    · rw [if_pos h2, if_pos (by omega), if_pos h2]
    · rw [if_neg h2]
      by_cases h3 : r.1 ≥ 0
      · rw [if_pos h3, if_pos (by omega), if_neg h2]
      · rw [if_neg h3, if_neg (by omega)]
theorem call_loop (pr : List Td → Env → Pv → Int × Pv) (g : Gl) (rest : List Gl) (a : Td) (arest : List Td) (call lev : Nat) (ht : a.t = g.t) (fr : List Fr) (s : Sv) (p : Pv) (hc : s.choices = chsOf P fr) (hv : s.vars = p.vars) (ho : s.out = p.out) :
    ∀ (n k : Nat), n = P.length - k → k ≤ P.length →
    (callF P g rest n k s = (.no, s) ∧ loopR pr a.t arest s.env call (mineR P a.t k) p = (-1, p)) ∨
    (∃ s', callF P g rest n k s = (.off, s') ∧ s'.out = p.out ++ [⟨4, []⟩] ∧ loopR pr a.t arest s.env call (mineR P a.t k) p = (-1, p.put 4)) ∨
    (∃ (c : Cl) (m : Nat) (E' : Env), k < m ∧ s.env <+: E' ∧ callF P g rest n k s = (.next (bodyF s.choices.length s.vars c.body rest), { s with env := E', choices := chsOf P (⟨call, a, arest, g, rest, s.env, m, lev⟩ :: fr), vars := s.vars + c.vars }) ∧
      loopR pr a.t arest s.env call (mineR P a.t k) p = contR pr a.t arest s.env call (mineR P a.t m) (pr (bodyT call p.vars c.body arest) E' { p with vars := p.vars + c.vars }))
  | 0, k, hn, hk => by
    refine .inl ⟨rfl, ?_⟩
    rw [mineR_end _ (by omega)]; rfl
  | n + 1, k, hn, hk => by
    have hlt : k < P.length := by omega
    have ih := call_loop pr g rest a arest call lev ht fr s p hc hv ho n (k + 1) (by omega) (by omega)
    rw [callF, List.getElem?_eq_getElem hlt, mineR_at _ hlt, ht]
    rw [ht] at ih
    simp only
    by_cases e : likeF (P[k]).head g.t
    · rw [if_neg (by simpa using e), if_pos e, loopR]
      simp only
      rw [← hv] at ih ⊢
      by_cases h1 : (uniS 400 [(shiftF (P[k]).head s.vars, g.t)] s.env).work < 0
      · rw [if_pos h1, if_pos h1]
        refine .inr (.inl ⟨_, rfl, ?_, rfl⟩)
        simp only [Sv.put, ho]
      · rw [if_neg h1, if_neg h1]
        by_cases h2 : (uniS 400 [(shiftF (P[k]).head s.vars, g.t)] s.env).ok = false
        · rw [if_pos h2, if_pos h2]
          rcases ih with h | ⟨s', h⟩ | ⟨c, m, E', h3, h⟩
          · exact .inl h
          · exact .inr (.inl ⟨s', h⟩)
          · exact .inr (.inr ⟨c, m, E', Nat.lt_of_succ_lt h3, h⟩)
        · rw [if_neg h2, if_neg h2]
          have hb := nextF_bd P g.t (P.length - (k + 1)) (k + 1)
          refine .inr (.inr ⟨P[k], nextF P g.t (P.length - (k + 1)) (k + 1), _, by omega, uniS_pre 400 [(shiftF (P[k]).head s.vars, g.t)] s.env, ?_, ?_⟩)
          · rw [chsOf_cons]
            simp only [hc]
          · unfold contR
            rw [← mineR_next g.t _ (k + 1) rfl]
    · rw [if_pos (by simpa using e), if_neg e]
      rcases ih with h | ⟨s', h⟩ | ⟨c, m, E', h3, h⟩
      · exact .inl h
      · exact .inr (.inl ⟨s', h⟩)
      · exact .inr (.inr ⟨c, m, E', Nat.lt_of_succ_lt h3, h⟩)
theorem GRel.append {fr : List Fr} : ∀ {td td' : List Td} {gl gl' : List Gl}, GRel P fr td gl → GRel P fr td' gl' → GRel P fr (td ++ td') (gl ++ gl')
  | [], td', [], gl', _, h => h
  | a :: td, td', b :: gl, gl', h, h' => ⟨h.1, GRel.append h.2 h'⟩
  | [], _, _ :: _, _, h, _ => h.elim
  | _ :: _, _, [], _, h, _ => h.elim
theorem GRel.frames {fr fr' : List Fr} : ∀ {td : List Td} {gl : List Gl}, GRel P fr td gl → (∀ a ∈ td, chsOf P (below a.call fr') = chsOf P (below a.call fr)) → GRel P fr' td gl
  | [], [], _, _ => trivial
  | a :: td, b :: gl, h, h' => ⟨⟨h.1.1, by rw [h' a (by simp)]; exact h.1.2⟩, GRel.frames h.2 fun x hx => h' x (by simp [hx])⟩
  | [], _ :: _, h, _ => h.elim
  | _ :: _, [], h, _ => h.elim
structure Lnk (P : List Cl) (q : Nat) (s : Sv) (p : Pv) (fr : List Fr) : Prop where
  ok : SvOk P { s with choices := chsOf P fr }
  q : (q : Int) ≤ s.vars
  frs : FrsOk P fr
  fuel : p.fuel = s.fuel
  vars : s.vars = p.vars
  out : s.out = p.out
  ended : p.ended = false
  pre : ∀ x ∈ fr, x.env <+: s.env
  lev : ∀ x ∈ fr, s.fuel < x.lev
  calls : ∀ x ∈ fr, x.call ≤ p.calls
structure LnkG (P : List Cl) (q : Nat) (s : Sv) (p : Pv) (fr : List Fr) (td : List Td) (gl : List Gl) : Prop extends Lnk P q s p fr where
  chs : s.choices = chsOf P fr
  gls : GlsOk s.vars gl
  rel : GRel P fr td gl
  desc : Desc td
  tcalls : ∀ a ∈ td, a.call ≤ p.calls
def AllA (P : List Cl) (q n : Nat) : Prop := ∀ (gl : List Gl) (td : List Td) (s : Sv) (p : Pv) (fr : List Fr) (k : Nat), LnkG P q s p fr td gl → s.out.length ≤ 11 → s.fuel + 13 ≤ n + s.out.length → s.fuel < k →
  (runF P q n gl s).out = (resume P q fr (proveR P q k td s.env p)).out
noncomputable def goBack (P : List Cl) (q n : Nat) (r : Res × Sv) : Sv := match r with
  | (.next g, s) => runF P q n g s
  | (_, s) => s
theorem SvOk.self {s : Sv} {cs : List Chc} (h : SvOk P { s with choices := cs }) (e : s.choices = cs) : SvOk P s := by subst e; exact h
theorem SvOk.pop {s : Sv} {c : Chc} {cs : List Chc} (h : SvOk P { s with choices := c :: cs }) : SvOk P { s with choices := cs, env := s.env.take c.trail } := by
  have hc := h.chc c (by simp)
  obtain ⟨h1, h2, h3, h4, h5, h6, h7, h8⟩ := h
  simp only at h1 h2 h3 h4 h5 h6 h7 h8
  rw [pot_cons] at h6 h7
  have hT := List.pairwise_cons.1 h5
  have htr := hc.trail
  simp only at htr
  have hEl : (s.env.take c.trail).length = c.trail := by rw [List.length_take]; omega
  refine ⟨h1, h2, h3.take _, fun x hx => ?_, hT.2, by simp only; omega, by simp only [hEl]; omega, by simp only [List.length_cons] at h8 ⊢; omega⟩
  have k := h4 x (by simp [hx])
  exact ⟨k.ne, k.gls, k.one, k.lt, by simp only [hEl]; exact hT.1 x hx⟩
theorem next_link {s : Sv} {p : Pv} {fr : List Fr} {c : Cl} {m call lev : Nat} {E' : Env} {a : Td} {arest : List Td} {g : Gl} {rest : List Gl} (h : Lnk P q s p fr)
    (hok : SvOk P { s with env := E', choices := chsOf P (⟨call, a, arest, g, rest, s.env, m, lev⟩ :: fr), vars := s.vars + c.vars }) (hgl : GlsOk (s.vars + c.vars) (bodyF (chsOf P fr).length s.vars c.body rest))
    (hv : 0 ≤ c.vars) (hpre : s.env <+: E') (hrel : GRel P fr (a :: arest) (g :: rest)) (hd : Desc (a :: arest)) (hlt : ∀ x ∈ fr, x.call < call) (hac : ∀ x ∈ a :: arest, x.call < call) (hcp : call ≤ p.calls) (hlev : s.fuel < lev) :
    LnkG P q { s with env := E', choices := chsOf P (⟨call, a, arest, g, rest, s.env, m, lev⟩ :: fr), vars := s.vars + c.vars } { p with vars := p.vars + c.vars } (⟨call, a, arest, g, rest, s.env, m, lev⟩ :: fr) (bodyT call p.vars c.body arest) (bodyF (chsOf P fr).length s.vars c.body rest) := by
  have hbelow : below call (⟨call, a, arest, g, rest, s.env, m, lev⟩ :: fr) = fr := by rw [below_cons_le (show call ≤ (⟨call, a, arest, g, rest, s.env, m, lev⟩ : Fr).call from Nat.le_refl _), below_all hlt]
  refine { ok := hok, q := by have := h.q; simp only; omega, frs := ⟨h.frs, hrel, hlt, hac, hd, h.pre⟩, fuel := h.fuel, vars := by simp only [h.vars], out := h.out, ended := h.ended, pre := ?_, lev := ?_, calls := ?_, chs := rfl, gls := hgl, rel := ?_, desc := ?_, tcalls := ?_ }
  · intro x hx
    rcases List.mem_cons.1 hx with rfl | hx
    · exact hpre
    · exact (h.pre x hx).trans hpre
  · intro x hx
    rcases List.mem_cons.1 hx with rfl | hx
    · exact hlev
    · exact h.lev x hx
  · intro x hx
    rcases List.mem_cons.1 hx with rfl | hx
    · exact hcp
    · exact h.calls x hx
  · unfold bodyT bodyF
    rw [← h.vars]
    refine GRel.append ?_ (GRel.frames hrel.2 fun x hx => by rw [below_cons_le (Nat.le_of_lt (hac x (by simp [hx])))])
    induction c.body with
    | nil => trivial
    | cons t l ih => exact ⟨⟨rfl, by simp only [hbelow]⟩, ih⟩
  · unfold bodyT
    refine List.pairwise_append.2 ⟨?_, (List.pairwise_cons.1 hd).2, ?_⟩
    · rw [List.pairwise_map]
      exact List.pairwise_of_forall fun _ _ => Nat.le_refl _
    · intro x hx y hy
      obtain ⟨t, _, rfl⟩ := List.mem_map.1 hx
      exact Nat.le_of_lt (hac y (by simp [hy]))
  · intro x hx
    rcases List.mem_append.1 hx with hx | hx
    · obtain ⟨t, _, rfl⟩ := List.mem_map.1 hx
      exact hcp
    · exact Nat.le_trans (Nat.le_of_lt (hac x (by simp [hx]))) hcp
theorem body_cut {k : Nat} {call : Nat} {d : Int} {l : List Tm} {arest : List Td} (hac : ∀ x ∈ arest, x.call < call) (E : Env) (p : Pv) :
    -1 ≤ (proveR P q k (bodyT call d l arest) E p).1 ∧ (proveR P q k (bodyT call d l arest) E p).1 ≤ call := by
  have h := proveR_cut (P := P) (q := q) k (bodyT call d l arest) E p
  refine ⟨h.ge, ?_⟩
  rcases h with h | ⟨a, ha, h⟩
  · omega
  · rw [h]
    simp only [bodyT, List.mem_append, List.mem_map] at ha
    rcases ha with ⟨x, _, rfl⟩ | ha
    · exact Int.le_refl _
    · have := hac a ha; omega
theorem allB {n : Nat} (hA : AllA P q n) : ∀ (fr : List Fr) (s : Sv) (p : Pv), Lnk P q s p fr → s.out.length ≤ 11 → s.fuel + 13 ≤ n + s.out.length →
    (goBack P q n (backF P (chsOf P fr) s)).out = (resume P q fr (-1, p)).out
  | [], s, p, h, ho, hn => by
    show (goBack P q n (backF P [] s)).out = _
    rw [backF, resume, if_neg (by simp [h.ended])]
    simp only [goBack, Sv.put, Pv.put, h.out]
  | f :: fr, s, p, h, ho, hn => by
    obtain ⟨f1, f2, f3, f4, f5, f6⟩ := h.frs
    rw [resume, if_neg (by simp [h.ended]), if_neg (by simp only; omega)]
    simp only
    have hok := h.ok
    rw [chsOf_cons] at hok ⊢
    by_cases hlt : f.next < P.length
    · rw [if_pos hlt] at hok ⊢
      have hpop := hok.pop
      simp only at hpop
      have htk : s.env.take f.env.length = f.env := by
        obtain ⟨X, hX⟩ := h.pre f (by simp)
        rw [← hX]; simp
      rw [htk] at hpop
      have hLs : Lnk P q { s with choices := chsOf P fr, env := f.env } p fr := { ok := hpop, q := h.q, frs := f1, fuel := h.fuel, vars := h.vars, out := h.out, ended := h.ended, pre := f6, lev := fun x hx => h.lev x (by simp [hx]), calls := fun x hx => h.calls x (by simp [hx]) }
      rw [backF]
      simp only [htk]
      rcases call_loop (P := P) (proveR P q f.lev) f.gg f.grest f.g f.rest f.call f.lev f2.1.1 fr { s with choices := chsOf P fr, env := f.env } p rfl h.vars h.out (P.length - f.next) f.next rfl (by omega) with ⟨e1, e2⟩ | ⟨s', e1, e2, e3⟩ | ⟨c, m, E', e0, e1, e2, e3⟩
      · rw [e1, e2]
        simp only
        have := allB hA fr _ p hLs ho hn
        exact this
      · rw [e1, e3]
        simp only [goBack]
        rw [resume_ended _ _ rfl, e2]
        rfl
      · have e10 : backF P (⟨f.gg :: f.grest, f.next, f.env.length⟩ :: chsOf P fr) s = (.next (bodyF (chsOf P fr).length s.vars c.body f.grest), { s with env := E', choices := chsOf P (⟨f.call, f.g, f.rest, f.gg, f.grest, f.env, m, f.lev⟩ :: fr), vars := s.vars + c.vars }) := by rw [backF]; simp only [htk]; rw [e2]
        obtain ⟨k1, k2, -⟩ := backF_next _ s _ _ hok e10
        have hcv : 0 ≤ c.vars := by
          have b1 := callF_next (P.length - f.next) f.next _ _ _ rfl hpop.prog hpop.vars0 (by have := hpop.potV; simp only at this ⊢; omega) hpop.env hpop.chc hpop.trails (hok.chc _ (List.mem_cons_self ..)).gls (by have := hok.few; simp only [List.length_cons] at this ⊢; omega) e2
          have b2 := b1.2.2.2.2.2.2.2.1
          simp only at b2
          omega
        rw [e2, e3]
        simp only [goBack]
        have hG := next_link (g := f.gg) (rest := f.grest) (call := f.call) (lev := f.lev) (m := m) hLs (hok := k1) (hgl := k2) hcv e1 f2 f5 f3 f4 (h.calls f (by simp)) (h.lev f (by simp))
        have hAA := hA _ _ _ _ _ f.lev hG ho hn (h.lev f (by simp))
        refine hAA.trans ?_
        simp only
        have hb := body_cut (P := P) (q := q) (k := f.lev) (call := f.call) (d := p.vars) (l := c.body) (arest := f.rest) (fun x hx => f4 x (by simp [hx])) E' { p with vars := p.vars + c.vars }
        rw [← resume_cont fr ⟨f.call, f.g, f.rest, f.gg, f.grest, f.env, m, f.lev⟩ _ hb.1 hb.2]
    · rw [if_neg hlt] at hok ⊢
      rw [mineR_end _ (by omega), loopR]
      exact allB hA fr s p { ok := hok, q := h.q, frs := f1, fuel := h.fuel, vars := h.vars, out := h.out, ended := h.ended, pre := fun x hx => h.pre x (by simp [hx]), lev := fun x hx => h.lev x (by simp [hx]), calls := fun x hx => h.calls x (by simp [hx]) } ho hn
theorem LnkG.turn {s s' : Sv} {p p' : Pv} {fr : List Fr} {a : Td} {td : List Td} {g : Gl} {gl : List Gl} (h : LnkG P q s p fr (a :: td) (g :: gl)) (hok : SvOk P s') (hc : s'.choices = s.choices) (hv : s'.vars = s.vars) (hf : s'.fuel ≤ s.fuel) (ho : s'.out = s.out) (hE : s.env <+: s'.env)
    (h1 : p'.fuel = s'.fuel) (h2 : p'.vars = p.vars) (h3 : p'.out = p.out) (h4 : p'.ended = p.ended) (h5 : p'.calls = p.calls) : LnkG P q s' p' fr td gl := by
  obtain ⟨⟨a1, a2, a3, a4, a5, a6, a7, a8, a9, a10⟩, b1, b2, b3, b4, b5⟩ := h
  exact { ok := by
            have e : ({ s' with choices := chsOf P fr } : Sv) = s' := by rw [← b1, ← hc]
            rw [e]; exact hok
          q := by omega, frs := a3, fuel := h1, vars := by omega, out := by rw [ho, h3]; exact a6, ended := by rw [h4]; exact a7, pre := fun x hx => (a8 x hx).trans hE, lev := fun x hx => by have := a9 x hx; omega, calls := by rw [h5]; exact a10,
          chs := by rw [hc]; exact b1, gls := by rw [hv]; exact fun x hx => b2 x (by simp [hx]), rel := b3.2, desc := (List.pairwise_cons.1 b4).2, tcalls := by rw [h5]; exact fun x hx => b5 x (by simp [hx]) }
theorem LnkG.self {s : Sv} {p : Pv} {fr : List Fr} {td : List Td} {gl : List Gl} (h : LnkG P q s p fr td gl) : SvOk P s := h.ok.self h.chs
theorem allA : ∀ n, AllA P q n
  | 0, gl, td, s, p, fr, k, h, ho, hn, hk => by omega
  | n + 1, gl, td, s, p, fr, 0, h, ho, hn, hk => by omega
  | n + 1, gl, td, s, p, fr, k + 1, h, ho, hn, hk => by
    have hA := allA n
    have hB := allB hA
    match gl, td, h with
    | [], a :: td, h => exact h.rel.elim
    | g :: gl, [], h => exact h.rel.elim
    | [], [], h =>
      rw [runF, proveR]
      unfold answerF tellR
      have hO := h.out
      have hEn := h.ended
      cases flL s.env 200 ((List.range q).map fun i => tvar (i : Nat)) with
      | none => simp only; rw [resume_ended _ _ rfl]; simp only [Sv.put, Pv.put, hO]
      | some r =>
        obtain ⟨l, w'⟩ := r
        simp only
        rw [← hO]
        by_cases h12 : (s.out ++ [(⟨1, tidy l⟩ : Ev)]).length ≥ 12
        · rw [if_pos h12, if_pos h12]; simp only; rw [resume_ended _ _ rfl]; rfl
        · rw [if_neg h12, if_neg h12]
          simp only
          show (goBack P q n (backF P _ _)).out = _
          obtain ⟨a1, a2, a3, a4, a5, a6, a7, a8, a9, a10⟩ := h.toLnk
          obtain ⟨c1, c2, c3, c4, c5, c6, c7, c8⟩ := a1
          rw [h.chs]
          have hlen : (s.out ++ [(⟨1, tidy l⟩ : Ev)]).length = s.out.length + 1 := by simp
          have := hB fr { s with out := s.out ++ [⟨1, tidy l⟩] } { p with out := s.out ++ [⟨1, tidy l⟩] } { ok := ⟨c1, c2, c3, c4, c5, c6, c7, c8⟩, q := a2, frs := a3, fuel := a4, vars := a5, out := rfl, ended := a7, pre := a8, lev := a9, calls := a10 } (by simp only; omega) (by simp only; omega)
          rw [h.chs] at this
          exact this
    | g :: gl, a :: td, h =>
      have hO := h.out
      have hEn := h.ended
      have hF := h.fuel
      have hV := h.vars
      have hat := h.rel.1.1
      rw [runF, proveR]
      unfold stepF
      by_cases hf : s.fuel = 0
      · rw [if_pos hf, if_pos (show p.fuel = 0 by omega)]
        rw [resume_ended _ _ rfl]
        simp only [Sv.put, Pv.put, hO]
      · rw [if_neg hf, if_neg (show ¬ p.fuel = 0 by omega)]
        simp only
        rw [hF]
        have hs := h.self
        have hp := pot_fuel s.fuel s.choices hf
        have hs1 : SvOk P { s with fuel := s.fuel - 1 } := by
          obtain ⟨h1, h2, h3, h4, h5, h6, h7, h8⟩ := hs
          rw [hp] at h6 h7
          exact ⟨h1, h2, h3, h4, h5, by simp only; omega, by simp only; omega, by simp only; omega⟩
        have hpe : ({ s with fuel := s.fuel - 1 } : Sv).env.length + 400 + 400 * pot ({ s with fuel := s.fuel - 1 } : Sv).fuel ({ s with fuel := s.fuel - 1 } : Sv).choices ≤ 1500000 := by
          have := hs.potE
          rw [hp] at this
          simp only; omega
        have hgin : g.t.In s.vars := (h.gls g (by simp)).1
        -- what is left to be shown, with another state
        have goOn : ∀ (s' : Sv), SvOk P s' → s'.choices = s.choices → s'.vars = s.vars → s'.fuel = s.fuel - 1 → s'.out = s.out → s.env <+: s'.env →
            (runF P q n gl s').out = (resume P q fr (proveR P q k td s'.env { p with fuel := s.fuel - 1 })).out := fun s' k1 k2 k3 k4 k5 k6 =>
          hA gl td s' _ fr k (h.turn k1 k2 k3 (by omega) k5 k6 (by simp only; omega) rfl rfl rfl rfl) (by rw [k5]; exact ho) (by rw [k5]; omega) (by omega)
        have goBk : ∀ (s' : Sv), SvOk P s' → s'.choices = s.choices → s'.vars = s.vars → s'.fuel = s.fuel - 1 → s'.out = s.out → s.env <+: s'.env →
            (goBack P q n (backF P s'.choices s')).out = (resume P q fr (-1, { p with fuel := s.fuel - 1 })).out := fun s' k1 k2 k3 k4 k5 k6 => by
          have hL := (h.turn k1 k2 k3 (by omega) k5 k6 (p' := { p with fuel := s.fuel - 1 }) (by simp only; omega) rfl rfl rfl rfl)
          rw [hL.chs]
          exact hB fr s' _ hL.toLnk (by rw [k5]; exact ho) (by rw [k5]; omega)
        by_cases hkn : g.t.Known
        · rw [if_pos hkn, if_pos (show a.t.Known by rw [hat]; exact hkn)]
          have hko := fun s' r e hr => knownF_ok (s' := s') (r := r) hs1 hgin hkn hpe e hr
          unfold simpleR
          unfold knownF at hko ⊢
          rw [hat]
          simp only at hko ⊢
          by_cases n1 : g.t.s.toList = [33]
          · rw [if_pos n1] at hko ⊢
            rw [if_pos n1]
            simp only
            have hb := h.rel.1.2
            have hk1 := (hko _ _ rfl (by simp)).1
            have hcut : s.choices.drop (s.choices.length - g.bar) = chsOf P (below a.call fr) := by rw [h.chs, hb, chsOf_below]
            have hpr := proveR_cut (P := P) (q := q) k td s.env { p with fuel := s.fuel - 1 }
            rw [resume_bang a.call _ hpr.ge fr h.frs]
            have hd := List.pairwise_cons.1 h.desc
            refine hA gl td { s with fuel := s.fuel - 1, choices := s.choices.drop (s.choices.length - g.bar) } { p with fuel := s.fuel - 1 } (below a.call fr) k ?_ ho (by simp only; omega) (by simp only; omega)
            exact { ok := by rw [← hcut]; exact hk1, q := h.q, frs := frsOk_below _ h.frs, fuel := rfl, vars := h.vars, out := h.out, ended := h.ended, pre := fun x hx => h.pre x (below_mem hx), lev := fun x hx => by have := h.lev x (below_mem hx); simp only; omega, calls := fun x hx => h.calls x (below_mem hx), chs := hcut, gls := fun x hx => h.gls x (by simp [hx]),
                    rel := h.rel.2.frames fun x hx => by rw [below_below (hd.1 x hx)], desc := hd.2, tcalls := fun x hx => h.tcalls x (by simp [hx]) }
          rw [if_neg n1] at hko ⊢
          rw [if_neg n1]
          by_cases n2 : g.t.s.toList = [116, 114, 117, 101]
          · rw [if_pos n2] at hko ⊢
            rw [if_pos n2]
            exact goOn { s with fuel := s.fuel - 1 } hs1 rfl rfl rfl rfl List.prefix_rfl
          rw [if_neg n2] at hko ⊢
          rw [if_neg n2]
          by_cases n3 : g.t.s.toList = [102, 97, 105, 108]
          · rw [if_pos n3] at hko ⊢
            rw [if_pos n3]
            simp only
            show (goBack P q n (backF P _ _)).out = _
            exact goBk { s with fuel := s.fuel - 1 } hs1 rfl rfl rfl rfl List.prefix_rfl
          rw [if_neg n3] at hko ⊢
          rw [if_neg n3]
          by_cases n4 : g.t.s.toList = [101, 113]
          · rw [if_pos n4] at hko ⊢
            rw [if_pos n4]
            have hpre := uniS_pre 400 [((g.t.args[0]?).getD default, (g.t.args[1]?).getD default)] s.env
            generalize uniS 400 [((g.t.args[0]?).getD default, (g.t.args[1]?).getD default)] s.env = u at *
            by_cases hw : u.work < 0
            · rw [if_pos hw, if_pos hw]
              simp only
              rw [resume_ended _ _ rfl]
              simp only [Sv.put, Pv.put, hO]
            · rw [if_neg hw] at hko ⊢
              rw [if_neg hw]
              have hk1 := (hko _ _ rfl (by simp)).1
              cases hu : u.ok with
              | true =>
                simp only [if_neg (show ¬ (true = false) by simp)]
                exact goOn { s with fuel := s.fuel - 1, env := u.env } hk1 rfl rfl rfl rfl hpre
              | false =>
                simp only [if_true]
                show (goBack P q n (backF P _ _)).out = _
                exact goBk { s with fuel := s.fuel - 1, env := u.env } hk1 rfl rfl rfl rfl hpre
          rw [if_neg n4] at hko ⊢
          rw [if_neg n4]
          generalize slook s.env ((g.t.args[0]?).getD default) = x at *
          generalize slook s.env ((g.t.args[1]?).getD default) = y at *
          by_cases n5 : x.kind ≠ 2 ∨ y.kind ≠ 2
          · rw [if_pos n5, if_pos n5]
            simp only
            rw [resume_ended _ _ rfl]
            simp only [Sv.put, Pv.put, hO]
          rw [if_neg n5] at hko ⊢
          rw [if_neg n5]
          by_cases n6 : g.t.s.toList = [108, 101, 115, 115]
          · rw [if_pos n6] at hko ⊢
            rw [if_pos n6]
            by_cases hl : x.n < y.n
            · rw [if_pos hl, decide_eq_true hl]
              exact goOn { s with fuel := s.fuel - 1 } hs1 rfl rfl rfl rfl List.prefix_rfl
            · rw [if_neg hl, decide_eq_false hl]
              simp only
              show (goBack P q n (backF P _ _)).out = _
              exact goBk { s with fuel := s.fuel - 1 } hs1 rfl rfl rfl rfl List.prefix_rfl
          rw [if_neg n6] at hko ⊢
          rw [if_neg n6]
          by_cases n7 : x.n + y.n > 1099511627776 ∨ x.n + y.n < -1099511627776
          · rw [if_pos n7, if_pos n7]
            simp only
            rw [resume_ended _ _ rfl]
            simp only [Sv.put, Pv.put, hO]
          rw [if_neg n7] at hko ⊢
          rw [if_neg n7]
          have hpre := uniS_pre 400 [((g.t.args[2]?).getD default, Tm.mk 2 (x.n + y.n) ByteArray.empty [])] s.env
          generalize uniS 400 [((g.t.args[2]?).getD default, Tm.mk 2 (x.n + y.n) ByteArray.empty [])] s.env = u at *
          have hk1 := (hko _ _ rfl (by simp)).1
          cases hu : u.ok with
          | true =>
            simp only [if_neg (show ¬ (true = false) by simp)]
            exact goOn { s with fuel := s.fuel - 1, env := u.env } hk1 rfl rfl rfl rfl hpre
          | false =>
            simp only [if_true]
            show (goBack P q n (backF P _ _)).out = _
            exact goBk { s with fuel := s.fuel - 1, env := u.env } hk1 rfl rfl rfl rfl hpre
        · rw [if_neg hkn, if_neg (show ¬ a.t.Known by rw [hat]; exact hkn)]
          have hmine : mineR P a.t 0 = [] ↔ ∀ c ∈ P, ¬ likeF c.head g.t := by
            unfold mineR
            rw [List.drop_zero, List.filter_eq_nil_iff, hat]
            simp
          by_cases hno : ∀ c ∈ P, ¬ likeF c.head g.t
          · rw [if_pos hno, if_pos (hmine.2 hno)]
            simp only
            rw [resume_ended _ _ rfl]
            simp only [Sv.put, Pv.put, hO]
          rw [if_neg hno, if_neg (fun e => hno (hmine.1 e))]
          have hLs : Lnk P q { s with fuel := s.fuel - 1 } { p with fuel := s.fuel - 1, calls := p.calls + 1 } fr := { ok := by rw [← h.chs]; exact hs1, q := h.q, frs := h.frs, fuel := rfl, vars := h.vars, out := h.out, ended := h.ended, pre := h.pre, lev := fun x hx => by have := h.lev x hx; simp only; omega, calls := fun x hx => by have := h.calls x hx; simp only; omega }
          have hac : ∀ x ∈ a :: td, x.call < p.calls + 1 := fun x hx => by have := h.tcalls x hx; omega
          rcases call_loop (P := P) (proveR P q k) g gl a td (p.calls + 1) k hat fr { s with fuel := s.fuel - 1 } { p with fuel := s.fuel - 1, calls := p.calls + 1 } h.chs h.vars h.out P.length 0 (by omega) (by omega) with ⟨e1, e2⟩ | ⟨s', e1, e2, e3⟩ | ⟨c, m, E', e0, e1, e2, e3⟩
          · simp only at e1 e2
            rw [e1, e2]
            simp only
            show (goBack P q n (backF P _ _)).out = _
            have := hB fr { s with fuel := s.fuel - 1 } _ hLs ho (by simp only; omega)
            rw [h.chs] at this ⊢
            exact this
          · simp only at e1 e2 e3
            rw [e1, e3]
            simp only
            rw [resume_ended _ _ rfl, e2]
            rfl
          · simp only at e1 e2 e3
            obtain ⟨b1, b2, b3, b4, b5, b6, b7, b8, b9, b10, b11, b12⟩ := callF_next P.length 0 { s with fuel := s.fuel - 1 } _ _ (by omega) hs1.prog hs1.vars0 (by have := hs1.potV; simp only at this ⊢; omega) hs1.env hs1.chc hs1.trails h.gls (by have := hs.few; simp only; omega) e2
            obtain ⟨k1, k2, -⟩ := stepF_next (P := P) (g := g) (rest := gl) hs h.gls (s' := { s with fuel := s.fuel - 1, env := E', choices := chsOf P (⟨p.calls + 1, a, td, g, gl, s.env, m, k⟩ :: fr), vars := s.vars + c.vars }) (gl := bodyF s.choices.length s.vars c.body gl) (by
              unfold stepF
              rw [if_neg hf]
              simp only
              rw [if_neg hkn, if_neg hno, e2])
            simp only at b8
            have hcl : (chsOf P fr).length = s.choices.length := by rw [h.chs]
            have hG := next_link (g := g) (rest := gl) (a := a) (arest := td) (call := p.calls + 1) (lev := k) (m := m) (E' := E') hLs (hok := k1) (hgl := by rw [hcl]; exact k2) (by omega) e1 h.rel h.desc (fun x hx => by have := h.calls x hx; omega) hac (Nat.le_refl _) (by simp only; omega)
            rw [e2, e3]
            simp only
            have hAA := hA _ _ _ _ _ k hG ho (by simp only; omega) (by simp only; omega)
            rw [hcl] at hAA
            refine hAA.trans ?_
            have hb := body_cut (P := P) (q := q) (k := k) (call := p.calls + 1) (d := p.vars) (l := c.body) (arest := td) (fun x hx => hac x (by simp [hx])) E' { p with fuel := s.fuel - 1, calls := p.calls + 1, vars := p.vars + c.vars }
            have hR := resume_cont (P := P) (q := q) fr ⟨p.calls + 1, a, td, g, gl, s.env, m, k⟩ _ hb.1 hb.2
            rw [hat] at hR ⊢
            simp only at hR
            rw [hR]
noncomputable def provedR (P : List Cl) (Q : List Tm) (vars fuel : Int) : List Ev × Int :=
  haveI := Classical.propDecidable (GoodP P ∧ GoodQ Q vars)
  if ¬ (GoodP P ∧ GoodQ Q vars) then ([], 1)
  else if fuel < 0 ∨ fuel > 150 then ([], 2)
  else
    let r := proveR P vars.toNat (fuel.toNat + 1) (Q.map fun t => ⟨t, 0⟩) [] ⟨fuel.toNat, vars, [], false, 0⟩
    ((if r.2.ended = true then r.2 else r.2.put 2).out, 0)
theorem solved_same (P : List Cl) (Q : List Tm) (vars fuel : Int) : solveF P Q vars fuel = provedR P Q vars fuel := by
  unfold provedR
  rcases solveF_cases P Q vars fuel with ⟨hn, e⟩ | ⟨hg, hf, e⟩ | ⟨hg, h0, h1, e⟩
  · rw [e, if_pos hn]
  · rw [e, if_neg (by simpa using hg), if_pos hf]
  · rw [e, if_neg (by simpa using hg), if_neg (by omega)]
    obtain ⟨a1, a2⟩ := start_ok (f := fuel.toNat) hg.1 hg.2 (by omega)
    have h := allA (P := P) (q := vars.toNat) (fuel.toNat + 14) (Q.map fun t => ⟨t, 0⟩) (Q.map fun t => ⟨t, 0⟩) ⟨[], [], vars, fuel.toNat, []⟩ ⟨fuel.toNat, vars, [], false, 0⟩ [] (fuel.toNat + 1)
      { ok := a1, q := by have := a1.vars0; simp only at this ⊢; omega, frs := trivial, fuel := rfl, vars := rfl, out := rfl, ended := rfl, pre := by simp, lev := by simp, calls := by simp, chs := rfl, gls := a2,
        rel := by
          clear hg e a2
          induction Q with
          | nil => trivial
          | cons t l ih => exact ⟨⟨rfl, rfl⟩, ih⟩
        desc := by
          unfold Desc
          rw [List.pairwise_map]
          exact List.pairwise_of_forall fun _ _ => Nat.le_refl _
        tcalls := by
          intro x hx
          obtain ⟨t, _, rfl⟩ := List.mem_map.1 hx
          exact Nat.le_refl _ } (by simp) (by simp) (by simp)
    simp only [resume] at h
    rw [h]
end
end Go.Proofs.YtlpmfkpefoegeabDoor
