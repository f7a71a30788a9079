/-
  Machine and solver side by side: a goal is taken up.
-/
import Derived.Test.YtlpmfkpefoegeabPMBack
namespace Go.Proofs.Ytlpmfkpefoegeab
set_option linter.unusedVariables false
set_option linter.unusedSimpArgs false
section
variable {N : Int} {l : List Ce} {φ : Int → Int} {E : Env}
theorem goal_args {a : Int} {t : Tm} (h : GoalAt N l φ E a t) (hne : t.args ≠ []) : ∀ (i : Nat) (hi : i < t.args.length), Hr l φ E (fun _ => True) (a + 1 + (i : Nat)) t.args[i] := by
  have hk : t.kind = 3 := by
    rcases h.goal with hk | hk
    · have := h.tin
      cases this with
      | var => cases hk
      | atom => exact absurd rfl hne
      | int => cases hk
      | comp => rfl
    · exact hk
  have hs : slook E t = t := slook_stop (.inl (by rw [hk]; decide))
  have hl : Looks l a a := .stop h.inb (.inl h.kind)
  cases h.tells with
  | var h1 h2 h3 h4 h5 => rw [hs, hk] at h4; simp at h4
  | leaf h1 h2 h3 h4 h5 h6 h7 => rw [hs, hk] at h4; exact absurd rfl h4
  | comp h1 h2 h3 h4 h5 h6 h7 =>
    obtain rfl := hl.fun_ h1
    simp only [hs] at h7
    exact h7
theorem hr_num {K : Int → Prop} {a : Int} {t : Tm} (h : Hr l φ E K a t) : ((cellAt l (look l a)).kind = 2 ↔ (slook E t).kind = 2) ∧ ((slook E t).kind = 2 → (cellAt l (look l a)).n = (slook E t).n) := by
  cases h with
  | var h1 h2 h3 h4 h5 => rw [look_of h1, h2, h4]; exact ⟨by decide, fun h => absurd h (by decide)⟩
  | leaf h1 h2 h3 h4 h5 h6 h7 => rw [look_of h1, h2]; exact ⟨Iff.rfl, fun _ => h5⟩
  | comp h1 h2 h3 h4 h5 h6 h7 => rw [look_of h1, h2, h3]; exact ⟨by decide, fun h => absurd h (by decide)⟩
end
structure UOut (N : Int) (φ : Int → Int) (h : Hp) (E : Env) (u : Hp) (E' : Env) : Prop where
  good : u.Good
  tr : u.trail.length ≤ E'.length
  len : u.cells.length = h.cells.length
  mon : Mon N u.cells φ E'
  tells : ∀ a x, x.In N → Hr h.cells φ E (fun _ => True) a x → Hr u.cells φ E' (fun _ => True) a x
  cells : ∀ a, Inb h.cells a → (cellAt h.cells a).kind ≠ 0 → cellAt u.cells a = cellAt h.cells a ∧ Inb u.cells a
  old : ∀ top tr, top ≤ h.cells.length → tr ≤ h.trail.length → oldH u top tr = oldH h top tr
  trl : h.trail.length ≤ u.trail.length
theorem uni_known {N : Int} {φ : Int → Int} {h : Hp} {E : Env} {a b : Int} {ta tb : Tm} (hg : h.Good) (hE : EnvOk N E) (hN0 : 0 ≤ N) (hN : N ≤ 40000) (hM : Mon N h.cells φ E) (htr : h.trail.length ≤ E.length)
    (ha : Hr h.cells φ E (fun _ => True) a ta) (hb : Hr h.cells φ E (fun _ => True) b tb) (ia : ta.In N) (ib : tb.In N) :
    ((uniS 400 [(ta, tb)] E).work < 0 → (unifyF h a b).2.2 ≠ 0) ∧ (¬ (uniS 400 [(ta, tb)] E).work < 0 → (unifyF h a b).2.2 = 0 ∧ (unifyF h a b).2.1 = (uniS 400 [(ta, tb)] E).ok ∧ ((uniS 400 [(ta, tb)] E).ok = false → (unifyF h a b).1 = h) ∧
      ((uniS 400 [(ta, tb)] E).ok = true → UOut N φ h E (unifyF h a b).1 (uniS 400 [(ta, tb)] E).env)) := by
  have hia : Inb h.cells a := by obtain ⟨x, hx⟩ := ha.looks; exact hx.start
  have hib : Inb h.cells b := by obtain ⟨x, hx⟩ := hb.looks; exact hx.start
  have hIs : ∀ p ∈ [(ta, tb)], p.1.In N ∧ p.2.In N := by
    intro p hp
    simp only [List.mem_singleton] at hp
    subst hp
    exact ⟨ia, ib⟩
  have U := uni_same (N := N) 400 [(a, b)] [(ta, tb)] h.cells E h.trail hE hM ⟨⟨ha, hb⟩, trivial⟩ hIs
  have hUE := uniS_env (N := N) 400 [(ta, tb)] E hE hIs
  have hUB := uniL_bound 400 [(a, b)] h.cells h.trail
  rw [unify_eq hg hia hib]
  generalize uniL 400 [(a, b)] h.cells h.trail = u at U hUB ⊢
  generalize uniS 400 [(ta, tb)] E = u' at U hUE ⊢
  refine ⟨fun hw => by rw [if_pos (show u.work < 0 by rw [U.work]; exact hw)]; simp, fun hw => ?_⟩
  rw [if_neg (show ¬ u.work < 0 by rw [U.work]; exact hw)]
  by_cases hok : u'.ok = false
  · rw [if_pos (show u.ok = false by rw [U.ok]; exact hok), hok]
    exact ⟨rfl, rfl, fun _ => rfl, fun h => by simp at h⟩
  have hok' : u.ok = true := by rw [U.ok]; simpa using hok
  rw [if_neg (show ¬ u.ok = false by rw [hok']; decide)]
  obtain ⟨vs, t1, t2, t3⟩ := U.trail hok'
  obtain ⟨vs', t1', hB, -, -⟩ := hUB hok'
  have hvs : vs' = vs := List.append_cancel_left (t1'.symm.trans t1)
  subst hvs
  have hel := env_len hUE.1 hN0
  have htl : u.trail.length ≤ 65536 := by
    rw [t1, List.length_append]
    omega
  rw [if_neg (show ¬ 65536 < u.trail.length by omega)]
  refine ⟨rfl, by simp only; rw [← U.ok, hok'], fun h => absurd h hok, fun _ => ?_⟩
  rw [t1] at htl
  simp only [t1]
  refine ⟨bound_good hg hB (fun x hx => (t3 x hx).1) htl, by simp only [List.length_append]; omega, hB.1, U.mon hok', U.tells hok', fun x hx hk => bound_cell hB hx hk, fun top tr h1 h2 => ?_, by simp⟩
  have hB' : Bound (h.cells ++ []) vs' u.cells := by rw [List.append_nil]; exact hB
  exact old_grown hB' h1 h2
def KOut (P : List Cl) (q : Nat) (nx : Int) (rest : List Gl) : Option Bool × Mv → Option Bool × Sv → Prop
  | (none, m), (none, s) => m.out = s.out
  | (some true, m), (some true, s) => Sim0 q { m with now := nx } s rest
  | (some false, m), (some false, s) => SvOk P s → Bak P q m s m.choices s.choices
  | _, _ => False
theorem uniS_num {N : Int} {E : Env} (hE : EnvOk N E) (z : Tm) (hz : z.In N) (n : Int) : 0 ≤ (uniS 400 [(z, .mk 2 n ByteArray.empty [])] E).work := by
  have h2 : slook E (.mk 2 n ByteArray.empty []) = .mk 2 n ByteArray.empty [] := slook_stop (.inl (by show (2 : Int) ≠ 0; decide))
  rw [uniS]
  simp only [h2, show (Tm.mk 2 n ByteArray.empty []).kind = 2 from rfl, show ((2 : Int) = 0) = False from by simp, and_false, or_false, if_false]
  split
  · rename_i hk
    have hin : inS E (slook E z).n 399 [.mk 2 n ByteArray.empty []] = (false, 398) := by
      rw [inS_succ, h2, if_neg (by show ¬ (2 : Int) = 0; decide)]
      show inS E _ 398 ([] ++ []) = _
      rw [List.append_nil, inS_nil]
      rfl
    rw [hin]
    simp only [Bool.false_eq_true, false_or]
    rw [if_neg (by omega), uniS_nil]
    simp only
    omega
  · split
    · simp only; omega
    · rename_i h1 h3
      have : (slook E z).args.length = 0 := (Decidable.not_not.1 h3).2.2.2
      rw [List.length_eq_zero_iff] at this
      rw [this]
      show 0 ≤ (uniS 399 ([] ++ []) E).work
      rw [List.append_nil, uniS_nil]
      simp only
      omega
section
variable {P : List Cl} {q : Nat} {m : Mv} {s : Sv} {n : Nat} {g : Gl} {rest : List Gl}
theorem known_on {φ : Int → Int} {u : Hp} {E' : Env} {h : Hp} (C : CallOk q m s n g rest) (hlen : h.cells.length ≤ m.h.cells.length + 1) (hle : m.h.cells.length ≤ h.cells.length) (htr : h.trail = m.h.trail)
    (hold : ∀ top tr, top ≤ m.h.cells.length → tr ≤ m.h.trail.length → oldH h top tr = oldH m.h top tr) (hE : ∃ F, E' = s.env ++ F) (U : UOut s.vars φ h s.env u E')
    (hq : ∀ v : Nat, v < q → Inb h.cells (m.query + (v : Nat)) ∧ Hr h.cells φ s.env (fun _ => True) (m.query + (v : Nat)) (tvar (v : Nat))) (nx : Int) (hch : Chain s.vars h.cells φ s.env m.goals nx rest) :
    Sim0 q { { m with h := u } with now := nx } { s with env := E' } rest := by
  obtain ⟨F, rfl⟩ := hE
  refine ⟨U.good, C.fuel, C.out, U.tr, ⟨φ, U.mon, fun v hv => ?_, hch.imp (fun _ _ => rfl) (Nat.le_refl _) fun a t k => ?_⟩, C.chc.imp fun c d hc hd k => k.move ?_ ?_ ?_ ?_ ?_ (Int.le_refl _) (fun _ _ => rfl) (Nat.le_refl _), ?_, C.pots, by have := C.gcnt; simp only; omega⟩
  · obtain ⟨q1, q2⟩ := hq v hv
    refine ⟨?_, U.tells _ _ (.var _ (by omega) (by have := C.qv; omega)) q2⟩
    have := U.len
    unfold Inb at q1 ⊢
    simp only
    omega
  · obtain ⟨k1, k2⟩ := U.cells a k.inb k.kind
    exact k.move (Int.le_refl _) k1 k2 (U.tells _ _ k.tin k.tells)
  · exact (U.old _ _ (by have := k.top; omega) (by rw [htr]; exact k.tr)).trans (hold _ _ k.top k.tr)
  · have := U.len; have := k.top; simp only; omega
  · have h1 := U.trl; rw [htr] at h1; have := k.tr; simp only; omega
  · rw [List.take_append_of_le_length k.dtr]
  · simp only [List.length_append]; have := k.dtr; omega
  · have := C.pot; have := U.len; simp only; omega
theorem known_off {E' : Env} {h : Hp} (C : CallOk q m s n g rest) (hg : h.Good) (hle : m.h.cells.length ≤ h.cells.length) (htr : h.trail = m.h.trail)
    (hold : ∀ top tr, top ≤ m.h.cells.length → tr ≤ m.h.trail.length → oldH h top tr = oldH m.h top tr) (hE : ∃ F, E' = s.env ++ F) (hok : SvOk P { s with env := E' }) :
    Bak P q { m with h := h } { s with env := E' } m.choices s.choices := by
  obtain ⟨F, rfl⟩ := hE
  refine ⟨hok, hg, C.fuel, C.out, C.chc.imp fun c d hc hd k => k.move (hold _ _ k.top k.tr) ?_ ?_ ?_ ?_ (Int.le_refl _) (fun _ _ => rfl) (Nat.le_refl _), C.pots, C.gcnt⟩
  · have := k.top; simp only; omega
  · simp only [htr]; exact k.tr
  · rw [List.take_append_of_le_length k.dtr]
  · simp only [List.length_append]; have := k.dtr; omega
theorem known_sim (C : CallOk q m s n g rest) (hk : g.t.Known) : KOut P q (goalM m n).next rest (knownM (goalM m n) m) (knownF g s) := by
  obtain ⟨φ, hM, hq, kk, e1, hlt, hbar, hga, hnx, hch⟩ := C.cur
  have e2 : kk = n := by omega
  subst e2
  have hgm : goalM m kk = (m.goals[kk]?).getD default := rfl
  rw [← hgm] at hbar hga hnx hch
  generalize goalM m kk = gm at *
  have hchl := C.chc.len
  unfold knownM knownF
  have hcs : (cellAt m.h.cells gm.at_).s = g.t.s := by rw [hga.cell]
  simp only [hcs]
  have hcur : ∀ c k, Sim0 q { { m with choices := m.choices.drop c } with now := gm.next } { s with choices := s.choices.drop k } rest ↔ Sim0 q { { m with choices := m.choices.drop c } with now := gm.next } { s with choices := s.choices.drop k } rest := fun _ _ => Iff.rfl
  by_cases n1 : g.t.s.toList = [33]
  · rw [if_pos n1, if_pos n1]
    have he : m.choices.length - min gm.bar m.choices.length = s.choices.length - g.bar := by rw [hbar, ← hchl]; omega
    rw [he]
    exact ⟨C.good, C.fuel, C.out, C.tr, ⟨φ, hM, hq, hch⟩, C.chc.drop _, by have := C.pot; simp only; omega, fun c hc => C.pots c (List.mem_of_mem_drop hc), by have := C.gcnt; simp only; omega⟩
  rw [if_neg n1, if_neg n1]
  have hon : Sim0 q { m with now := gm.next } s rest := ⟨C.good, C.fuel, C.out, C.tr, ⟨φ, hM, hq, hch⟩, C.chc, by have := C.pot; simp only; omega, C.pots, by have := C.gcnt; simp only; omega⟩
  by_cases n2 : g.t.s.toList = [116, 114, 117, 101]
  · rw [if_pos n2, if_pos n2]
    exact hon
  rw [if_neg n2, if_neg n2]
  have hoff : SvOk P s → Bak P q m s m.choices s.choices := fun hok => ⟨hok, C.good, C.fuel, C.out, C.chc, C.pots, C.gcnt⟩
  by_cases n3 : g.t.s.toList = [102, 97, 105, 108]
  · rw [if_pos n3, if_pos n3]
    exact hoff
  rw [if_neg n3, if_neg n3]
  have hout4 : ∀ k : Int, m.out ++ [(⟨k, []⟩ : Ev)] = s.out ++ [⟨k, []⟩] := fun k => by rw [C.out]
  by_cases n4 : g.t.s.toList = [101, 113]
  · rw [if_pos n4, if_pos n4]
    have h2 : g.t.args.length = 2 := by
      rcases hk with ⟨_, h | h | h⟩ | ⟨h, _⟩ | ⟨_, h⟩
      · exact absurd h n1
      · exact absurd h n2
      · exact absurd h n3
      · exact h
      · rw [n4] at h; simp at h
    have hne : g.t.args ≠ [] := fun h => by rw [h] at h2; simp at h2
    have ha := goal_args hga hne 0 (by omega)
    have hb := goal_args hga hne 1 (by omega)
    rw [show gm.at_ + 1 + ((0 : Nat) : Int) = gm.at_ + 1 by omega] at ha
    rw [show gm.at_ + 1 + ((1 : Nat) : Int) = gm.at_ + 2 by omega] at hb
    rw [show (g.t.args[0]?).getD default = g.t.args[0] by rw [List.getElem?_eq_getElem (by omega)]; rfl, show (g.t.args[1]?).getD default = g.t.args[1] by rw [List.getElem?_eq_getElem (by omega)]; rfl]
    have ia : g.t.args[0].In s.vars := hga.tin.arg (List.getElem_mem _)
    have ib : g.t.args[1].In s.vars := hga.tin.arg (List.getElem_mem _)
    obtain ⟨u1, u2⟩ := uni_known C.good C.env C.v0 C.v1 hM C.tr ha hb ia ib
    obtain ⟨-, F, hF, -⟩ := uniS_env (N := s.vars) 400 [(g.t.args[0], g.t.args[1])] s.env C.env (by intro p hp; simp only [List.mem_singleton] at hp; subst hp; exact ⟨ia, ib⟩)
    generalize uniS 400 [(g.t.args[0], g.t.args[1])] s.env = u' at *
    generalize unifyF m.h (gm.at_ + 1) (gm.at_ + 2) = u at *
    by_cases hw : u'.work < 0
    · rw [if_pos (u1 hw), if_pos hw]
      exact hout4 4
    · obtain ⟨v1, v2, v3, v4⟩ := u2 hw
      rw [if_neg (not_not_intro v1), if_neg hw, v2]
      cases ho : u'.ok with
      | true => exact known_on C (Nat.le_succ _) (Nat.le_refl _) rfl (fun _ _ _ _ => rfl) ⟨F, hF⟩ (v4 ho) hq _ hch
      | false =>
        intro hok
        rw [v3 ho]
        exact known_off C C.good (Nat.le_refl _) rfl (fun _ _ _ _ => rfl) ⟨F, hF⟩ hok
  rw [if_neg n4, if_neg n4]
  have h2 : 2 ≤ g.t.args.length := by
    rcases hk with ⟨_, h | h | h⟩ | ⟨h, _⟩ | ⟨h, _⟩
    · exact absurd h n1
    · exact absurd h n2
    · exact absurd h n3
    · omega
    · omega
  have hne : g.t.args ≠ [] := fun h => by rw [h] at h2; simp at h2
  have ha := goal_args hga hne 0 (by omega)
  have hb := goal_args hga hne 1 (by omega)
  rw [show gm.at_ + 1 + ((0 : Nat) : Int) = gm.at_ + 1 by omega] at ha
  rw [show gm.at_ + 1 + ((1 : Nat) : Int) = gm.at_ + 2 by omega] at hb
  rw [show (g.t.args[0]?).getD default = g.t.args[0] by rw [List.getElem?_eq_getElem (by omega)]; rfl, show (g.t.args[1]?).getD default = g.t.args[1] by rw [List.getElem?_eq_getElem (by omega)]; rfl]
  obtain ⟨a1, a2⟩ := hr_num ha
  obtain ⟨b1, b2⟩ := hr_num hb
  by_cases hn : (slook s.env g.t.args[0]).kind ≠ 2 ∨ (slook s.env g.t.args[1]).kind ≠ 2
  · rw [if_pos (hn.imp (fun h e => h (a1.1 e)) (fun h e => h (b1.1 e))), if_pos hn]
    exact hout4 5
  have hn' : (slook s.env g.t.args[0]).kind = 2 ∧ (slook s.env g.t.args[1]).kind = 2 := by omega
  rw [if_neg (fun h => h.elim (fun h => h (a1.2 hn'.1)) (fun h => h (b1.2 hn'.2))), if_neg hn, a2 hn'.1, b2 hn'.2]
  by_cases n5 : g.t.s.toList = [108, 101, 115, 115]
  · rw [if_pos n5, if_pos n5]
    cases decide ((slook s.env g.t.args[0]).n < (slook s.env g.t.args[1]).n) with
    | true => exact hon
    | false => exact hoff
  rw [if_neg n5, if_neg n5]
  by_cases hbig : (slook s.env g.t.args[0]).n + (slook s.env g.t.args[1]).n > 1099511627776 ∨ (slook s.env g.t.args[0]).n + (slook s.env g.t.args[1]).n < -1099511627776
  · rw [if_pos hbig, if_pos hbig]
    exact hout4 5
  rw [if_neg hbig, if_neg hbig]
  have h3 : g.t.args.length = 3 := by
    rcases hk with ⟨_, h | h | h⟩ | ⟨_, h | h⟩ | ⟨h, _⟩
    · exact absurd h n1
    · exact absurd h n2
    · exact absurd h n3
    · exact absurd h n4
    · exact absurd h n5
    · exact h
  generalize (slook s.env g.t.args[0]).n + (slook s.env g.t.args[1]).n = k at *
  have hc := goal_args hga hne 2 (by omega)
  rw [show gm.at_ + 1 + ((2 : Nat) : Int) = gm.at_ + 3 by omega] at hc
  rw [show (g.t.args[2]?).getD default = g.t.args[2] by rw [List.getElem?_eq_getElem (by omega)]; rfl]
  have ic : g.t.args[2].In s.vars := hga.tin.arg (List.getElem_mem _)
  have id_ : (Tm.mk 2 k ByteArray.empty []).In s.vars := .int _ (by omega) (by omega)
  have hFg : GoodC [(⟨2, k, ByteArray.empty⟩ : Ce)] := fun i hi => by
    simp only [List.length_singleton] at hi
    have : i = 0 := by omega
    subst this
    exact .inr (.inr (.inl ⟨rfl, empty_toList⟩))
  have hF0 : NF 0 [(⟨2, k, ByteArray.empty⟩ : Ce)] := fun i x hx _ hk => by
    cases i with
    | zero => simp only [List.getElem?_cons_zero, Option.some.injEq] at hx; subst hx; simp at hk
    | succ i => simp at hx
  have hlen : m.h.cells.length + [(⟨2, k, ByteArray.empty⟩ : Ce)].length ≤ 65536 := by have := C.pot; simp only [List.length_singleton]; omega
  rw [load_eq C.good hFg hlen]
  simp only [ne_eq, not_true_eq_false, if_false]
  have hg1 := load_good C.good hFg hlen
  have hM1 := load_mon hM C.env C.v0 hF0
  rw [show s.vars + ((0 : Nat) : Int) = s.vars by omega] at hM1
  have hcl : ∀ a t, Inb m.h.cells a → Hr m.h.cells φ s.env (fun _ => True) a t → Hr (m.h.cells ++ [(⟨2, k, ByteArray.empty⟩ : Ce)].map (shC m.h.cells.length)) (phiL m.h.cells s.vars φ) s.env (fun _ => True) a t := fun a t hi h => load_hr C.good.1 hi h
  have hci : Inb m.h.cells (gm.at_ + 3) := by obtain ⟨x, hx⟩ := hc.looks; exact hx.start
  have hI0 : Inb [(⟨2, k, ByteArray.empty⟩ : Ce)] 0 := ⟨by omega, by simp⟩
  obtain ⟨c1, c2⟩ := cellAt_shift (H := m.h.cells) hI0
  rw [show (0 : Int) + (m.h.cells.length : Int) = (m.h.cells.length : Int) by omega, show cellAt [(⟨2, k, ByteArray.empty⟩ : Ce)] 0 = ⟨2, k, ByteArray.empty⟩ from rfl, shC_same _ (by simp)] at c1
  rw [show (0 : Int) + (m.h.cells.length : Int) = (m.h.cells.length : Int) by omega] at c2
  have hst : slook s.env (.mk 2 k ByteArray.empty []) = .mk 2 k ByteArray.empty [] := slook_stop (.inl (by simp [Tm.kind]))
  have hd : Hr (m.h.cells ++ [(⟨2, k, ByteArray.empty⟩ : Ce)].map (shC m.h.cells.length)) (phiL m.h.cells s.vars φ) s.env (fun _ => True) (m.h.cells.length : Int) (.mk 2 k ByteArray.empty []) :=
    .leaf (.stop c2 (.inl (by rw [c1]; simp))) (by rw [c1, hst]; rfl) (by rw [hst]; simp [Tm.kind]) (by rw [hst]; simp [Tm.kind]) (by rw [c1, hst]; rfl) (by rw [c1, hst]; rfl) (by rw [hst]; rfl)
  obtain ⟨u1, u2⟩ := uni_known (h := ⟨m.h.cells ++ [(⟨2, k, ByteArray.empty⟩ : Ce)].map (shC m.h.cells.length), m.h.trail⟩) hg1 C.env C.v0 C.v1 hM1 C.tr (hcl _ _ hci hc) hd ic id_
  obtain ⟨-, F, hF, -⟩ := uniS_env (N := s.vars) 400 [(g.t.args[2], .mk 2 k ByteArray.empty [])] s.env C.env (by intro p hp; simp only [List.mem_singleton] at hp; subst hp; exact ⟨ic, id_⟩)
  have hwk := uniS_num C.env g.t.args[2] ic k
  generalize uniS 400 [(g.t.args[2], Tm.mk 2 k ByteArray.empty [])] s.env = u' at *
  generalize hu : unifyF ⟨m.h.cells ++ [(⟨2, k, ByteArray.empty⟩ : Ce)].map (shC m.h.cells.length), m.h.trail⟩ (gm.at_ + 3) (m.h.cells.length : Int) = u at *
  obtain ⟨v1, v2, v3, v4⟩ := u2 (by omega)
  rw [if_neg (not_not_intro v1), v2]
  have hold : ∀ top tr, top ≤ m.h.cells.length → tr ≤ m.h.trail.length → oldH ⟨m.h.cells ++ [(⟨2, k, ByteArray.empty⟩ : Ce)].map (shC m.h.cells.length), m.h.trail⟩ top tr = oldH m.h top tr := fun top tr h1 h2 => by
    have := old_grown (Bound.refl (m.h.cells ++ [(⟨2, k, ByteArray.empty⟩ : Ce)].map (shC m.h.cells.length))) h1 h2
    rw [List.append_nil] at this
    exact this
  cases ho : u'.ok with
  | true =>
    refine known_on (h := ⟨m.h.cells ++ [(⟨2, k, ByteArray.empty⟩ : Ce)].map (shC m.h.cells.length), m.h.trail⟩) C (by simp) (by simp) rfl hold ⟨F, hF⟩ (v4 ho) (fun v hv => ?_) _ (hch.imp (fun _ _ => rfl) (Nat.le_refl _) fun a t hk9 => ?_)
    · obtain ⟨q1, q2⟩ := hq v hv
      exact ⟨(cellAt_left q1).2, hcl _ _ q1 q2⟩
    · have hl := cellAt_left (F := [(⟨2, k, ByteArray.empty⟩ : Ce)]) hk9.inb
      exact hk9.move (Int.le_refl _) hl.1 hl.2 (hcl _ _ hk9.inb hk9.tells)
  | false =>
    intro hok
    rw [v3 ho]
    have hkf := known_off (h := ⟨m.h.cells ++ [(⟨2, k, ByteArray.empty⟩ : Ce)].map (shC m.h.cells.length), m.h.trail⟩) C hg1 (by simp) rfl hold ⟨F, hF⟩ hok
    exact hkf
end
end Go.Proofs.Ytlpmfkpefoegeab
