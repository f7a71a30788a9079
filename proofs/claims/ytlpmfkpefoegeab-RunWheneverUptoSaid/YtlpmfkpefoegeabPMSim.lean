/-
  Machine and solver side by side: what goes with what; a goal is called.
-/
import Derived.Test.YtlpmfkpefoegeabPMMor
import Derived.Test.YtlpmfkpefoegeabHCode3
import Derived.Test.YtlpmfkpefoegeabHLoad
import Derived.Test.YtlpmfkpefoegeabQMach1
namespace Go.Proofs.Ytlpmfkpefoegeab
set_option linter.unusedVariables false
set_option linter.unusedSimpArgs false
def NF (v : Nat) (c : List Ce) : Prop := ∀ (i : Nat) (x : Ce), c[i]? = some x → v ≤ i → x.kind = 0 → x.n ≠ (i : Int)
theorem NF.set {v : Nat} {c : List Ce} (h : NF v c) {k : Nat} {x : Ce} (hx : x.kind = 0 → x.n ≠ (k : Int)) : NF v (c.set k x) := by
  intro i y hy hv hk
  by_cases e : k = i
  · subst e
    by_cases hl : k < c.length
    · rw [List.getElem?_set_self hl] at hy
      obtain rfl := Option.some.inj hy
      exact hx hk
    · rw [List.getElem?_eq_none (by simp; omega)] at hy; cases hy
  · rw [List.getElem?_set_ne e] at hy
    exact h i y hy hv hk
theorem NF.frame {v : Nat} {c : List Ce} (h : NF v c) (s : ByteArray) (m : Nat) : NF v (c ++ ⟨3, (m : Int), s⟩ :: List.replicate m ⟨0, 0, ByteArray.empty⟩) := by
  intro i y hy hv hk
  by_cases hl : i < c.length
  · rw [List.getElem?_append_left hl] at hy
    exact h i y hy hv hk
  · rw [List.getElem?_append_right (by omega)] at hy
    obtain ⟨j, hj⟩ : ∃ j, j = i - c.length := ⟨_, rfl⟩
    rw [← hj] at hy
    cases j with
    | zero => simp only [List.getElem?_cons_zero, Option.some.injEq] at hy; subst hy; simp at hk
    | succ j =>
      rw [List.getElem?_cons_succ, List.getElem?_replicate] at hy
      split at hy
      · obtain rfl := Option.some.inj hy
        simp only
        omega
      · cases hy
mutual
theorem put_nf (v : Nat) : ∀ (t : Tm) (c : List Ce) (k : Nat), t.Good (v : Int) → NF v c → v ≤ k → k < c.length → NF v (putF c k t)
  | .mk kd n s l, c, k, hg, h, hv, hk => by
    rw [putF]
    split
    · refine h.set fun _ => ?_
      have := Tm.In.n (t := .mk kd n s l) hg (by assumption)
      simp only [Tm.n] at this
      simp only
      omega
    · split
      · exact h.set fun h => by simp at h
      · split
        · exact h.set fun h => by simp at h
        · split
          · have hl : ∀ t ∈ l, t.Good (v : Int) := fun t ht => Tm.In.arg (t := .mk kd n s l) hg ht
            exact putL_nf v l _ _ hl ((h.set (fun _ => by simp only; omega)).frame s l.length) (by omega) (by simp; omega)
          · exact h
theorem putL_nf (v : Nat) : ∀ (l : List Tm) (c : List Ce) (k : Nat), (∀ t ∈ l, t.Good (v : Int)) → NF v c → v ≤ k → k + l.length ≤ c.length → NF v (putLF c k l)
  | [], c, k, _, h, _, _ => by rw [putLF]; exact h
  | t :: r, c, k, hl, h, hv, hk => by
    rw [putLF]
    simp only [List.length_cons] at hk
    have := put_len t c k
    exact putL_nf v r _ _ (fun x hx => hl x (by simp [hx])) (put_nf v t c k (hl t (by simp)) h hv (by omega)) (by omega) (by omega)
end
theorem goal_nf (v : Nat) (t : Tm) (c : List Ce) (hg : t.Good (v : Int)) (hk : t.IsGoal) (h : NF v c) (hv : v ≤ c.length) :
    NF v (goalF c t) ∧ (goalF c t)[c.length]? = some ⟨t.kind, (t.args.length : Int), t.s⟩ := by
  obtain ⟨kd, n, s, l⟩ := t
  rcases hk with hk | hk <;> simp only [Tm.kind] at hk <;> subst hk
  · have e0 : goalF c (.mk 1 n s l) = (c ++ [(⟨0, 0, ByteArray.empty⟩ : Ce)]).set c.length ⟨1, 0, s⟩ := by simp [goalF, Tm.kind, putF]
    rw [e0]
    show _ ∧ _ = some (⟨1, (l.length : Int), s⟩ : Ce)
    have hl : l = [] := by cases hg; rfl
    subst hl
    have e : (c ++ [(⟨0, 0, ByteArray.empty⟩ : Ce)]).set c.length ⟨1, 0, s⟩ = c ++ [⟨1, 0, s⟩] := by
      rw [List.set_append_right _ _ (Nat.le_refl _)]; simp
    rw [e]
    refine ⟨fun i y hy hv hk => ?_, by simp⟩
    by_cases hl : i < c.length
    · rw [List.getElem?_append_left hl] at hy
      exact h i y hy hv hk
    · rw [List.getElem?_append_right (by omega)] at hy
      cases hq : i - c.length with
      | zero => rw [hq] at hy; simp only [List.getElem?_cons_zero, Option.some.injEq] at hy; subst hy; simp at hk
      | succ j => rw [hq] at hy; simp at hy
  · have e0 : goalF c (.mk 3 n s l) = putLF (c ++ ⟨3, (l.length : Int), s⟩ :: List.replicate l.length ⟨0, 0, ByteArray.empty⟩) (c.length + 1) l := by simp [goalF, Tm.kind, frameF]
    rw [e0]
    show _ ∧ _ = some (⟨3, (l.length : Int), s⟩ : Ce)
    have hl : ∀ t ∈ l, t.Good (v : Int) := fun t ht => Tm.In.arg (t := .mk 3 n s l) hg ht
    refine ⟨putL_nf v l _ _ hl (h.frame s l.length) (by omega) (by simp; omega), ?_⟩
    rw [putL_keep l _ _ c.length (by simp) (by omega), List.getElem?_append_right (Nat.le_refl _)]
    simp
theorem goals_nf (v : Nat) : ∀ (l : List Tm) (c : List Ce), (∀ t ∈ l, t.IsGoal ∧ t.Good (v : Int)) → NF v c → v ≤ c.length →
    NF v (goalsF c l).1 ∧ ∀ (j : Nat) (hj : j < l.length), ∃ a : Nat, (goalsF c l).2[j]? = some (a : Int) ∧ (goalsF c l).1[a]? = some ⟨l[j].kind, (l[j].args.length : Int), l[j].s⟩
  | [], c, _, h, _ => ⟨h, fun j hj => by simp at hj⟩
  | t :: r, c, hl, h, hv => by
    have hp := goalF_pos t c
    obtain ⟨k1, k2⟩ := goal_nf v t c (hl t (by simp)).2 (hl t (by simp)).1 h hv
    obtain ⟨k3, k4⟩ := goals_nf v r (goalF c t) (fun x hx => hl x (by simp [hx])) k1 (by omega)
    simp only [goalsF]
    refine ⟨k3, fun j hj => ?_⟩
    cases j with
    | zero => exact ⟨c.length, rfl, by rw [goals_keep r _ _ hp]; exact k2⟩
    | succ j =>
      obtain ⟨a, e1, e2⟩ := k4 j (by simpa using hj)
      exact ⟨a, by simpa using e1, by simpa using e2⟩
theorem begF_nf (n : Nat) : NF n (begF n) := fun i x hx hv _ => by
  rw [List.getElem?_eq_none (by rw [begF_len]; exact hv)] at hx; cases hx
section
variable {l F : List Ce} {φ : Int → Int} {E : Env} {N : Int}
def phiL (l : List Ce) (N : Int) (φ : Int → Int) (x : Int) : Int := if x < l.length then φ x else N + (x - l.length)
theorem cellAt_left {a : Int} (h : Inb l a) : cellAt (l ++ F.map (shC l.length)) a = cellAt l a ∧ Inb (l ++ F.map (shC l.length)) a := by
  obtain ⟨k, rfl, hk, e⟩ := cellAt_eq h
  rw [cellAt_nat (show k < (l ++ F.map (shC l.length)).length by simp; omega), List.getElem_append_left hk, e]
  exact ⟨rfl, Int.natCast_nonneg _, by simp; omega⟩
theorem load_mor (hg : GoodC l) : Mor l (l ++ F.map (shC l.length)) (Inb l) id := by
  have hok : ∀ a, Inb l a → (cellAt l a).OkAt l.length a.toNat := fun a ha => by
    obtain ⟨k, rfl, hk, e⟩ := cellAt_eq ha
    rw [e, Int.toNat_natCast]; exact hg k hk
  refine ⟨fun a ha => ⟨ha, (cellAt_left ha).2⟩, fun a ha => ?_, fun a ha hk => ?_, fun a ha hk i hi => ?_, fun a b _ _ h => h⟩
  · show cellAt _ a = _
    rw [(cellAt_left ha).1]; unfold mvC; split <;> rfl
  · have := hok a ha
    unfold Ce.OkAt at this
    unfold Inb
    omega
  · have h1 := hok a ha
    unfold Ce.OkAt at h1
    have := ha.1
    exact ⟨⟨by omega, by omega⟩, rfl⟩
theorem free_load {v : Nat} (hF : NF v F) {x : Int} (h : Free (l ++ F.map (shC l.length)) x) : (x < l.length ∧ Free l x) ∨ ((l.length : Int) ≤ x ∧ x < l.length + v) := by
  obtain ⟨h1, h2, h3⟩ := h
  by_cases hl : x < l.length
  · have hi : Inb l x := ⟨h1.1, hl⟩
    rw [(cellAt_left hi).1] at h2 h3
    exact .inl ⟨hl, hi, h2, h3⟩
  · refine .inr ⟨by omega, Classical.byContradiction fun hn => ?_⟩
    have hi : Inb F (x - l.length) := ⟨by omega, by have := h1.2; simp only [List.length_append, List.length_map] at this; omega⟩
    obtain ⟨e1, e2⟩ := cellAt_shift (H := l) hi
    rw [show x - (l.length : Int) + l.length = x by omega] at e1
    rw [e1, shC_kind] at h2
    rw [e1, shC_n _ h2] at h3
    obtain ⟨k, hk, hkl, e⟩ := cellAt_eq hi
    exact hF k _ (List.getElem?_eq_getElem hkl) (by omega) (by rw [← e]; exact h2) (by rw [← e]; omega)
theorem load_mon (hM : Mon N l φ E) (hE : EnvOk N E) (hN : 0 ≤ N) {v : Nat} (hF : NF v F) : Mon (N + v) (l ++ F.map (shC l.length)) (phiL l N φ) E := by
  refine ⟨fun x y hx hy hlt => ?_, fun x hx => ?_, fun x hx => ?_⟩
  · rcases free_load hF hx with ⟨a1, a2⟩ | ⟨a1, a2⟩ <;> rcases free_load hF hy with ⟨b1, b2⟩ | ⟨b1, b2⟩ <;> unfold phiL
    · rw [if_pos a1, if_pos b1]; exact hM.lt x y a2 b2 hlt
    · rw [if_pos a1, if_neg (by omega)]; have := hM.bd x a2; omega
    · omega
    · rw [if_neg (by omega), if_neg (by omega)]; omega
  · rcases free_load hF hx with ⟨a1, a2⟩ | ⟨a1, a2⟩ <;> unfold phiL
    · rw [if_pos a1]; have := hM.bd x a2; omega
    · rw [if_neg (by omega)]; omega
  · rcases free_load hF hx with ⟨a1, a2⟩ | ⟨a1, a2⟩ <;> unfold phiL
    · rw [if_pos a1]; exact hM.free x a2
    · rw [if_neg (by omega), eget_none]
      intro p hp
      have := hE.key p hp
      omega
theorem load_hr (hg : GoodC l) {a : Int} {t : Tm} (ha : Inb l a) (h : Hr l φ E (fun _ => True) a t) : Hr (l ++ F.map (shC l.length)) (phiL l N φ) E (fun _ => True) a t :=
  (load_mor (F := F) hg).hr (fun x hx _ _ => ⟨by show phiL l N φ x = φ x; unfold phiL; rw [if_pos hx.2], trivial⟩) h ha
theorem laid_hr {L : List Ce} {g φ : Int → Int} {v : Int} (hE : EnvOk N E) (hN : 0 ≤ N) (hN2 : N < 1000000) (hv8 : v ≤ 8) (hφ : ∀ n, 0 ≤ n → n < v → φ (g n) = N + n) : ∀ (t : Tm) (a : Int), t.Good v → Laid L g a t → Hr L φ E (fun _ => True) a (shiftF t N) := by
  intro t
  induction t using Tm.induct with
  | h k n s l ih =>
    intro a hgd h
    rw [Laid] at h
    obtain ⟨x, hx, hc⟩ := h
    rcases hc with ⟨rfl, rfl, rfl, rfl, h5⟩ | ⟨rfl, rfl, rfl, h4⟩ | ⟨rfl, rfl, rfl, h4⟩ | ⟨rfl, rfl, h3, h4⟩
    · have hn := Tm.In.n (t := .mk 0 n ByteArray.empty []) hgd rfl
      simp only [Tm.n] at hn
      have e : shiftF (.mk 0 n ByteArray.empty []) N = tvar (N + n) := by
        unfold shiftF tvar
        simp only [Tm.ren, if_true, Tm.renL, low_id hn.1 (show n < 1099511627776 by omega), low_id hN (show N < 1099511627776 by omega)]
        rw [Int.add_comm]
      have hst : slook E (tvar (N + n)) = tvar (N + n) := slook_stop (.inr (by
        rw [eget_none]; intro p hp; have := hE.key p hp; show p.1 ≠ N + n; omega))
      rw [e]
      exact .var hx h5 trivial (by rw [hst]; rfl) (by rw [hst, hφ n hn.1 hn.2]; rfl)
    · have e : shiftF (.mk 1 0 s []) N = .mk 1 0 s [] := by simp [shiftF, Tm.ren, Tm.renL]
      have hst : slook E (.mk 1 0 s []) = .mk 1 0 s [] := slook_stop (.inl (by simp [Tm.kind]))
      rw [e]
      exact .leaf hx (by rw [hst, h4] <;> rfl) (by rw [hst]; simp [Tm.kind]) (by rw [hst]; simp [Tm.kind]) (by rw [hst, h4] <;> rfl) (by rw [hst, h4] <;> rfl) (by rw [hst]; rfl)
    · have e : shiftF (.mk 2 n ByteArray.empty []) N = .mk 2 n ByteArray.empty [] := by simp [shiftF, Tm.ren, Tm.renL]
      have hst : slook E (.mk 2 n ByteArray.empty []) = .mk 2 n ByteArray.empty [] := slook_stop (.inl (by simp [Tm.kind]))
      rw [e]
      exact .leaf hx (by rw [hst, h4] <;> rfl) (by rw [hst]; simp [Tm.kind]) (by rw [hst]; simp [Tm.kind]) (by rw [hst, h4] <;> rfl) (by rw [hst, h4] <;> rfl) (by rw [hst]; rfl)
    · have e : shiftF (.mk 3 0 s l) N = .mk 3 0 s (l.map fun t => shiftF t N) := by simp [shiftF, Tm.ren, Tm.renL_map]
      have hst : slook E (.mk 3 0 s (l.map fun t => shiftF t N)) = .mk 3 0 s (l.map fun t => shiftF t N) := slook_stop (.inl (by simp [Tm.kind]))
      rw [e]
      have hL : ∀ (r : List Tm) (b : Int), Laid.LaidL L g b r → ∀ (i : Nat) (hi : i < r.length), Laid L g (b + (i : Nat)) r[i] := by
        intro r
        induction r with
        | nil => intro b _ i hi; simp at hi
        | cons y r ihr =>
          intro b hb i hi
          simp only [Laid.LaidL] at hb
          cases i with
          | zero => simpa using hb.1
          | succ i =>
            have := ihr (b + 1) hb.2 i (by simpa using hi)
            rw [show b + ((i + 1 : Nat) : Int) = b + 1 + (i : Nat) by omega]
            exact this
      refine .comp hx (by rw [h3]) (by rw [hst]; rfl) (by rw [hst]; rfl) (by rw [hst, h3]; simp [Tm.args]) (by rw [hst, h3]; rfl) ?_
      rw [hst]
      intro i hi
      simp only [Tm.args, List.length_map] at hi
      simp only [Tm.args, List.getElem_map]
      exact ih _ (List.getElem_mem hi) _ (Tm.In.arg (t := .mk 3 0 s l) hgd (List.getElem_mem hi)) (hL l _ h4 i hi)
end
def AnsR (l : List Ce) (φ : Int → Int) : Option (List Tm × Nat) → Option (List Tm × Nat) → Prop
  | none, none => True
  | some (xs, w1), some (ys, w2) => w1 = w2 ∧ ys = xs.map (Tm.ren φ) ∧ ∀ x ∈ xs, x.Vars (Free l)
  | _, _ => False
section
variable {l : List Ce} {φ : Int → Int} {E : Env} {N : Int}
theorem rd_fl (hE : EnvOk N E) : ∀ (w : Nat) (s : List Int) (ts : List Tm), HrL l φ E (fun _ => True) s ts → (∀ t ∈ ts, t.In N) → AnsR l φ (rdL l w s) (flL E w ts) := by
  intro w
  induction w using Nat.strongRecOn with
  | _ w ih =>
    intro s ts hH hI
    match w, s, ts, ih, hH, hI with
    | w, [], [], _, _, _ => rw [rdL_nil, flL_nil]; exact ⟨rfl, rfl, by simp⟩
    | w, [], _ :: _, _, h, _ => exact h.elim
    | w, _ :: _, [], _, h, _ => exact h.elim
    | 0, a :: s, t :: ts, _, _, _ => rw [rdL_zero, flL_zero]; trivial
    | w + 1, a :: s, t :: ts, ih, ⟨ha, hr⟩, hI =>
      have hIr : ∀ t ∈ ts, t.In N := fun x hx => hI x (by simp [hx])
      have hi := slook_in hE (hI t (by simp))
      rw [rdL, flL]
      cases ha with
      | @var _ x _ k1 k2 k3 k4 k5 =>
        have hx0 := k1.nonneg
        rw [look_of k1, if_neg (by omega), if_neg (by rw [k2]; decide)]
        have hz : slook E t = .mk 0 (φ x) ByteArray.empty [] := by
          rw [← k5]
          generalize slook E t = z at hi k4
          cases hi with
          | var => rfl
          | atom => cases k4
          | int => cases k4
          | comp => cases k4
        rw [hz]
        simp only [Tm.args, flL_nil, Nat.min_self]
        have := ih w (by omega) s ts hr hIr
        revert this
        cases rdL l w s with
        | none => cases flL E w ts with
          | none => intro _; trivial
          | some p => intro h; exact h.elim
        | some p =>
          obtain ⟨xs, w1⟩ := p
          cases flL E w ts with
          | none => intro h; exact h.elim
          | some q =>
            obtain ⟨ys, w2⟩ := q
            rintro ⟨e1, e2, e3⟩
            simp only [k2, if_true]
            refine ⟨e1, by rw [e2]; rfl, fun y hy => ?_⟩
            rcases List.mem_cons.1 hy with rfl | hy
            · exact .mk _ _ _ _ (fun _ => k1.free k2) (by simp)
            · exact e3 y hy
      | @leaf _ x _ k1 k2 k3 k4 k5 k6 k7 =>
        have hx0 := k1.nonneg
        have hk0 : (cellAt l x).kind ≠ 0 := by rw [k2]; exact k3
        rw [look_of k1, if_neg (by omega), if_neg (by rw [k2]; exact k4), k7]
        simp only [flL_nil, Nat.min_self]
        have := ih w (by omega) s ts hr hIr
        revert this
        cases rdL l w s with
        | none => cases flL E w ts with
          | none => intro _; trivial
          | some p => intro h; exact h.elim
        | some p =>
          obtain ⟨xs, w1⟩ := p
          cases flL E w ts with
          | none => intro h; exact h.elim
          | some q =>
            obtain ⟨ys, w2⟩ := q
            rintro ⟨e1, e2, e3⟩
            simp only [hk0, if_false]
            refine ⟨e1, ?_, fun y hy => ?_⟩
            · rw [e2, List.map_cons, k2, k5, k6]
              simp only [Tm.ren, Tm.renL, k3, if_false]
            · rcases List.mem_cons.1 hy with rfl | hy
              · exact .mk _ _ _ _ (fun h => absurd h hk0) (by simp)
              · exact e3 y hy
      | @comp _ x _ k1 k2 k3 k4 k5 k6 k7 =>
        have hx0 := k1.nonneg
        rw [look_of k1, if_neg (by omega), if_pos k2]
        have ha := ih w (by omega) _ _ ((hr_args k5).2 k7) (fun y hy => hi.arg hy)
        revert ha
        cases rdL l w (argsAt x (cellAt l x).n) with
        | none => cases flL E w (slook E t).args with
          | none => intro _; trivial
          | some p => intro h; exact h.elim
        | some p =>
          obtain ⟨xs, w1⟩ := p
          cases flL E w (slook E t).args with
          | none => intro h; exact h.elim
          | some q =>
            obtain ⟨ys, w2⟩ := q
            rintro ⟨rfl, e2, e3⟩
            simp only
            have := ih (min w w1) (by omega) s ts hr hIr
            revert this
            cases rdL l (min w w1) s with
            | none => cases flL E (min w w1) ts with
              | none => intro _; trivial
              | some p => intro h; exact h.elim
            | some p =>
              obtain ⟨xs', w1'⟩ := p
              cases flL E (min w w1) ts with
              | none => intro h; exact h.elim
              | some q =>
                obtain ⟨ys', w2'⟩ := q
                rintro ⟨d1, d2, d3⟩
                refine ⟨d1, ?_, fun y hy => ?_⟩
                · rw [d2, List.map_cons, k3, k4, k6, e2]
                  simp [Tm.ren, Tm.renL_map]
                · rcases List.mem_cons.1 hy with rfl | hy
                  · exact .mk _ _ _ _ (fun h => absurd h (by decide)) e3
                  · exact d3 y hy
theorem tidy_same (hM : Mon N l φ E) {xs ys : List Tm} (h : ys = xs.map (Tm.ren φ)) (hv : ∀ x ∈ xs, x.Vars (Free l)) : tidy ys = tidy xs := by
  rw [h]
  exact tidy_map (fun a b ha hb e => hM.inj ha hb e) xs hv
end
structure GoalAt (N : Int) (l : List Ce) (φ : Int → Int) (E : Env) (a : Int) (t : Tm) : Prop where
  inb : Inb l a
  cell : cellAt l a = ⟨t.kind, (t.args.length : Int), t.s⟩
  goal : t.IsGoal
  tin : t.In N
  tells : Hr l φ E (fun _ => True) a t
def Chain (N : Int) (l : List Ce) (φ : Int → Int) (E : Env) (gs : List Gm) : Int → List Gl → Prop
  | n, [] => n = -1
  | n, g :: r => ∃ k : Nat, n = (k : Int) ∧ k < gs.length ∧ ((gs[k]?).getD default).bar = g.bar ∧ GoalAt N l φ E ((gs[k]?).getD default).at_ g.t ∧ ((gs[k]?).getD default).next < n ∧ Chain N l φ E gs ((gs[k]?).getD default).next r
theorem Chain.ge {N : Int} {l : List Ce} {φ : Int → Int} {E : Env} {gs : List Gm} {n : Int} {gl : List Gl} (h : Chain N l φ E gs n gl) : -1 ≤ n ∧ n < gs.length := by
  cases gl with
  | nil => have : n = -1 := h; omega
  | cons g r => obtain ⟨k, h1, h2, _⟩ := h; omega
theorem Chain.imp {N N' : Int} {l l' : List Ce} {φ φ' : Int → Int} {E E' : Env} {gs gs' : List Gm} (hgs : ∀ k, k < gs.length → gs'[k]? = gs[k]?) (hlen : gs.length ≤ gs'.length)
    (hG : ∀ a t, GoalAt N l φ E a t → GoalAt N' l' φ' E' a t) : ∀ {gl : List Gl} {n : Int}, Chain N l φ E gs n gl → Chain N' l' φ' E' gs' n gl
  | [], n, h => h
  | g :: r, n, ⟨k, h1, h2, h3, h4, h5, h6⟩ => by
    refine ⟨k, h1, by omega, ?_⟩
    rw [hgs k h2]
    exact ⟨h3, hG _ _ h4, h5, Chain.imp hgs hlen hG h6⟩
def Snap (N : Int) (l : List Ce) (E : Env) (q : Nat) (query : Int) (gs : List Gm) (n : Int) (gl : List Gl) : Prop :=
  ∃ φ, Mon N l φ E ∧ (∀ v : Nat, v < q → Inb l (query + (v : Nat)) ∧ Hr l φ E (fun _ => True) (query + (v : Nat)) (tvar (v : Nat))) ∧ Chain N l φ E gs n gl
theorem Mon.mono {N N' : Int} {l : List Ce} {φ : Int → Int} {E : Env} (h : Mon N l φ E) (hN : N ≤ N') : Mon N' l φ E := ⟨h.lt, fun x hx => by have := h.bd x hx; omega, h.free⟩
theorem Snap.mono {N N' : Int} {l : List Ce} {E : Env} {q : Nat} {query : Int} {gs gs' : List Gm} {n : Int} {gl : List Gl} (h : Snap N l E q query gs n gl) (hN : N ≤ N') (hgs : ∀ k, k < gs.length → gs'[k]? = gs[k]?) (hlen : gs.length ≤ gs'.length) : Snap N' l E q query gs' n gl := by
  obtain ⟨φ, h1, h2, h3⟩ := h
  exact ⟨φ, h1.mono hN, h2, h3.imp hgs hlen fun _ _ h => ⟨h.inb, h.cell, h.goal, h.tin.mono hN, h.tells⟩⟩
structure ChR (h : Hp) (E : Env) (N : Int) (q : Nat) (query : Int) (gs : List Gm) (c : Cm) (d : Chc) : Prop where
  from_ : c.from_ = d.at_
  top : c.top ≤ h.cells.length
  tr : c.trail ≤ h.trail.length
  tre : c.trail ≤ d.trail
  dtr : d.trail ≤ E.length
  good : (oldH h c.top c.trail).Good
  snap : Snap N (oldH h c.top c.trail).cells (E.take d.trail) q query gs (c.goal : Int) d.g
def ChsR (h : Hp) (E : Env) (N : Int) (q : Nat) (query : Int) (gs : List Gm) : List Cm → List Chc → Prop
  | [], [] => True
  | c :: cs, d :: ds => ChR h E N q query gs c d ∧ (∀ x ∈ cs, x.top ≤ c.top ∧ x.trail ≤ c.trail) ∧ ChsR h E N q query gs cs ds
  | _, _ => False
section
variable {h h' : Hp} {E E' : Env} {N N' : Int} {q : Nat} {query : Int} {gs gs' : List Gm}
theorem ChsR.len : ∀ {cs : List Cm} {ds : List Chc}, ChsR h E N q query gs cs ds → cs.length = ds.length
  | [], [], _ => rfl
  | c :: cs, d :: ds, h => by simp [ChsR.len h.2.2]
  | [], _ :: _, h => h.elim
  | _ :: _, [], h => h.elim
theorem ChsR.drop : ∀ {cs : List Cm} {ds : List Chc} (k : Nat), ChsR h E N q query gs cs ds → ChsR h E N q query gs (cs.drop k) (ds.drop k)
  | cs, ds, 0, h => h
  | [], [], k + 1, h => by simp [ChsR]
  | c :: cs, d :: ds, k + 1, h => ChsR.drop k h.2.2
  | [], _ :: _, _ + 1, h => h.elim
  | _ :: _, [], _ + 1, h => h.elim
theorem ChsR.mem : ∀ {cs : List Cm} {ds : List Chc}, ChsR h E N q query gs cs ds → ∀ c ∈ cs, ∃ d ∈ ds, ChR h E N q query gs c d
  | [], [], _, c, hc => by cases hc
  | c :: cs, d :: ds, h, x, hx => by
    rcases List.mem_cons.1 hx with rfl | hx
    · exact ⟨d, by simp, h.1⟩
    · obtain ⟨e, he, h3⟩ := ChsR.mem h.2.2 x hx
      exact ⟨e, by simp [he], h3⟩
  | [], _ :: _, h, _, _ => h.elim
  | _ :: _, [], h, _, _ => h.elim
theorem ChsR.imp : ∀ {cs : List Cm} {ds : List Chc}, (∀ c d, c ∈ cs → d ∈ ds → ChR h E N q query gs c d → ChR h' E' N' q query gs' c d) → ChsR h E N q query gs cs ds → ChsR h' E' N' q query gs' cs ds
  | [], [], _, _ => trivial
  | c :: cs, d :: ds, k, h => ⟨k c d (by simp) (by simp) h.1, h.2.1, ChsR.imp (fun c d hc hd => k c d (by simp [hc]) (by simp [hd])) h.2.2⟩
  | [], _ :: _, _, h => h.elim
  | _ :: _, [], _, h => h.elim
theorem ChR.move {c : Cm} {d : Chc} (k : ChR h E N q query gs c d) (ho : oldH h' c.top c.trail = oldH h c.top c.trail) (h1 : c.top ≤ h'.cells.length) (h2 : c.trail ≤ h'.trail.length) (hE : E'.take d.trail = E.take d.trail) (h3 : d.trail ≤ E'.length) (hN : N ≤ N') (hgs : ∀ k, k < gs.length → gs'[k]? = gs[k]?) (hlen : gs.length ≤ gs'.length) :
    ChR h' E' N' q query gs' c d :=
  ⟨k.from_, h1, h2, k.tre, h3, by rw [ho]; exact k.good, by rw [ho, hE]; exact k.snap.mono hN hgs hlen⟩
theorem undoC_at {l : List Ce} {vs : List Int} {i : Nat} : (undoC l vs)[i]? = (l[i]?).map fun c => if (i : Int) ∈ vs then { c with n := (i : Int) } else c := by
  unfold undoC
  rw [List.getElem?_mapIdx]
theorem old_old {top tr top' tr' : Nat} (h1 : top' ≤ top) (h2 : tr' ≤ tr) : oldH (oldH h top tr) top' tr' = oldH h top' tr' := by
  unfold oldH
  simp only [Hp.mk.injEq]
  refine ⟨?_, by rw [List.take_take, Nat.min_eq_left h2]⟩
  apply List.ext_getElem?
  intro i
  by_cases hi : i < top'
  · rw [List.getElem?_take_of_lt hi, List.getElem?_take_of_lt hi, undoC_at, undoC_at, List.getElem?_take_of_lt (by omega), undoC_at]
    cases h.cells[i]? with
    | none => rfl
    | some c =>
      simp only [Option.map_some, Option.some.injEq]
      have hm : (i : Int) ∈ h.trail.drop tr' ↔ (i : Int) ∈ (h.trail.take tr).drop tr' ∨ (i : Int) ∈ h.trail.drop tr := by
        have e : h.trail.drop tr' = (h.trail.take tr).drop tr' ++ h.trail.drop tr := by
          conv => lhs; rw [← List.take_append_drop tr h.trail]
          rw [List.drop_append]
          by_cases hl : tr ≤ h.trail.length
          · rw [show tr' - (List.take tr h.trail).length = 0 by rw [List.length_take]; omega]; rfl
          · rw [show h.trail.drop tr = [] from List.drop_eq_nil_of_le (by omega), List.drop_nil]
        rw [e, List.mem_append]
      by_cases a1 : (i : Int) ∈ (h.trail.take tr).drop tr'
      · rw [if_pos a1, if_pos (hm.2 (.inl a1))]; split <;> rfl
      · by_cases a2 : (i : Int) ∈ h.trail.drop tr
        · rw [if_neg a1, if_pos a2, if_pos (hm.2 (.inr a2))]
        · rw [if_neg a1, if_neg a2, if_neg (fun k => (hm.1 k).elim a1 a2)]
  · rw [List.getElem?_eq_none (by rw [List.length_take]; omega), List.getElem?_eq_none (by rw [List.length_take]; omega)]
theorem old_grown {F : List Ce} {u : List Ce} {vs : List Int} (hB : Bound (h.cells ++ F) vs u) {top tr : Nat} (h1 : top ≤ h.cells.length) (h2 : tr ≤ h.trail.length) : oldH ⟨u, h.trail ++ vs⟩ top tr = oldH h top tr := by
  unfold oldH
  simp only [Hp.mk.injEq]
  refine ⟨?_, by rw [List.take_append_of_le_length h2]⟩
  apply List.ext_getElem?
  intro i
  by_cases hi : i < top
  · rw [List.getElem?_take_of_lt hi, List.getElem?_take_of_lt hi, undoC_at, undoC_at, List.drop_append_of_le_length h2]
    have hil : i < (h.cells ++ F).length := by simp; omega
    have hiu : i < u.length := by rw [hB.1]; exact hil
    have hih : i < h.cells.length := by omega
    rw [List.getElem?_eq_getElem hiu, List.getElem?_eq_getElem hih]
    simp only [Option.map_some, Option.some.injEq]
    have hg : (h.cells ++ F)[i] = h.cells[i] := List.getElem_append_left hih
    rcases hB.2 i hil hiu with ⟨k1, k2⟩ | ⟨k1, k2, k3, n, k4, k5, k6⟩
    · rw [k2, hg]
      by_cases a1 : (i : Int) ∈ h.trail.drop tr
      · rw [if_pos (List.mem_append_left _ a1), if_pos a1]
      · rw [if_neg (fun k => (List.mem_append.1 k).elim a1 k1), if_neg a1]
    · rw [if_pos (List.mem_append_right _ k1), k6]
      rw [hg] at k3 ⊢
      have : ({ h.cells[i] with n := (i : Int) } : Ce) = h.cells[i] := by
        cases hc : h.cells[i]
        rw [hc] at k3
        simp only at k3
        rw [k3]
      rw [this]
      split <;> rfl
  · rw [List.getElem?_eq_none (by rw [List.length_take]; omega), List.getElem?_eq_none (by rw [List.length_take]; omega)]
theorem old_self (h : Hp) : oldH h h.cells.length h.trail.length = h := by
  unfold oldH
  rw [List.drop_length, undoC_nil, List.take_length, List.take_length]
end
def slackM (fuel : Nat) (out : List Ev) : Nat := 300 * (fuel + (12 - out.length))
def slackG (fuel : Nat) (out : List Ev) : Nat := 5 * (fuel + (12 - out.length))
structure Sim0 (q : Nat) (m : Mv) (s : Sv) (gl : List Gl) : Prop where
  good : m.h.Good
  fuel : m.fuel = s.fuel
  out : m.out = s.out
  tr : m.h.trail.length ≤ s.env.length
  cur : Snap s.vars m.h.cells s.env q m.query m.goals m.now gl
  chc : ChsR m.h s.env s.vars q m.query m.goals m.choices s.choices
  pot : m.h.cells.length + slackM m.fuel m.out ≤ 60000
  pots : ∀ c ∈ m.choices, c.top + 300 + slackM m.fuel m.out ≤ 60000
  gcnt : m.goals.length + slackG m.fuel m.out ≤ 5000
structure Sim (P : List Cl) (q : Nat) (m : Mv) (s : Sv) (gl : List Gl) : Prop where
  ok : SvOk P s
  gls : GlsOk s.vars gl
  sim : Sim0 q m s gl
structure Bak (P : List Cl) (q : Nat) (m : Mv) (s : Sv) (cs : List Cm) (ds : List Chc) : Prop where
  ok : SvOk P { s with choices := ds }
  good : m.h.Good
  fuel : m.fuel = s.fuel
  out : m.out = s.out
  chc : ChsR m.h s.env s.vars q m.query m.goals cs ds
  pots : ∀ c ∈ cs, c.top + 300 + slackM m.fuel m.out ≤ 60000
  gcnt : m.goals.length + 5 + slackG m.fuel m.out ≤ 5000
def Both (q : Nat) : RM × Mv → Res × Sv → Prop
  | (.next, m), (.next gl, s) => Sim0 q m s gl
  | (.no, _), (.no, _) => True
  | (.off, m), (.off, s) => m.out = s.out
  | _, _ => False
theorem like_same {N : Int} {l : List Ce} {φ : Int → Int} {E : Env} {a : Int} {t : Tm} (h : GoalAt N l φ E a t) (c : Cl) : likeM c (cellAt l a) ↔ likeF c.head t := by
  unfold likeM likeF
  rw [h.cell]
  simp only
  exact ⟨fun ⟨h1, h2⟩ => ⟨h1, by omega⟩, fun ⟨h1, h2⟩ => ⟨h1, by omega⟩⟩
theorem next_same {N : Int} {l : List Ce} {φ : Int → Int} {E : Env} {a : Int} {t : Tm} (h : GoalAt N l φ E a t) (P : List Cl) : ∀ (n k : Nat), nextM P (cellAt l a) n k = nextF P t n k
  | 0, k => rfl
  | n + 1, k => by
    rw [nextM, nextF, next_same h P n (k + 1)]
    cases P[k]? with
    | none => rfl
    | some c => simp only [like_same h]
end Go.Proofs.Ytlpmfkpefoegeab
