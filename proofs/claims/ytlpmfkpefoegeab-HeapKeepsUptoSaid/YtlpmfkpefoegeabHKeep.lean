/-
  What is wanted is kept: terms in a heap that was collected, in plain data.
-/
import Derived.Test.YtlpmfkpefoegeabPTidy
import Derived.Test.YtlpmfkpefoegeabHCol
import Derived.Test.YtlpmfkpefoegeabHBack
namespace Go.Proofs.Ytlpmfkpefoegeab
set_option linter.unusedVariables false
set_option linter.unusedSimpArgs false

section
variable {h : Hp} {roots : List Int}

/-- a place that is reached -/
def RP (h : Hp) (roots : List Int) (a : Int) : Prop := 0 ≤ a ∧ Reach h.cells roots a.toNat

theorem RP.nat {a : Int} (hr : RP h roots a) (hg : GoodC h.cells) : ∃ k : Nat, a = (k : Int) ∧ k < h.cells.length ∧ Reach h.cells roots k := by
  obtain ⟨h0, h1⟩ := hr
  obtain ⟨k, rfl⟩ := Int.eq_ofNat_of_zero_le h0
  rw [Int.toNat_natCast] at h1
  exact ⟨k, rfl, h1.lt hg, h1⟩
theorem RP.of {k : Nat} (hr : Reach h.cells roots k) : RP h roots (k : Int) := ⟨Int.natCast_nonneg _, by rw [Int.toNat_natCast]; exact hr⟩

theorem ahead_nat (m : List Bool) (k : Nat) : ahead m (k : Int) = (cnt m k : Nat) := by unfold ahead; rw [Int.toNat_natCast]

theorem gc_cell (hg : GoodC h.cells) {a : Int} (hr : RP h roots a) : cellAt (gcH h roots).cells (ahead (marks h.cells roots) a) = adj (marks h.cells roots) (cellAt h.cells a) := by
  obtain ⟨k, rfl, hk, hr⟩ := hr.nat hg
  rw [ahead_nat, gcH_cells k hk hr]

theorem gc_inb (hg : GoodC h.cells) {a : Int} (hr : RP h roots a) : Inb (gcH h roots).cells (ahead (marks h.cells roots) a) ∧ Inb h.cells a := by
  obtain ⟨k, rfl, hk, hr⟩ := hr.nat hg
  have := gcH_lt (h := h) hk hr
  rw [ahead_nat]
  unfold Inb
  omega

theorem ahead_inj (hg : GoodC h.cells) {a b : Int} (ha : RP h roots a) (hb : RP h roots b) (e : ahead (marks h.cells roots) a = ahead (marks h.cells roots) b) : a = b := by
  obtain ⟨k, rfl, hk, ha⟩ := ha.nat hg
  obtain ⟨m, rfl, hm, hb⟩ := hb.nat hg
  rw [ahead_nat, ahead_nat] at e
  have := cnt_inj ((marks_get hk).2 ha) ((marks_get hm).2 hb) (by omega)
  rw [this]

/-- what a reference stands for is reached -/
theorem RP.next (hg : GoodC h.cells) {a : Int} (hr : RP h roots a) (hk : (cellAt h.cells a).kind = 0) : RP h roots (cellAt h.cells a).n := by
  obtain ⟨k, rfl, hkl, hr⟩ := hr.nat hg
  have h1 := hg k hkl
  rw [cellAt_nat hkl] at hk ⊢
  unfold Ce.OkAt at h1
  obtain ⟨m, hm⟩ := Int.eq_ofNat_of_zero_le (show 0 ≤ h.cells[k].n by omega)
  rw [hm]
  exact RP.of (.step hr (.inl (by rw [cellAt_nat hkl]; exact ⟨hk, hm⟩)))

theorem gc_stop (hg : GoodC h.cells) {a : Int} (hr : RP h roots a) : Stop (gcH h roots).cells (ahead (marks h.cells roots) a) ↔ Stop h.cells a := by
  unfold Stop
  rw [gc_cell hg hr]
  unfold adj
  by_cases hk : (cellAt h.cells a).kind = 0
  · rw [if_pos hk]
    simp only [hk, ne_eq, not_true_eq_false, false_or]
    exact ⟨fun e => ahead_inj hg (hr.next hg hk) hr e, fun e => by rw [e]⟩
  · rw [if_neg hk]
    simp [hk]

theorem gc_next (hg : GoodC h.cells) {a : Int} (hr : RP h roots a) (hs : ¬ Stop h.cells a) : (cellAt (gcH h roots).cells (ahead (marks h.cells roots) a)).n = ahead (marks h.cells roots) (cellAt h.cells a).n ∧ RP h roots (cellAt h.cells a).n := by
  have hk : (cellAt h.cells a).kind = 0 := Classical.byContradiction fun hk => hs (.inl hk)
  rw [gc_cell hg hr, adj, if_pos hk]
  exact ⟨rfl, hr.next hg hk⟩

theorem gc_looks (hg : GoodC h.cells) {a x : Int} (hl : Looks h.cells a x) (hr : RP h roots a) : Looks (gcH h roots).cells (ahead (marks h.cells roots) a) (ahead (marks h.cells roots) x) ∧ RP h roots x := by
  induction hl with
  | stop h1 h2 => exact ⟨.stop (gc_inb hg hr).1 ((gc_stop hg hr).2 h2), hr⟩
  | next h1 h2 _ ih =>
    obtain ⟨e, hn⟩ := gc_next hg hr h2
    obtain ⟨k1, k2⟩ := ih hn
    exact ⟨.next (gc_inb hg hr).1 (fun hs => h2 ((gc_stop hg hr).1 hs)) (by rw [e]; exact k1), k2⟩

theorem gc_looks_back (hg : GoodC h.cells) {b y : Int} (hl : Looks (gcH h roots).cells b y) : ∀ a, RP h roots a → b = ahead (marks h.cells roots) a → ∃ x, Looks h.cells a x := by
  induction hl with
  | stop h1 h2 =>
    rintro a hr rfl
    exact ⟨a, .stop (gc_inb hg hr).2 ((gc_stop hg hr).1 h2)⟩
  | next h1 h2 _ ih =>
    rintro a hr rfl
    have hs : ¬ Stop h.cells a := fun hs => h2 ((gc_stop hg hr).2 hs)
    obtain ⟨e, hn⟩ := gc_next hg hr hs
    obtain ⟨x, hx⟩ := ih _ hn e
    exact ⟨x, .next (gc_inb hg hr).2 hs hx⟩

theorem gc_look (hg : GoodC h.cells) {a : Int} (hr : RP h roots a) :
    (look h.cells a < 0 ∧ look (gcH h roots).cells (ahead (marks h.cells roots) a) < 0) ∨
    (0 ≤ look h.cells a ∧ look (gcH h roots).cells (ahead (marks h.cells roots) a) = ahead (marks h.cells roots) (look h.cells a) ∧ RP h roots (look h.cells a)) := by
  by_cases h0 : 0 ≤ look h.cells a
  · obtain ⟨k1, k2⟩ := gc_looks hg (look_looks h0) hr
    exact .inr ⟨h0, look_of k1, k2⟩
  · refine .inl ⟨by omega, Classical.byContradiction fun h1 => ?_⟩
    obtain ⟨x, hx⟩ := gc_looks_back hg (look_looks (l := (gcH h roots).cells) (by omega)) a hr rfl
    have := look_of hx
    have := hx.nonneg
    omega

/-- the arguments of a frame that is reached -/
theorem gc_args (hg : GoodC h.cells) {a : Int} (hr : RP h roots a) (hk : (cellAt h.cells a).kind = 3) :
    argsAt (ahead (marks h.cells roots) a) (cellAt h.cells a).n = (argsAt a (cellAt h.cells a).n).map (ahead (marks h.cells roots)) ∧ ∀ x ∈ argsAt a (cellAt h.cells a).n, RP h roots x := by
  obtain ⟨k, rfl, hkl, hr⟩ := hr.nat hg
  have h1 := hg k hkl
  have hk' := hk
  rw [cellAt_nat hkl] at hk'
  unfold Ce.OkAt at h1
  have hn : 0 ≤ (cellAt h.cells (k : Int)).n := by rw [cellAt_nat hkl]; omega
  obtain ⟨n, hn⟩ := Int.eq_ofNat_of_zero_le hn
  rw [hn]
  have key : ∀ i, i < n → cnt (marks h.cells roots) (k + 1 + i) = cnt (marks h.cells roots) k + 1 + i ∧ Reach h.cells roots (k + 1 + i) := fun i hi => by
    refine ⟨(gcH_args hg hkl hr hk i (by omega)).1, ?_⟩
    have := (gcH_args hg hkl hr hk (i + 1) (by omega)).2 (by omega)
    rw [show k + 1 + i = k + (i + 1) by omega]
    exact this
  constructor
  · unfold argsAt
    rw [List.map_map]
    refine List.map_congr_left fun i hi => ?_
    rw [List.mem_range, Int.toNat_natCast] at hi
    obtain ⟨k1, k2⟩ := key i hi
    simp only [Function.comp_apply]
    rw [show (k : Int) + 1 + (i : Nat) = ((k + 1 + i : Nat) : Int) by omega, ahead_nat, ahead_nat, k1]
    omega
  · intro x hx
    unfold argsAt at hx
    obtain ⟨i, hi, rfl⟩ := List.mem_map.1 hx
    rw [List.mem_range, Int.toNat_natCast] at hi
    rw [show (k : Int) + 1 + (i : Nat) = ((k + 1 + i : Nat) : Int) by omega]
    exact RP.of (key i hi).2

/-- a term's numbers, moved -/
def renP (m : List Bool) : List Tm × Nat → List Tm × Nat := fun p => (p.1.map (Tm.ren (ahead m)), p.2)

theorem gc_rdL (hg : GoodC h.cells) : ∀ (w : Nat) (s : List Int), (∀ a ∈ s, RP h roots a) →
    rdL (gcH h roots).cells w (s.map (ahead (marks h.cells roots))) = (rdL h.cells w s).map (renP (marks h.cells roots)) ∧ ∀ ts w', rdL h.cells w s = some (ts, w') → ∀ t ∈ ts, t.Vars (RP h roots) := by
  intro w
  induction w using Nat.strongRecOn with
  | _ w ih =>
    intro s hs
    match w, s, ih, hs with
    | w, [], _, _ =>
      rw [List.map_nil, rdL_nil, rdL_nil]
      exact ⟨rfl, fun ts w' e t ht => by simp only [Option.some.injEq, Prod.mk.injEq] at e; rw [← e.1] at ht; cases ht⟩
    | 0, a :: r, _, _ =>
      rw [List.map_cons, rdL_zero, rdL_zero]
      exact ⟨rfl, fun ts w' e => by cases e⟩
    | w + 1, a :: r, ih, hs =>
      have hr : ∀ x ∈ r, RP h roots x := fun x hx => hs x (by simp [hx])
      rw [List.map_cons, rdL, rdL]
      rcases gc_look hg (hs a (by simp)) with ⟨h1, h2⟩ | ⟨h1, h2, h3⟩
      · rw [if_pos h1, if_pos h2]
        exact ⟨rfl, fun ts w' e => by cases e⟩
      · have hnn : ¬ ahead (marks h.cells roots) (look h.cells a) < 0 := by unfold ahead; omega
        rw [h2, gc_cell hg h3, if_neg (show ¬ look h.cells a < 0 by omega), if_neg hnn]
        have hak : (adj (marks h.cells roots) (cellAt h.cells (look h.cells a))).kind = (cellAt h.cells (look h.cells a)).kind := by unfold adj; split <;> rfl
        have has : (adj (marks h.cells roots) (cellAt h.cells (look h.cells a))).s = (cellAt h.cells (look h.cells a)).s := by unfold adj; split <;> rfl
        rw [hak, has]
        by_cases k3 : (cellAt h.cells (look h.cells a)).kind = 3
        · have han : (adj (marks h.cells roots) (cellAt h.cells (look h.cells a))).n = (cellAt h.cells (look h.cells a)).n := by unfold adj; rw [if_neg (by omega)]
          rw [if_pos k3, if_pos k3, han]
          obtain ⟨e1, e2⟩ := gc_args hg h3 k3
          obtain ⟨i1, i2⟩ := ih w (by omega) _ e2
          rw [e1, i1]
          cases hq : rdL h.cells w (argsAt (look h.cells a) (cellAt h.cells (look h.cells a)).n) with
          | none => exact ⟨rfl, fun ts w' e => by cases e⟩
          | some p =>
            obtain ⟨ts1, w1⟩ := p
            simp only [Option.map_some, renP]
            obtain ⟨j1, j2⟩ := ih (min w w1) (by omega) r hr
            rw [j1]
            cases hq2 : rdL h.cells (min w w1) r with
            | none => exact ⟨rfl, fun ts w' e => by cases e⟩
            | some p2 =>
              obtain ⟨rs, w2⟩ := p2
              simp only [Option.map_some, renP, List.map_cons, Tm.ren, Tm.renL_map]
              refine ⟨rfl, fun ts w' e t ht => ?_⟩
              simp only [Option.some.injEq, Prod.mk.injEq] at e
              rw [← e.1] at ht
              rcases List.mem_cons.1 ht with rfl | ht
              · exact .mk _ _ _ _ (fun e => absurd e (by decide)) (i2 _ _ hq)
              · exact j2 _ _ hq2 t ht
        · rw [if_neg k3, if_neg k3]
          obtain ⟨j1, j2⟩ := ih w (by omega) r hr
          rw [j1]
          cases hq2 : rdL h.cells w r with
          | none => exact ⟨rfl, fun ts w' e => by cases e⟩
          | some p2 =>
            obtain ⟨rs, w2⟩ := p2
            by_cases k0 : (cellAt h.cells (look h.cells a)).kind = 0
            · simp only [Option.map_some, renP, List.map_cons, if_pos k0, Tm.ren, Tm.renL, if_true]
              refine ⟨trivial, fun ts w' e t ht => ?_⟩
              simp only [Option.some.injEq, Prod.mk.injEq] at e
              rw [← e.1] at ht
              rcases List.mem_cons.1 ht with rfl | ht
              · exact .mk _ _ _ _ (fun e => h3) (fun _ h => by cases h)
              · exact j2 _ _ hq2 t ht
            · have han : (adj (marks h.cells roots) (cellAt h.cells (look h.cells a))).n = (cellAt h.cells (look h.cells a)).n := by unfold adj; rw [if_neg k0]
              simp only [Option.map_some, renP, List.map_cons, if_neg k0, Tm.ren, Tm.renL, han]
              refine ⟨trivial, fun ts w' e t ht => ?_⟩
              simp only [Option.some.injEq, Prod.mk.injEq] at e
              rw [← e.1] at ht
              rcases List.mem_cons.1 ht with rfl | ht
              · exact .mk _ _ _ _ (fun e => absurd e k0) (fun _ h => by cases h)
              · exact j2 _ _ hq2 t ht

/-- a term that is wanted is there as it was, but for where its variables are -/
theorem gc_rd1 (hg : GoodC h.cells) (w : Nat) {a : Int} (hr : RP h roots a) :
    rd1 (gcH h roots).cells w (ahead (marks h.cells roots) a) = (rd1 h.cells w a).map (fun p => (p.1.ren (ahead (marks h.cells roots)), p.2)) ∧ ∀ t w', rd1 h.cells w a = some (t, w') → t.Vars (RP h roots) := by
  obtain ⟨h1, h2⟩ := gc_rdL (roots := roots) hg w [a] (fun x hx => by simp at hx; subst hx; exact hr)
  unfold rd1
  rw [List.map_cons, List.map_nil] at h1
  rw [h1]
  cases hq : rdL h.cells w [a] with
  | none => exact ⟨rfl, fun t w' e => by cases e⟩
  | some p =>
    obtain ⟨ts, w1⟩ := p
    have h3 := h2 _ _ hq
    cases ts with
    | nil => exact ⟨rfl, fun t w' e => by cases e⟩
    | cons t r =>
      refine ⟨rfl, fun t' w' e => ?_⟩
      simp only [Option.some.injEq, Prod.mk.injEq] at e
      rw [← e.1]
      exact h3 t (by simp)

/-- what Term tells of a root, before and behind -/
theorem gc_term (hg : h.Good) (hr : ∀ r ∈ roots, Inb h.cells r) (most : Int) {a : Int} (ha : a ∈ roots) :
    ((termF h a most).2.2 = (termF (gcH h roots) (ahead (marks h.cells roots) a) most).2.2) ∧ (termF h a most).2.1 = (termF (gcH h roots) (ahead (marks h.cells roots) a) most).2.1 ∧
      ((termF h a most).2.2 = 0 → (termF (gcH h roots) (ahead (marks h.cells roots) a) most).1 = (termF h a most).1.ren (ahead (marks h.cells roots)) ∧ (termF h a most).1.Vars (RP h roots)) := by
  have hp : RP h roots a := by
    obtain ⟨h0, h1⟩ := hr a ha
    obtain ⟨k, rfl⟩ := Int.eq_ofNat_of_zero_le h0
    exact RP.of (.root ha (by omega))
  have hg' := gcH_good (roots := roots) hg
  obtain ⟨k1, k2⟩ := gc_rd1 hg.1 (leftOf most).toNat hp
  rw [termF, termF, if_neg (not_not_intro hg), if_neg (not_not_intro hg'), if_neg (not_not_intro (hr a ha)), if_neg (not_not_intro (gc_inb hg.1 hp).1), k1]
  cases hq : rd1 h.cells (leftOf most).toNat a with
  | none => exact ⟨rfl, rfl, fun e => by cases e⟩
  | some p =>
    obtain ⟨t, w⟩ := p
    exact ⟨rfl, rfl, fun _ => ⟨rfl, k2 _ _ hq⟩⟩
end
end Go.Proofs.Ytlpmfkpefoegeab
