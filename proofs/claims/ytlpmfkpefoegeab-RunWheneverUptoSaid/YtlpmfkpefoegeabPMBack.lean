/-
  Machine and solver side by side: back to the last choice.
-/
import Derived.Test.YtlpmfkpefoegeabPMCall
import Derived.Test.YtlpmfkpefoegeabQFront2
namespace Go.Proofs.Ytlpmfkpefoegeab
set_option linter.unusedVariables false
set_option linter.unusedSimpArgs false
theorem undo_good {h : Hp} (hg : h.Good) (tr : Nat) : Hp.Good ⟨undoC h.cells (h.trail.drop tr), h.trail.take tr⟩ := by
  obtain ⟨g1, g2, g3, g4⟩ := hg
  refine ⟨fun i hi => ?_, fun j hj => ?_, by rw [undoC_len]; exact g3, by simp only [List.length_take]; omega⟩
  · have hi' : i < h.cells.length := by rw [undoC_len] at hi; exact hi
    have e : Ce.OkAt (undoC h.cells (h.trail.drop tr)).length = Ce.OkAt h.cells.length := by rw [undoC_len]
    show Ce.OkAt (undoC h.cells (h.trail.drop tr)).length i _
    rw [e, undoC_get]
    have h1 := g1 i hi'
    split
    · rename_i hm
      obtain ⟨j, hj, e⟩ := List.mem_iff_getElem.1 (List.mem_of_mem_drop hm)
      obtain ⟨v, e2, hv, hk⟩ := g2 j hj
      have hvi : (v : Int) = i := e2.symm.trans e
      have : v = i := by omega
      subst this
      left
      rcases h1 with ⟨a1, a2, a3, a4⟩ | ⟨a1, _⟩ | ⟨a1, _⟩ | ⟨a1, _⟩
      · exact ⟨a1, by simp only; omega, by simp only; omega, a4⟩
      all_goals (rw [hk] at a1; simp at a1)
    · exact h1
  · simp only [List.length_take] at hj
    obtain ⟨v, e, hv, hk⟩ := g2 j (by omega)
    refine ⟨v, by simp only [List.getElem_take]; exact e, by rw [undoC_len]; exact hv, ?_⟩
    simp only
    rw [undoC_get]
    split <;> exact hk
theorem undo_cut {h : Hp} (hg : h.Good) {top tr : Nat} (htop : top ≤ h.cells.length) (htr : tr ≤ h.trail.length) (ho : (oldH h top tr).Good) : (cutF (undoF h (tr : Int)).1 (top : Int)).1 = oldH h top tr := by
  have hu := undo_good hg tr
  have e1 : (undoF h (tr : Int)).1 = ⟨undoC h.cells (h.trail.drop tr), h.trail.take tr⟩ := by
    rw [undoF, if_neg (not_not_intro hg), if_neg (not_not_intro ⟨Int.natCast_nonneg _, by omega⟩), Int.toNat_natCast]
  rw [e1, cutF, if_neg (not_not_intro hu), if_neg (not_not_intro ⟨Int.natCast_nonneg _, by simp only [undoC_len]; omega⟩), if_neg (not_not_intro ?_)]
  · simp only [Int.toNat_natCast]; rfl
  · simp only [Int.toNat_natCast]; exact ho
theorem callM_no {P : List Cl} {n : Nat} {g : Gm} : ∀ (j k : Nat) (m m' : Mv), callM P n g j k m = (.no, m') → m' = m
  | 0, k, m, m', h => by simp [callM] at h; exact h.symm
  | j + 1, k, m, m', h => by
    rw [callM] at h
    have ih := callM_no (P := P) (n := n) (g := g) j (k + 1) m m'
    split at h
    · simpa using h.symm
    · split at h
      · exact ih h
      · simp only at h
        split at h
        · simp at h
        · split at h
          · simp at h
          · split at h
            · exact ih h
            · simp at h
theorem back_sim {P : List Cl} {q : Nat} (hP : GoodP P) : ∀ (cs : List Cm) (ds : List Chc) (m : Mv) (s : Sv), Bak P q m s cs ds → (q : Int) ≤ s.vars → Both q (backM P cs m) (backF P ds s)
  | [], [], m, s, B, _ => by
    rw [backM, backF]
    show m.out ++ _ = s.out ++ _
    rw [B.out]
  | [], _ :: _, m, s, B, _ => B.chc.elim
  | _ :: _, [], m, s, B, _ => B.chc.elim
  | c :: cs, d :: ds, m, s, B, hqv => by
    obtain ⟨k, hle, hrest⟩ := B.chc
    have hdo := B.ok.chc d (by simp)
    have hpop := B.ok.pop
    have hpw := (List.pairwise_cons.1 B.ok.trails).1
    have hv1 := B.ok.potV
    simp only at hdo hpop hpw hv1
    rw [backM, backF, undo_cut B.good k.top k.tr k.good]
    cases hg : d.g with
    | nil => exact absurd hg hdo.ne
    | cons g rest =>
      simp only
      have hlen := oldH_len (h := m.h) c.top c.trail k.top
      have hchs : ChsR (oldH m.h c.top c.trail) (s.env.take d.trail) s.vars q m.query m.goals cs ds := hrest.imp fun x y hx hy r => by
        obtain ⟨h1, h2⟩ := hle x hx
        refine r.move (old_old h1 h2) (by rw [hlen]; exact h1) ?_ ?_ ?_ (Int.le_refl _) (fun _ _ => rfl) (Nat.le_refl _)
        · show x.trail ≤ (m.h.trail.take c.trail).length
          rw [List.length_take]; have := k.tr; omega
        · rw [List.take_take, Nat.min_eq_left (hpw y hy)]
        · rw [List.length_take]; have := hpw y hy; have := r.dtr; omega
      have hsnap := k.snap
      rw [hg] at hsnap
      have C : CallOk q { m with choices := cs, h := oldH m.h c.top c.trail } { s with choices := ds, env := s.env.take d.trail } c.goal g rest :=
        { good := k.good
          env := hpop.env
          v0 := hpop.vars0
          v1 := by simp only; omega
          qv := hqv
          gt := (hdo.gls g (by rw [hg]; simp)).1
          fuel := B.fuel
          out := B.out
          tr := by
            show (m.h.trail.take c.trail).length ≤ (s.env.take d.trail).length
            rw [List.length_take, List.length_take]
            have := k.tre; have := k.dtr
            omega
          cur := hsnap
          chc := hchs
          pot := by
            show (oldH m.h c.top c.trail).cells.length + 300 + slackM m.fuel m.out ≤ 60000
            rw [hlen]; exact B.pots c (by simp)
          pots := fun x hx => B.pots x (by simp [hx])
          gcnt := B.gcnt }
      have hcall := call_sim hP C (P.length - d.at_) d.at_ rfl
      rw [k.from_]
      have hno := callM_no (P := P) (n := c.goal) (g := goalM m c.goal) (P.length - d.at_) d.at_ { m with choices := cs, h := oldH m.h c.top c.trail }
      have hnoF := callF_no (P := P) (g := g) (rest := rest) (P.length - d.at_) d.at_ { s with choices := ds, env := s.env.take d.trail }
      have e1 : goalM { m with choices := cs, h := oldH m.h c.top c.trail } c.goal = goalM m c.goal := rfl
      rw [e1] at hcall
      generalize callM P c.goal (goalM m c.goal) (P.length - d.at_) d.at_ { m with choices := cs, h := oldH m.h c.top c.trail } = rm at *
      generalize callF P g rest (P.length - d.at_) d.at_ { s with choices := ds, env := s.env.take d.trail } = rs at *
      obtain ⟨ra, m'⟩ := rm
      obtain ⟨rb, s'⟩ := rs
      cases ra with
      | next =>
        cases rb with
        | next gl => exact hcall
        | no => exact hcall.elim
        | off => exact hcall.elim
      | off =>
        cases rb with
        | next gl => exact hcall.elim
        | no => exact hcall.elim
        | off => exact hcall
      | no =>
        cases rb with
        | next gl => exact hcall.elim
        | off => exact hcall.elim
        | no =>
          obtain rfl := hno m' rfl
          obtain rfl := hnoF s' rfl
          simp only
          exact back_sim hP cs ds _ _ ⟨hpop, k.good, B.fuel, B.out, hchs, fun x hx => B.pots x (by simp [hx]), B.gcnt⟩ hqv
end Go.Proofs.Ytlpmfkpefoegeab
