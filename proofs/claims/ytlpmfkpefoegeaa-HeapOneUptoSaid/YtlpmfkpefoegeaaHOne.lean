/-
  What Unify answers, in plain data: it is valid, and needs nothing more.
-/
import Derived.Test.YtlpmfkpefoegeaaQHUnify
namespace Go.Proofs.Ytlpmfkpefoegeaa
set_option linter.unusedVariables false
set_option linter.unusedSimpArgs false

theorem unifyF_yes {h u : Hp} {a b : Int} {e : Int} (hu : unifyF h a b = (u, true, e)) :
    h.Good ∧ Inb h.cells a ∧ Inb h.cells b ∧ e = 0 ∧ (uniL 400 [(a, b)] h.cells h.trail).ok = true ∧ u = ⟨(uniL 400 [(a, b)] h.cells h.trail).cells, (uniL 400 [(a, b)] h.cells h.trail).trail⟩ ∧ u.trail.length ≤ 65536 := by
  rw [unifyF] at hu
  split at hu
  · simp at hu
  · rename_i hg
    split at hu
    · simp at hu
    · rename_i hi
      simp only at hu
      have hg' : h.Good := Classical.not_not.1 hg
      obtain ⟨hi1, hi2⟩ := Classical.not_not.1 hi
      split at hu
      · simp at hu
      · split at hu
        · simp at hu
        · rename_i hok
          split at hu
          · simp at hu
          · rename_i htl
            simp only [Prod.mk.injEq, true_and] at hu
            obtain ⟨rfl, rfl⟩ := hu
            exact ⟨hg', hi1, hi2, rfl, by simpa using hok, rfl, by simp only; omega⟩

/-- Unify never answers true with an error, nor another heap without true -/
theorem unifyF_no {h : Hp} {a b : Int} (hu : (unifyF h a b).2.1 = false) : (unifyF h a b).1 = h := by
  unfold unifyF at hu ⊢
  split
  · rfl
  · rename_i hg
    rw [if_neg hg] at hu
    split
    · rfl
    · rename_i hi
      rw [if_neg hi] at hu
      simp only at hu ⊢
      split
      · rfl
      · rename_i hw
        rw [if_neg hw] at hu
        split
        · rfl
        · rename_i ho
          rw [if_neg ho] at hu
          split
          · rfl
          · rename_i hl
            rw [if_neg hl] at hu
            simp at hu

theorem unifyF_ok0 {h : Hp} {a b : Int} (hu : (unifyF h a b).2.1 = true) : (unifyF h a b).2.2 = 0 := by
  have : unifyF h a b = ((unifyF h a b).1, true, (unifyF h a b).2.2) := by rw [← hu]
  exact (unifyF_yes this).2.2.2.1

theorem unifyF_good {h u : Hp} {a b e : Int} (hu : unifyF h a b = (u, true, e)) : u.Good ∧ u.cells.length = h.cells.length := by
  obtain ⟨hg, hi1, hi2, -, hok, rfl, htl⟩ := unifyF_yes hu
  obtain ⟨vs, h1, h2, h3, h4⟩ := uniL_bound 400 [(a, b)] h.cells h.trail hok
  generalize uniL 400 [(a, b)] h.cells h.trail = un at *
  obtain ⟨ok, lu, tu, wu⟩ := un
  simp only at h1 h2 hok htl ⊢
  refine ⟨⟨h2.good hg.1, fun j hj => ?_, by rw [h2.1]; exact hg.2.2.1, htl⟩, h2.1⟩
  subst h1
  by_cases hlt : j < h.trail.length
  · obtain ⟨v, e1, e2, e3⟩ := hg.2.1 j hlt
    refine ⟨v, by rw [List.getElem_append_left hlt]; exact e1, by rw [h2.1]; exact e2, ?_⟩
    rw [h2.kind v e2 (by rw [h2.1]; exact e2)]
    exact e3
  · have hj' : j - h.trail.length < vs.length := by simp only [List.length_append] at hj; omega
    obtain ⟨k1, k2⟩ := h3 vs[j - h.trail.length] (List.getElem_mem _)
    obtain ⟨v, hv⟩ := Int.eq_ofNat_of_zero_le k1
    have hvl : v < h.cells.length := by omega
    refine ⟨v, by rw [List.getElem_append_right (by omega)]; exact hv, by rw [h2.1]; exact hvl, ?_⟩
    rcases h2.2 v hvl (by rw [h2.1]; exact hvl) with ⟨k3, _⟩ | ⟨_, k4, _, n, _, _, k5⟩
    · exact absurd (hv ▸ List.getElem_mem _) k3
    · rw [k5]; exact k4

theorem Bis.flip {l : List Ce} {B : Int → Int → Prop} (h : Bis l B) : Bis l fun a b => B b a := by
  intro a b hab
  obtain ⟨x, y, h1, h2, h3⟩ := h b a hab
  refine ⟨y, x, h2, h1, ?_⟩
  rcases h3 with h3 | ⟨k1, k2, k3⟩
  · exact .inl h3.symm
  · refine .inr ⟨by rw [← k2]; exact k1, k2.symm, fun hk p hp => ?_⟩
    rw [← k2] at hk hp
    have key : ∀ (l l' : List Int) (p : Int × Int), p ∈ l.zip l' → (p.2, p.1) ∈ l'.zip l := by
      intro l
      induction l with
      | nil => intro l' p h; simp at h
      | cons x r ih =>
        intro l' p h
        cases l' with
        | nil => simp at h
        | cons y r' =>
          rw [List.zip_cons_cons] at h ⊢
          rcases List.mem_cons.1 h with rfl | h
          · simp
          · exact List.mem_cons_of_mem _ (ih r' p h)
    exact k3 hk _ (key _ _ _ hp)

/-- what is one needs nothing more to be one -/
theorem unify_same {u : Hp} {a b : Int} {B : Int → Int → Prop} (hg : u.Good) (h1 : Inb u.cells a) (h2 : Inb u.cells b) (hB : Bis u.cells B) (hab : B a b) : unifyF u a b = (u, true, 0) ∨ (unifyF u a b).2.2 = 3 := by
  rw [unifyF, if_neg (not_not_intro hg), if_neg (not_not_intro ⟨h1, h2⟩)]
  simp only
  rcases uniL_again hB u.trail 400 [(a, b)] (fun p hp => by simp at hp; subst hp; exact .inl hab) with ⟨k1, k2⟩ | ⟨k1, k2, k3⟩
  · rw [if_pos k2]; exact .inr rfl
  · have h0 := (uniL_work 400 [(a, b)] u.cells u.trail).2.2 k1
    rw [if_neg (by omega), k1, if_neg (by simp), k2, k3, if_neg (by have := hg.2.2.2; omega)]
    exact .inl rfl

theorem unify_again {h u : Hp} {a b e : Int} (hu : unifyF h a b = (u, true, e)) : (unifyF u a b = (u, true, 0) ∨ (unifyF u a b).2.2 = 3) ∧ (unifyF u b a = (u, true, 0) ∨ (unifyF u b a).2.2 = 3) := by
  obtain ⟨hg, hl⟩ := unifyF_good hu
  obtain ⟨-, hi1, hi2, -, hok, he, -⟩ := unifyF_yes hu
  obtain ⟨B, hB, hs⟩ := uniL_bis 400 [(a, b)] h.cells h.trail hok
  have hc : u.cells = (uniL 400 [(a, b)] h.cells h.trail).cells := by rw [he]
  rw [← hc] at hB
  have hab := hs (a, b) (by simp)
  have i1 : Inb u.cells a := by unfold Inb; rw [hl]; exact hi1
  have i2 : Inb u.cells b := by unfold Inb; rw [hl]; exact hi2
  exact ⟨unify_same hg i1 i2 hB hab, unify_same hg i2 i1 hB.flip hab⟩
end Go.Proofs.Ytlpmfkpefoegeaa
