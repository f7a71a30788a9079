/-
  The terms that are wanted, ahead of a collection and behind it: tidied they are the same; they have no more variables than there are cells.
-/
import Derived.Test.YtlpmfkpefoegeabHKeep
import Derived.Test.YtlpmfkpefoegeabPTidy
namespace Go.Proofs.Ytlpmfkpefoegeab
set_option linter.unusedVariables false
set_option linter.unusedSimpArgs false

/-- the terms at the places that have one -/
noncomputable def termsAt (h : Hp) (most : Int) (l : List Int) : List Tm := l.filterMap fun r => if (termF h r most).2.2 = 0 then some (termF h r most).1 else none

theorem termsAt_yes {h : Hp} {most : Int} {l : List Int} {j : Nat} (hj : j < l.length) (e : (termF h l[j] most).2.2 = 0) : termsAt h most (l.take (j + 1)) = termsAt h most (l.take j) ++ [(termF h l[j] most).1] := by
  rw [termsAt, List.take_succ_eq_append_getElem hj, List.filterMap_append]
  simp [termsAt, e]
theorem termsAt_no {h : Hp} {most : Int} {l : List Int} {j : Nat} (hj : j < l.length) (e : (termF h l[j] most).2.2 ≠ 0) : termsAt h most (l.take (j + 1)) = termsAt h most (l.take j) := by
  rw [termsAt, List.take_succ_eq_append_getElem hj, List.filterMap_append]
  simp [termsAt, e]
theorem termsAt_len (h : Hp) (most : Int) (l : List Int) : (termsAt h most l).length ≤ l.length := List.length_filterMap_le _ _

theorem nodup_len : ∀ (N : Nat) (l : List Int), l.Nodup → (∀ x ∈ l, 0 ≤ x ∧ x < (N : Int)) → l.length ≤ N
  | 0, [], _, _ => Nat.le_refl _
  | 0, x :: r, _, h => by have := h x (List.mem_cons_self ..); omega
  | N + 1, l, hn, h => by
    by_cases hm : (N : Int) ∈ l
    · have h1 := nodup_len N (l.erase (N : Int)) (hn.erase _) (fun x hx => by
        have h2 := (hn.mem_erase_iff).1 hx
        have h3 := h x h2.2
        have h4 := h2.1
        omega)
      rw [List.length_erase_of_mem hm] at h1
      omega
    · have h1 := nodup_len N l hn (fun x hx => by
        have h3 := h x hx
        have h4 : x ≠ (N : Int) := fun e => hm (e ▸ hx)
        omega)
      omega

namespace Tm
section
variable {p : Int → Prop}
def SeenP (p : Int → Prop) (st : List Int) : Prop := st.Nodup ∧ ∀ x ∈ st, p x
theorem seenF_P {st : List Int} {n : Int} (h : SeenP p st) (hn : p n) : SeenP p (seenF st n).2 := by
  by_cases hm : n ∈ st
  · simp only [seenF, hm, if_true]; exact h
  · simp only [seenF, hm, if_false]
    refine ⟨?_, fun x hx => ?_⟩
    · rw [List.nodup_append]
      refine ⟨h.1, by simp, fun a ha b hb => ?_⟩
      simp only [List.mem_singleton] at hb
      subst hb
      exact fun e => hm (e ▸ ha)
    · rcases List.mem_append.1 hx with h1 | h1
      · exact h.2 x h1
      · simp only [List.mem_singleton] at h1; subst h1; exact hn
theorem renS_P : ∀ (t : Tm) (st : List Int), t.Vars p → SeenP p st → SeenP p (renS seenF st t).2 := by
  intro t
  induction t using induct with
  | h k n s l ih =>
    intro st hv hst
    obtain ⟨_, _, _, _, hp, hl⟩ := hv
    have hL : ∀ (r : List Tm), (∀ t ∈ r, t ∈ l) → ∀ st : List Int, SeenP p st → SeenP p (renSL seenF st r).2 := by
      intro r
      induction r with
      | nil => intro _ st h; exact h
      | cons x r ihr =>
        intro hm st h
        simp only [renSL]
        exact ihr (fun t ht => hm t (List.mem_cons_of_mem _ ht)) _ (ih x (hm x (List.mem_cons_self ..)) st (hl x (hm x (List.mem_cons_self ..))) h)
    simp only [renS]
    refine hL l (fun _ h => h) _ ?_
    unfold num
    by_cases e : k = 0
    · simp only [e, if_true]; exact seenF_P hst (hp e)
    · simp only [e, if_false]; exact hst
theorem renSL_P : ∀ (l : List Tm) (st : List Int), (∀ t ∈ l, t.Vars p) → SeenP p st → SeenP p (renSL seenF st l).2
  | [], st, _, h => h
  | x :: r, st, hv, h => by
    simp only [renSL]
    exact renSL_P r _ (fun t ht => hv t (List.mem_cons_of_mem _ ht)) (renS_P x st (hv x (List.mem_cons_self ..)) h)
end
end Tm

section
variable {h : Hp} {roots : List Int}
theorem termsAt_vars (hg : h.Good) (hr : ∀ r ∈ roots, Inb h.cells r) (most : Int) : ∀ t ∈ termsAt h most roots, t.Vars (RP h roots) := by
  intro t ht
  obtain ⟨r, hm, he⟩ := List.mem_filterMap.1 ht
  obtain ⟨h1, h2, h3⟩ := gc_term hg hr most hm
  by_cases e : (termF h r most).2.2 = 0
  · rw [if_pos e] at he
    simp only [Option.some.injEq] at he
    subst he
    exact (h3 e).2
  · rw [if_neg e] at he; cases he

theorem keep_seen (hg : h.Good) (hr : ∀ r ∈ roots, Inb h.cells r) (most : Int) : (Tm.renSL seenF [] (termsAt h most roots)).2.length ≤ 65536 := by
  obtain ⟨h1, h2⟩ := Tm.renSL_P (p := RP h roots) (termsAt h most roots) [] (termsAt_vars hg hr most) ⟨List.nodup_nil, fun x hx => by cases hx⟩
  have h3 := nodup_len h.cells.length _ h1 (fun x hx => by
    obtain ⟨k, rfl, hk, -⟩ := (h2 x hx).nat hg.1
    omega)
  have := hg.2.2.1
  omega

theorem keep_tidy (hg : h.Good) (hr : ∀ r ∈ roots, Inb h.cells r) (most : Int) :
    (Tm.renSL seenF [] ((termsAt h most roots).map (Tm.ren (ahead (marks h.cells roots))))).2.length ≤ 65536 ∧
    (Tm.renSL seenF [] ((termsAt h most roots).map (Tm.ren (ahead (marks h.cells roots))))).1 = (Tm.renSL seenF [] (termsAt h most roots)).1 := by
  have h1 := renSL_map (p := RP h roots) (g := ahead (marks h.cells roots)) (fun a b ha hb e => ahead_inj hg.1 ha hb e) (termsAt h most roots) [] (termsAt_vars hg hr most) (fun x hx => by cases hx)
  rw [List.map_nil] at h1
  rw [h1]
  refine ⟨?_, rfl⟩
  rw [List.length_map]
  exact keep_seen hg hr most
end
end Go.Proofs.Ytlpmfkpefoegeab
