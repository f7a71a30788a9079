/-
  A clause's block, loaded into a valid heap: the heap is valid, the clause's terms are there.
-/
import Derived.Test.YtlpmfkpefoegeabHCode2
import Derived.Test.YtlpmfkpefoegeabPTidy
namespace Go.Proofs.Ytlpmfkpefoegeab
set_option linter.unusedVariables false
set_option linter.unusedSimpArgs false

theorem Ce.OkAt.more {N M i : Nat} {c : Ce} (h : c.OkAt N i) (hM : N ≤ M) : c.OkAt M i := by
  rcases h with ⟨h1, h2, h3, h4⟩ | h | h | ⟨h1, h2, h3, h4, h5⟩
  · exact .inl ⟨h1, h2, by omega, h4⟩
  · exact .inr (.inl h)
  · exact .inr (.inr (.inl h))
  · exact .inr (.inr (.inr ⟨h1, h2, h3, by omega, h5⟩))

theorem Ce.OkAt.moved {N i b : Nat} {c : Ce} (h : c.OkAt N i) : (shC b c).OkAt (b + N) (b + i) := by
  rcases h with ⟨h1, h2, h3, h4⟩ | ⟨h1, h2, h3⟩ | ⟨h1, h2⟩ | ⟨h1, h2, h3, h4, h5⟩
  · refine .inl ⟨by rw [shC_kind]; exact h1, ?_, ?_, ?_⟩
    · rw [shC_n _ h1]; omega
    · rw [shC_n _ h1]; omega
    · unfold shC; rw [if_pos h1]; exact h4
  · rw [shC_same _ (by rw [h1]; decide)]; exact .inr (.inl ⟨h1, h2, h3⟩)
  · rw [shC_same _ (by rw [h1]; decide)]; exact .inr (.inr (.inl ⟨h1, h2⟩))
  · rw [shC_same _ (by rw [h1]; decide)]; exact .inr (.inr (.inr ⟨h1, h2, h3, by omega, h5⟩))

theorem load_good {h : Hp} {F : List Ce} (hg : h.Good) (hF : GoodC F) (hl : h.cells.length + F.length ≤ 65536) : Hp.Good ⟨h.cells ++ F.map (shC h.cells.length), h.trail⟩ := by
  obtain ⟨g1, g2, g3, g4⟩ := hg
  refine ⟨fun i hi => ?_, fun j hj => ?_, by simpa using hl, g4⟩
  · simp only [List.length_append, List.length_map] at hi ⊢
    rw [List.getElem_append]
    split
    · rename_i hl2
      exact (g1 i hl2).more (by omega)
    · rename_i hl2
      rw [List.getElem_map]
      have := (hF (i - h.cells.length) (by omega)).moved (b := h.cells.length)
      rwa [show h.cells.length + (i - h.cells.length) = i by omega] at this
  · obtain ⟨v, e, hv, hk⟩ := g2 j hj
    refine ⟨v, e, by simp; omega, ?_⟩
    simp only
    rw [List.getElem_append_left hv]
    exact hk

theorem goalF_pos (t : Tm) (c : List Ce) : c.length < (goalF c t).length := by
  unfold goalF
  split
  · obtain ⟨k, n, s, l⟩ := t
    have h1 := (putL_len l (c ++ ⟨3, (l.length : Int), s⟩ :: List.replicate l.length ⟨0, 0, ByteArray.empty⟩) (c.length + 1)).1
    simp only [List.length_append, List.length_cons, List.length_replicate] at h1
    simp only [frameF]
    omega
  · rename_i h
    rw [put_len_flat h]
    simp

/-- what a clause's block holds -/
theorem code_block {h : Tm} {l : List Tm} {n : Nat} (hg : (⟨h, l, (n : Int)⟩ : Cl).Good) (F : List Ce) (hF : F = (goalsF (goalF (begF n) h) l).1) :
    F.length ≤ 296 ∧ GoodC F ∧ Laid F id (n : Int) h ∧ ∀ (j : Nat) (hj : j < l.length), ∃ a, (goalsF (goalF (begF n) h) l).2[j]? = some a ∧ Laid F id a l[j] := by
  obtain ⟨⟨v0, v8, l5, lg⟩, -, hft, -⟩ := hg
  simp only at v0 v8 l5 lg hft
  have hnd := nodesL_le l (fun g hg => (lg g hg).2.2)
  have h1 := goalF_len h (begF n)
  have h1p := goalF_pos h (begF n)
  have h2 := goalsF_len1 l (goalF (begF n) h)
  rw [begF_len] at h1 h1p
  have hh := hft.2
  rw [← hF] at h2
  have hlg : ∀ t ∈ l, t.Good (n : Int) := fun t ht => (lg t ht).2.1
  have hva : VarsAt F n := fun i hi => by
    rw [hF, goals_keep l _ i (by omega), goal_keep h _ i (by rw [begF_len]; exact hi)]
    exact begF_vars n i hi
  refine ⟨by omega, ?_, ?_, ?_⟩
  · have hok := goals_good (v := n) (N := F.length) (by omega) (by omega) l (goalF (begF n) h) hlg (goal_good (v := n) (by omega) h _ hft.1 (begF_ok (by omega)) (by omega) (by omega)) (by rw [← hF]; exact Nat.le_refl _)
    rw [← hF] at hok
    intro i hi
    exact hok i _ (List.getElem?_eq_getElem hi)
  · have := goal_laid n h (begF n) F hft.1 (by rw [begF_len]; exact Nat.le_refl _) hva (fun i hi hil => by rw [hF]; exact goals_keep l _ i hil)
    rw [begF_len] at this
    exact this
  · exact goals_laid n F hva l (goalF (begF n) h) hlg (by omega) (fun i hi hil => by rw [hF])

/-- wherever a clause's block is loaded, its head and its goals are the clause's -/
theorem code_terms {h : Tm} {l : List Tm} {n : Nat} (hg : (⟨h, l, (n : Int)⟩ : Cl).Good) {H : Hp} (hH : H.Good) (hl : H.cells.length ≤ 1000) :
    ∃ x : Hp, loadF H (goalsF (goalF (begF n) h) l).1 = (x, (H.cells.length : Int), 0) ∧ x.Good ∧
      ∀ (j : Nat) (hj : j < (h :: l).length), ∃ a m, ((n : Int) :: (goalsF (goalF (begF n) h) l).2)[j]? = some a ∧ I64 ((H.cells.length : Int) + a) ∧ I64 a ∧ termF x ((H.cells.length : Int) + a) 24 = ((h :: l)[j].ren (fun k => k + (H.cells.length : Int)), m, 0) := by
  obtain ⟨F, hF⟩ : ∃ F, F = (goalsF (goalF (begF n) h) l).1 := ⟨_, rfl⟩
  obtain ⟨b1, b2, b3, b4⟩ := code_block hg F hF
  rw [← hF]
  have hxg := load_good hH b2 (by omega)
  refine ⟨⟨H.cells ++ F.map (shC H.cells.length), H.trail⟩, ?_, hxg, ?_⟩
  · rw [loadF, if_neg (not_not_intro ⟨hH, b2, fun j hj => by simp at hj, by simp only; omega, by simp⟩), if_neg (by omega)]
  · have key : ∀ (a : Int) (t : Tm), Laid F id a t → t.nodes ≤ 24 → ∃ m, I64 ((H.cells.length : Int) + a) ∧ I64 a ∧ termF ⟨H.cells ++ F.map (shC H.cells.length), H.trail⟩ ((H.cells.length : Int) + a) 24 = (t.ren (fun k => k + (H.cells.length : Int)), m, 0) := by
      intro a t ha hn
      have hs := laid_shift (H := H.cells) t a ha
      have hin : Inb F a := by
        obtain ⟨k, nn, s, ll⟩ := t
        rw [Laid] at ha
        obtain ⟨x, hx, -⟩ := ha
        exact hx.start
      have hin2 := (cellAt_shift (H := H.cells) hin).2
      obtain ⟨i0, i1⟩ := hin
      rw [show a + (H.cells.length : Int) = (H.cells.length : Int) + a by omega] at hs hin2
      refine ⟨24 - ((24 - t.nodes : Nat) : Int), by unfold I64; omega, by unfold I64; omega, ?_⟩
      rw [termF, if_neg (not_not_intro hxg), if_neg (not_not_intro hin2), show (leftOf 24) = 24 by decide, show (24 : Int).toNat = 24 by decide, rd1_laid hs hn]
      rfl
    intro j hj
    obtain ⟨⟨v0, v8, l5, lg⟩, -, hft, -⟩ := hg
    cases j with
    | zero =>
      obtain ⟨m, k1, k1', k2⟩ := key n h b3 hft.2
      exact ⟨n, m, rfl, k1, k1', k2⟩
    | succ j =>
      have hj' : j < l.length := by simpa using hj
      obtain ⟨a, e, ha⟩ := b4 j hj'
      obtain ⟨m, k1, k1', k2⟩ := key a l[j] ha ((lg _ (List.getElem_mem hj')).2.2)
      exact ⟨a, m, by rw [List.getElem?_cons_succ]; exact e, k1, k1', k2⟩

theorem code_tidy {h : Tm} {l : List Tm} {n : Nat} (hg : (⟨h, l, (n : Int)⟩ : Cl).Good) (b : Nat) :
    (Tm.renSL seenF [] ((h :: l).map (Tm.ren fun k => k + (b : Int)))).1 = (Tm.renSL seenF [] (h :: l)).1 := by
  obtain ⟨⟨v0, v8, l5, lg⟩, -, hft, -⟩ := hg
  exact tidy_map (p := fun k => 0 ≤ k ∧ k < (n : Int)) (g := fun k => k + (b : Int)) (fun x y _ _ e => by have e' : x + (b : Int) = y + (b : Int) := e; omega) (h :: l) (fun t ht => by
    rcases List.mem_cons.1 ht with rfl | ht
    · exact hft.1.vars
    · exact (lg t ht).2.1.vars)
theorem ren_nodes (f : Int → Int) : ∀ t : Tm, (t.ren f).nodes = t.nodes := by
  intro t
  induction t using Tm.induct with
  | h k n s l ih =>
    have hL : ∀ (r : List Tm), (∀ t ∈ r, t ∈ l) → Tm.nodesL (Tm.renL f r) = Tm.nodesL r := by
      intro r
      induction r with
      | nil => intro _; rfl
      | cons x r ihr =>
        intro hm
        simp only [Tm.renL, Tm.nodesL, ih x (hm x (List.mem_cons_self ..)), ihr (fun t ht => hm t (List.mem_cons_of_mem _ ht))]
    simp only [Tm.ren, Tm.nodes, hL l (fun _ h => h)]
end Go.Proofs.Ytlpmfkpefoegeab
