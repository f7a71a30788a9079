/-
  The document's words are words; a new parser.
-/
import Derived.Test.YtlpmfkpefoegeacGreatDoorQPs8
import Derived.Test.YtlpmfkpefoegeacGreatDoorQPs7
import Derived.Test.YtlpmfkpefoegeacGreatDoorPRead4
import Derived.Test.YtlpmfkpefoegeacGreatDoorQRd9
namespace Go.Proofs.YtlpmfkpefoegeacGreatDoor
set_option linter.unusedVariables false
set_option linter.unusedSimpArgs false
open Go.RowKit
theorem wordsN_tok : ∀ (n : Nat) (s : Str), s.length ≤ 2000 → ∀ t ∈ wordsN n s, TokOk t
  | 0, s, _, t, ht => by simp [wordsN] at ht
  | n + 1, [], _, t, ht => by simp [wordsN] at ht
  | n + 1, c :: r, hl, t, ht => by
    simp only [wordsN] at ht
    simp only [List.length_cons] at hl
    split at ht
    · exact wordsN_tok n r (by omega) t ht
    · rename_i hsp
      split at ht
      · simp only [List.mem_singleton] at ht
        subst ht
        exact ⟨by simp, fun c r e => by cases e⟩
      · rcases List.mem_cons.1 ht with rfl | ht
        · refine ⟨by rw [List.length_take, List.length_cons]; omega, fun c' r' e hn => ?_⟩
          rename_i h0
          obtain ⟨m, hm⟩ : ∃ m, tokLen (c :: r) = m + 1 := ⟨tokLen (c :: r) - 1, by omega⟩
          rw [hm, List.take_succ_cons] at e ⊢
          simp only [List.cons.injEq] at e
          obtain ⟨rfl, rfl⟩ := e
          have hl2 := (low_num c).2.1 hn
          have htl : tokLen (c :: r) = 1 + digs r := by
            rw [tokLen_def, if_neg (by rw [hl2.2.1, hl2.2.2.1]; simp), if_pos (by rcases hn with e | e <;> simp [e])]
          have hmd : m = digs r := by omega
          intro x hx
          unfold digitsOf at hx
          split at hx
          · rw [List.tail_cons, hmd] at hx
            exact mem_digs hx
          · rename_i h45
            rcases List.mem_cons.1 hx with rfl | hx
            · rcases hn with e | e
              · exact absurd (by rw [e]; rfl) h45
              · exact e
            · rw [hmd] at hx
              exact mem_digs hx
        · exact wordsN_tok n _ (by rw [List.length_drop, List.length_cons]; omega) t ht
theorem words_tokOk (s : Str) (hs : s.length ≤ 2000) : ∀ t ∈ words s, TokOk t := wordsN_tok s.length s hs
section
variable {base g : Nat} {lv v1 : Value} {p : Ps} {w w0 w1 w2 : World}
theorem ps_new {s : Str} (hs : s.length ≤ 2000) (hb : w.heap.size ≤ w1.heap.size) (hl : SlR 1 (flatR strV strOk) (fun b => w.heap.size ≤ b) w1 (words s) lv) :
    PsI (w1.heap.size + 1) w1.heap.size lv (.slice none 0 0) ⟨words s, [], false⟩ (w1.alloc (.cells #[lv, .slice none 0 0, .bool false] 84)) :=
  ⟨blk_new _ _, (SlR.mono strR_lasts (by omega) hl fun b h _ => h).keeps strR_lasts (Keeps.alloc _ _ _), OwnF.nil, ⟨by omega, by simp⟩, by have := words_len s; simp only [List.length_nil]; omega, words_tokOk s hs⟩
theorem PsI.below_of (h : PsI base g lv v1 p w1) (hg : w0.heap.size ≤ g) (hb : Below w0.heap.size w0 w1) (hc : Ch (RdM g v1) w1 w2) : Below w0.heap.size w0 w2 :=
  ((Ch.of_below (M := fun b => w0.heap.size ≤ b) hb).trans hc fun b e => by
    rcases e with e | e
    · exact .inl (by omega)
    · exact .inl (by have := (h.vars.lt b e).1; have := h.bg; omega)).below fun k hk => by omega
end
end Go.Proofs.YtlpmfkpefoegeacGreatDoor
