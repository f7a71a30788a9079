/-
  Slices of one's own: what is appended to them, stored into them, cut off them.
-/
import Derived.Test.YtlpmfkpefoegeacDoorQFront
import Derived.Test.YtlpmfkpefoegeacDoorQCopy
import Derived.Test.YtlpmfkpefoegeacDoorQIsHeap
namespace Go.Proofs.YtlpmfkpefoegeacDoor
set_option linter.unusedVariables false
set_option linter.unusedSimpArgs false
open Go.RowKit
section
variable {α : Type}
end
/-! ### slices of one's own, of elements that lead nowhere -/
section
variable {α : Type}
theorem flatMap_get {f : α → List Value} {size : Nat} (hf : ∀ x, (f x).length = size) : ∀ (l : List α) (i j : Nat) (hi : i < l.length), j < size → (l.flatMap f)[i * size + j]? = (f l[i])[j]?
  | x :: l, 0, j, hi, hj => by rw [List.flatMap_cons, Nat.zero_mul, Nat.zero_add, List.getElem?_append_left (by rw [hf]; exact hj)]; rfl
  | x :: l, i + 1, j, hi, hj => by
    rw [List.flatMap_cons, List.getElem?_append_right (by rw [hf, Nat.add_mul]; omega), hf, show (i + 1) * size + j - size = i * size + j by rw [Nat.add_mul]; omega]
    exact flatMap_get hf l i j (by simpa using hi) hj
def OwnF (f : α → List Value) (ok : α → Prop) (E : TypeId) (size : Nat) (w : World) (base : Nat) (l : List α) (v : Value) : Prop :=
  Own w base E size v l.length (l.flatMap f) ∧ ∀ x ∈ l, ok x
variable {f : α → List Value} {ok : α → Prop} {E : TypeId} {size : Nat} {w : World} {base : Nat} {l : List α} {v : Value}
theorem OwnF.nil : OwnF f ok E size w base [] (.slice none 0 0) := ⟨Own.nil w base E size, fun x h => by simp at h⟩
theorem OwnF.lt (h : OwnF f ok E size w base l v) : ∀ k, ownB v = some k → base ≤ k ∧ k < w.heap.size := h.1.lt
theorem OwnF.kept (h : OwnF f ok E size w base l v) {w' : World} (hk : ∀ k, ownB v = some k → w'.heap[k]? = w.heap[k]?) : OwnF f ok E size w' base l v := ⟨h.1.kept hk, h.2⟩
theorem OwnF.below (h : OwnF f ok E size w base l v) {w' : World} (hk : Below w.heap.size w w') : OwnF f ok E size w' base l v := ⟨h.1.below hk, h.2⟩
theorem OwnF.ownR (hf : ∀ x, (f x).length = size) (h : OwnF f ok E size w base l v) (A : Nat → Prop) : OwnR w base E size (flatR f ok) A l v := by
  refine ⟨l.map f, by simp, by rw [← List.flatMap_def]; exact h.1, fun i x vs hx hv => ?_⟩
  rw [List.getElem?_map, hx] at hv
  simp only [Option.map_some, Option.some.injEq] at hv
  subst hv
  exact ⟨hf x, h.2 x (List.mem_of_getElem? hx), rfl⟩
theorem OwnF.of_ownR {A : Nat → Prop} (h : OwnR w base E size (flatR f ok) A l v) : OwnF f ok E size w base l v := by
  obtain ⟨vals, hl, ho, he⟩ := h
  have e : vals = l.map f := by
    apply List.ext_getElem (by simp [hl])
    intro i h1 h2
    obtain ⟨_, _, h3⟩ := he i _ _ (List.getElem?_eq_getElem (by omega)) (List.getElem?_eq_getElem h1)
    rw [h3, List.getElem_map]
  subst e
  refine ⟨by rw [List.flatMap_def]; exact ho, fun x hx => ?_⟩
  obtain ⟨i, hi, rfl⟩ := List.mem_iff_getElem.1 hx
  exact (he i _ _ (List.getElem?_eq_getElem hi) (List.getElem?_eq_getElem (by simpa using hi))).2.1
theorem OwnF.val (h : OwnF f ok E size w base l v) : ∃ a cap, v = .slice a l.length cap ∧ l.length ≤ cap ∧ cap ≤ maxLen := by
  rcases h.1.2 with ⟨h0, a, rfl⟩ | ⟨g, cap, cur, rfl, hc, hb, hg, hnc, hcm, _⟩
  · exact ⟨a, 0, by rw [h0], by omega, by simp [maxLen]⟩
  · exact ⟨_, cap, rfl, hnc, hcm⟩
theorem OwnF.at (hf : ∀ x, (f x).length = size) (h : OwnF f ok E size w base l v) (h0 : 0 < l.length) :
    ∃ g cap, v = .slice (some ⟨g, 0, none⟩) l.length cap ∧ 0 < cap ∧ l.length ≤ cap ∧ cap ≤ maxLen ∧ ownB v = some g ∧ (∀ o, w.frozen? ⟨g, o, none⟩ = false) ∧ g < w.heap.size ∧ base ≤ g ∧
      ∀ i (hi : i < l.length) j u, (f l[i])[j]? = some u → w.cell? ⟨g, i * size + j, none⟩ = some u := by
  have hcl := @Own.cells w base E size v l.length (l.flatMap f) h.1
  rcases h.1.2 with ⟨h1, a, rfl⟩ | ⟨g, cap, cur, rfl, hc, hb, hg, hnc, hcm, hcs, htake⟩
  · omega
  · refine ⟨g, cap, rfl, hc, hnc, hcm, by simp [ownB, Nat.pos_iff_ne_zero.1 hc], fun o => by simp [World.frozen?, hg], blk_lt hg, hb, fun i hi j u hu => ?_⟩
    have hj : j < size := by have := (List.getElem?_eq_some_iff.1 hu).1; rw [hf] at this; exact this
    exact hcl rfl hc _ u (by rw [flatMap_get hf l i j hi hj]; exact hu)
end
end Go.Proofs.YtlpmfkpefoegeacDoor
