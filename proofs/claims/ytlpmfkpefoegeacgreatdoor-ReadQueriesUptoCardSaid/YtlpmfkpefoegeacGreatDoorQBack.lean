/-
  Undo, UndoTo, Cut, CutAt.
-/
import Derived.Test.YtlpmfkpefoegeacGreatDoorQLoad
import Derived.Test.YtlpmfkpefoegeacGreatDoorQIsHeap
import Derived.Test.YtlpmfkpefoegeacGreatDoorQOwn
namespace Go.Proofs.YtlpmfkpefoegeacGreatDoor
set_option linter.unusedVariables false
set_option linter.unusedSimpArgs false
open Go.RowKit
theorem OwnF.ne_box {α : Type} {f : α → List Value} {ok : α → Prop} {E E' : TypeId} {size base : Nat} {w : World} {l : List α} {v : Value} {g : Nat} {c : Array Value} {fr : Nat × Nat}
    (h : OwnF f ok E size w base l v) (hb : w.heap[g]? = some (.cells c E' fr)) (hE : E ≠ E') : ownB v ≠ some g := by
  intro hk
  rcases h.1.2 with ⟨_, a, rfl⟩ | ⟨g', cap, cur, rfl, hc, hb', hg, _⟩
  · cases a <;> simp [ownB] at hk
  · simp only [ownB, Nat.pos_iff_ne_zero.1 hc, if_false, Option.some.injEq] at hk
    subst hk
    rw [hg] at hb
    simp only [Option.some.injEq, Obj.cells.injEq] at hb
    exact hE hb.2.1
def UInv (g base : Nat) (cv tv : Value) (l : List Ce) (t : List Int) (k : Int) (w : World) : Prop :=
  w.heap[g]? = some (.cells #[cv, tv, .int .i64 k] 191 (0, 0)) ∧ OwnC w base l cv ∧ OwnN w base t tv ∧ base ≤ g ∧ l.length ≤ 65536 ∧ (t.length : Int) + k ≤ 70000 ∧ -1 ≤ k ∧ k ≤ 400
section
variable {g base : Nat} {cv tv : Value} {l : List Ce} {t : List Int} {k : Int} {w : World}
theorem UInv.lt (h : UInv g base cv tv l t k w) : g < w.heap.size ∧ base ≤ g ∧ base ≤ w.heap.size := by
  obtain ⟨h1, _, _, h2, _⟩ := h
  have := blk_lt h1
  omega
theorem UInv.keeps {w' : World} (h : UInv g base cv tv l t k w) (hg : w'.heap[g]? = w.heap[g]?) (hc : ∀ b, ownB cv = some b → w'.heap[b]? = w.heap[b]?) (ht : ∀ b, ownB tv = some b → w'.heap[b]? = w.heap[b]?) : UInv g base cv tv l t k w' := by
  obtain ⟨h1, h2, h3, h4⟩ := h
  exact ⟨hg.trans h1, h2.kept hc, h3.kept ht, h4⟩
theorem UInv.below {w' : World} (h : UInv g base cv tv l t k w) (hb : Below w.heap.size w w') : UInv g base cv tv l t k w' :=
  h.keeps (hb.block _ h.lt.1) (fun b e => hb.block _ (h.2.1.lt b e).2) (fun b e => hb.block _ (h.2.2.1.lt b e).2)
theorem UInv.vals (h : UInv g base cv tv l t k w) : ∃ ca cc ta tc, cv = .slice ca l.length cc ∧ tv = .slice ta t.length tc ∧ l.length ≤ cc ∧ cc ≤ maxLen ∧ t.length ≤ tc ∧ tc ≤ maxLen := by
  obtain ⟨h1, h2, h3, h4⟩ := h
  obtain ⟨ca, cc, rfl, e1, e2⟩ := OwnF.val h2
  obtain ⟨ta, tc, rfl, e3, e4⟩ := OwnF.val h3
  exact ⟨ca, cc, ta, tc, rfl, rfl, e1, e2, e3, e4⟩
theorem UInv.rep (h : UInv g base cv tv l t k w) : Hp.rep (fun _ => True) w ⟨l, t⟩ [cv, tv] := by
  obtain ⟨h1, h2, h3, h4, h5, h6, h7, h8⟩ := h
  exact ⟨cv, tv, rfl, OwnF.sl Ce.vals_len Ce.vals_one h2 (by omega) (fun _ _ => trivial), OwnF.sl numV_len numV_one h3 (by omega) (fun _ _ => trivial)⟩
theorem UInv.box {w' : World} (h : UInv g base cv tv l t k w) (h' : Ch (fun b => b = g) w w') : ∀ b, ownB cv = some b ∨ ownB tv = some b → w'.heap[b]? = w.heap[b]? := by
  intro b hb
  obtain ⟨e1, e2, e3, -⟩ := h
  rcases hb with hb | hb
  · exact h'.block b (e2.lt b hb).2 (fun e => OwnF.ne_box e2 e1 (by decide) (hb.trans (congrArg some e)))
  · exact h'.block b (e3.lt b hb).2 (fun e => OwnF.ne_box e3 e1 (by decide) (hb.trans (congrArg some e)))
end
theorem OwnC.cell {w : World} {base : Nat} {l : List Ce} {ca : Option Addr} {cc : Nat} (h : OwnC w base l (.slice ca l.length cc)) {i : Nat} (hi : i < l.length) :
    ∃ b, ca = some ⟨b, 0, none⟩ ∧ ownB (.slice ca l.length cc) = some b ∧ w.cell? ⟨b, i * 3, none⟩ = some (.int .i64 l[i].kind) ∧ w.cell? ⟨b, i * 3 + 1, none⟩ = some (.int .i64 l[i].n) ∧ w.cell? ⟨b, i * 3 + 2, none⟩ = some (.string l[i].s) ∧
      l[i].Ok ∧ (∀ o, w.frozen? ⟨b, o, none⟩ = false) ∧ b < w.heap.size ∧ base ≤ b := by
  obtain ⟨b, cap, e, h0, h1, h2, h3, h4, h5, h6, h7⟩ := OwnF.at Ce.vals_len h (by omega)
  simp only [Value.slice.injEq, true_and] at e
  obtain ⟨rfl, rfl⟩ := e
  exact ⟨b, rfl, h3, h7 i hi 0 _ rfl, h7 i hi 1 _ rfl, h7 i hi 2 _ rfl, h.2 _ (List.getElem_mem hi), h4, h5, h6⟩
end Go.Proofs.YtlpmfkpefoegeacGreatDoor
namespace Go.Proofs.YtlpmfkpefoegeacGreatDoor
set_option linter.unusedVariables false
set_option linter.unusedSimpArgs false
set_option maxRecDepth 100000
open Go.RowKit
theorem SlR.drop {α : Type} {size : Nat} {R : (Nat → Prop) → World → α → List Value → Prop} {A : Nat → Prop} {w : World} {l : List α} {a : Option Addr} {len cap : Nat} (h : SlR size R A w l (.slice a len cap)) {k : Nat} (hk : k ≤ l.length) :
    SlR size R A w (l.drop k) (.slice (if cap = k then a else a.map fun x => x.add (k * size)) (len - k) (cap - k)) := by
  obtain ⟨b, off, hs, he⟩ := h
  refine ⟨b, off + k * size, ?_, fun i x hx => ?_⟩
  · obtain ⟨h1, ⟨h0, a', c', e, hc⟩ | ⟨h0, hA, c', e, hc, hm⟩⟩ := hs
    · simp only [Value.slice.injEq] at e
      obtain ⟨rfl, rfl, rfl⟩ := e
      exact ⟨by simp; omega, .inl ⟨by simp; omega, _, _, by rw [Nat.zero_sub], by omega⟩⟩
    · simp only [Value.slice.injEq] at e
      obtain ⟨rfl, rfl, rfl⟩ := e
      by_cases hkl : k = l.length
      · exact ⟨by simp; omega, .inl ⟨by simp; omega, _, _, by rw [hkl, Nat.sub_self], by omega⟩⟩
      · refine ⟨by simp; omega, .inr ⟨by simp; omega, hA, cap - k, ?_, by simp; omega, by omega⟩⟩
        rw [if_neg (by omega), List.length_drop]
        simp [Addr.add]
  · rw [List.getElem?_drop] at hx
    obtain ⟨vs, h1, h2, h3⟩ := he _ _ hx
    exact ⟨vs, h1, h2, by rw [show off + k * size + i * size = off + (k + i) * size by rw [Nat.add_mul]; omega]; exact h3⟩
theorem SlR.take {α : Type} {size : Nat} {R : (Nat → Prop) → World → α → List Value → Prop} {A : Nat → Prop} {w : World} {l : List α} {a : Option Addr} {len cap : Nat} (h : SlR size R A w l (.slice a len cap)) {k : Nat} (hk : k ≤ l.length) :
    SlR size R A w (l.take k) (.slice a k cap) := by
  obtain ⟨b, off, hs, he⟩ := h
  have hl : (l.take k).length = k := by rw [List.length_take]; omega
  refine ⟨b, off, ?_, fun i x hx => ?_⟩
  · rw [hl]
    obtain ⟨h1, ⟨h0, a', c', e, hc⟩ | ⟨h0, hA, c', e, hc, hm⟩⟩ := hs
    · simp only [Value.slice.injEq] at e
      obtain ⟨rfl, rfl, rfl⟩ := e
      exact ⟨by omega, .inl ⟨by omega, _, _, by rw [show k = 0 by omega], by omega⟩⟩
    · simp only [Value.slice.injEq] at e
      obtain ⟨rfl, rfl, rfl⟩ := e
      by_cases hk0 : k = 0
      · exact ⟨by omega, .inl ⟨hk0, _, _, by rw [hk0], by omega⟩⟩
      · exact ⟨by omega, .inr ⟨by omega, hA, cap, rfl, by omega, by omega⟩⟩
  · have h0 : i < k := by have := (List.getElem?_eq_some_iff.1 hx).1; omega
    rw [List.getElem?_take_of_lt h0] at hx
    exact he _ _ hx
end Go.Proofs.YtlpmfkpefoegeacGreatDoor
