/-
  Copies of slices and of heaps.
-/
import Derived.Test.YtlpmfkpefoegeabDoorQOwn
namespace Go.Proofs.YtlpmfkpefoegeabDoor
set_option linter.unusedVariables false
set_option linter.unusedSimpArgs false
open Go.RowKit

/-- an answer of one's own -/
def OwnP {α : Type} (f : α → List Value) (ok : α → Prop) (E : TypeId) (size : Nat) (base : Nat) (l : List α) (r : Value) (w' : World) : Prop := OwnF f ok E size w' base l r

theorem SlR.vals {α : Type} {size : Nat} {f : α → List Value} {ok : α → Prop} {A : Nat → Prop} {w : World} {l : List α} {v : Value} (h : SlR size (flatR f ok) A w l v) : ∀ x ∈ l, ok x := by
  obtain ⟨a, cap, b, off, rfl, h1, h2, h3, ha, he⟩ := h.at
  intro x hx
  obtain ⟨i, hi, rfl⟩ := List.mem_iff_getElem.1 hx
  obtain ⟨vs, _, h4, _⟩ := he i _ (List.getElem?_eq_getElem hi)
  exact h4.1

set_option maxHeartbeats 1000000 in
theorem cloneC_ok (l : List Ce) (A : Nat → Prop) (w : World) (v : Value) (hv : SlR 3 Ce.rep A w l v) :
    Calls Tryd.prog 103 #[v] w (Pure w (OwnP Ce.vals Ce.Ok 80 3 w.heap.size l)) := by
  obtain ⟨a, cap, b, off, rfl, hlc, hcm, hlb, ha, he⟩ := hv.at
  have HV := hid hv
  clear hv he
  have qT : ∀ (w : World) (a : Option Addr) (n c : Nat), (binOp .eql 47 (.slice a n c) (.slice none 0 0)).run Tryd.prog w = .ok (.bool a.isNone) w := fun w a n c => Lib.run_eql_slice_nil w _ _ a n c _ _ Tryd.underlying47
  cases a with
  | none =>
    have h0 : l = [] := by
      cases l with
      | nil => rfl
      | cons x r => have := (ha (by simp)).1; cases this
    subst h0
    go_enter Tryd.func103, Tryd.ntmps103
    go_wp2_with fail
    go_ret
    exact ⟨_, rfl, Below.refl _ _, OwnF.nil⟩
  | some p =>
    have HA := hid ha
    clear ha
    have HSL : Hid (∀ w', Below w.heap.size w w' → ∀ g, w.heap.size ≤ g → SlR 3 Ce.rep (fun b => True ∧ ownB (.slice (some ⟨g, 0, none⟩) 0 0) ≠ some b) w' l (.slice (some p) l.length cap)) := fun w' hb g hg =>
      SlR.mono Ce.rep_lasts (by omega) (SlR.keeps Ce.rep_lasts HV.out (Keeps.of_below hb)) (fun b _ _ => ⟨trivial, by simp [ownB]⟩)
    go_enter Tryd.func103, Tryd.ntmps103
    go_wp2_with (at_builtin; refine wpList_appS rfl (.tmp 5) (.tmp 6) 47 rfl w.heap.size 80 3 32 tyCells Ce.rep_lasts (A := fun _ => True) (.slice (some ⟨w.heap.size, 0, none⟩) 0 0) [] rfl ((OwnF.ownR Ce.vals_len (ok := Ce.Ok) (l := []) ⟨⟨by simp, .inl ⟨rfl, _, rfl⟩⟩, fun x h => by simp at h⟩ _)) _ rfl l (HSL.out _ ((Below.refl _ _).alloc (Nat.le_refl _) _) _ (Nat.le_refl _)) (by simp; omega) (by simp) ?_; intro v2 w2 hown hgrew)
    go_ret
    exact ⟨_, rfl, hgrew.below ((Below.refl _ _).alloc (Nat.le_refl _) _) (by simp) (fun k h => by simp [ownB] at h), OwnF.of_ownR hown⟩

set_option maxHeartbeats 1000000 in
theorem cloneN_ok (l : List Int) (A : Nat → Prop) (w : World) (v : Value) (hv : SlR 1 numR A w l v) :
    Calls Tryd.prog 149 #[v] w (Pure w (OwnP numV I64 3 1 w.heap.size l)) := by
  obtain ⟨a, cap, b, off, rfl, hlc, hcm, hlb, ha, he⟩ := hv.at
  have HV := hid hv
  clear hv he
  have qT : ∀ (w : World) (a : Option Addr) (n c : Nat), (binOp .eql 48 (.slice a n c) (.slice none 0 0)).run Tryd.prog w = .ok (.bool a.isNone) w := fun w a n c => Lib.run_eql_slice_nil w _ _ a n c _ _ Tryd.underlying48
  cases a with
  | none =>
    have h0 : l = [] := by
      cases l with
      | nil => rfl
      | cons x r => have := (ha (by simp)).1; cases this
    subst h0
    go_enter Tryd.func149, Tryd.ntmps149
    go_wp2_with fail
    go_ret
    exact ⟨_, rfl, Below.refl _ _, OwnF.nil⟩
  | some p =>
    have HA := hid ha
    clear ha
    have HSL : Hid (∀ w', Below w.heap.size w w' → ∀ g, w.heap.size ≤ g → SlR 1 numR (fun b => True ∧ ownB (.slice (some ⟨g, 0, none⟩) 0 0) ≠ some b) w' l (.slice (some p) l.length cap)) := fun w' hb g hg =>
      SlR.mono numR_lasts (by omega) (SlR.keeps numR_lasts HV.out (Keeps.of_below hb)) (fun b _ _ => ⟨trivial, by simp [ownB]⟩)
    go_enter Tryd.func149, Tryd.ntmps149
    go_wp2_with (at_builtin; refine wpList_appS rfl (.tmp 5) (.tmp 6) 48 rfl w.heap.size 3 1 8 tyNums numR_lasts (A := fun _ => True) (.slice (some ⟨w.heap.size, 0, none⟩) 0 0) [] rfl ((OwnF.ownR numV_len (ok := I64) (l := []) ⟨⟨by simp, .inl ⟨rfl, _, rfl⟩⟩, fun x h => by simp at h⟩ _)) _ rfl l (HSL.out _ ((Below.refl _ _).alloc (Nat.le_refl _) _) _ (Nat.le_refl _)) (by simp; omega) (by simp) ?_; intro v2 w2 hown hgrew)
    go_ret
    exact ⟨_, rfl, hgrew.below ((Below.refl _ _).alloc (Nat.le_refl _) _) (by simp) (fun k h => by simp [ownB] at h), OwnF.of_ownR hown⟩

end Go.Proofs.YtlpmfkpefoegeabDoor
