/-
  heap.Load.
-/
import Derived.Test.YtlpmfkpefoegeacGreatDoorQOwn
import Derived.Test.YtlpmfkpefoegeacGreatDoorQIsHeap
namespace Go.Proofs.YtlpmfkpefoegeacGreatDoor
set_option linter.unusedVariables false
set_option linter.unusedSimpArgs false
open Go.RowKit
def HpOwn (w : World) (base : Nat) (h : Hp) (vs : List Value) : Prop := ∃ c t, vs = [c, t] ∧ OwnC w base h.cells c ∧ OwnN w base h.trail t
theorem HpOwn.rep {w : World} {base : Nat} {h : Hp} {vs : List Value} (hh : HpOwn w base h vs) (h1 : h.cells.length ≤ 1048576) (h2 : h.trail.length ≤ 1048576) {A : Nat → Prop} (hA : ∀ b, base ≤ b → A b) : Hp.rep A w h vs := by
  obtain ⟨c, t, rfl, hc, ht⟩ := hh
  exact ⟨c, t, rfl, hc.sl h1 (fun b hb => hA b (hc.lt b hb).1), ht.sl h2 (fun b hb => hA b (ht.lt b hb).1)⟩
def Out (B : Nat) (av bv : Value) (b : Nat) : Prop := B ≤ b ∧ ownB av ≠ some b ∧ ownB bv ≠ some b
structure Two (B : Nat) (w : World) (la lb : List Tm) (av bv : Value) : Prop where
  a : OwnR w B 34 4 Tm.rep (fun b => B ≤ b ∧ ownB bv ≠ some b) la av
  b : OwnR w B 34 4 Tm.rep (fun b => B ≤ b ∧ ownB av ≠ some b) lb bv
  sep : ∀ k, ownB av = some k → ownB bv ≠ some k
theorem Two.nil (B : Nat) (w : World) : Two B w [] [] (.slice none 0 0) (.slice none 0 0) := ⟨OwnR.nil .., OwnR.nil .., fun k h => by simp [ownB] at h⟩
theorem Two.keeps {B : Nat} {w w' : World} {la lb : List Tm} {av bv : Value} (h : Two B w la lb av bv) (hk : Keeps (fun b => B ≤ b) w w') : Two B w' la lb av bv :=
  ⟨h.a.keeps Tm.rep_lasts hk (fun _ h => h.1) (fun k e => (h.a.lt k e).1), h.b.keeps Tm.rep_lasts hk (fun _ h => h.1) (fun k e => (h.b.lt k e).1), h.sep⟩
theorem Two.below {B : Nat} {w w' : World} {la lb : List Tm} {av bv : Value} (h : Two B w la lb av bv) (hb : Below w.heap.size w w') : Two B w' la lb av bv := h.keeps (Keeps.of_below hb)
theorem Grew.new {w w' : World} {v v' : Value} (h : Grew w w' v v') {b : Nat} (hb : b < w.heap.size) (hn : ownB v ≠ some b) : ownB v' ≠ some b := fun e => by
  rcases h.block with h1 | h1
  · exact hn (h1 ▸ e)
  · have := h1 b e; omega
theorem Two.app {B : Nat} {w w' : World} {la lb ys : List Tm} {av bv v' : Value} (h : Two B w la lb av bv) (h1 : OwnR w' B 34 4 Tm.rep (fun b => B ≤ b ∧ ownB bv ≠ some b) (la ++ ys) v') (hg : Grew w w' av v') :
    Two B w' (la ++ ys) lb v' bv := by
  refine ⟨h1, ?_, fun k e e2 => ?_⟩
  · have h2 := h.b.mono (A' := fun b => (B ≤ b ∧ ownB av ≠ some b) ∧ ownB v' ≠ some b) Tm.rep_lasts (fun b hb hb' => ⟨hb', hg.new hb hb'.2⟩)
    have h3 := h2.keeps (B := fun b => ownB av ≠ some b) Tm.rep_lasts (hg.keeps (fun _ h => h)) (fun b hb => hb.1.2) (fun k e e2 => h.sep k e2 e)
    exact h3.mono Tm.rep_lasts (fun b _ hb => ⟨hb.1.1, hb.2⟩)
  · exact hg.new (h.b.lt k e2).2 (fun e3 => h.sep k e3 e2) e
theorem Out.app {B : Nat} {w w' : World} {av bv v' z : Value} {zs : List Tm} (hg : Grew w w' av v') (hz : TmsR (Out B av bv) w zs z) : TmsR (Out B v' bv) w' zs z := by
  have h2 := SlR.mono (A' := fun b => Out B av bv b ∧ ownB v' ≠ some b) Tm.rep_lasts (by omega) hz (fun b hb hb' => ⟨hb', hg.new hb hb'.2.1⟩)
  have h3 := SlR.keeps Tm.rep_lasts h2 (hg.keeps (A := fun b => Out B av bv b ∧ ownB v' ≠ some b) (fun b hb => hb.1.2.1))
  exact SlR.mono Tm.rep_lasts (by omega) h3 (fun b _ hb => ⟨hb.1.1, hb.2, hb.1.2.2⟩)
section
variable {P : Program} {ops : Array Oper} {Q : Exit → Act → World → Prop}
end
theorem SlR.vals {α : Type} {size : Nat} {f : α → List Value} {ok : α → Prop} {A : Nat → Prop} {w : World} {l : List α} {v : Value} (h : SlR size (flatR f ok) A w l v) : ∀ x ∈ l, ok x := by
  obtain ⟨a, cap, b, off, rfl, h1, h2, h3, ha, he⟩ := h.at
  intro x hx
  obtain ⟨i, hi, rfl⟩ := List.mem_iff_getElem.1 hx
  obtain ⟨vs, _, h4, _⟩ := he i _ (List.getElem?_eq_getElem hi)
  exact h4.1
def HpNE (A : Nat → Prop) (x : Hp × Int × Int) (r : Value) (w' : World) : Prop := ∃ us, r = .tuple #[.agg us.toArray, .int .i64 x.2.1, .int .i64 x.2.2] ∧ Hp.rep A w' x.1 us
theorem Pure.mk {w w' : World} {R : Value → World → Prop} {v : Value} (hb : Below w.heap.size w w') (hr : R v w') : Pure w R (.returned v) w' := ⟨v, rfl, hb, hr⟩
theorem HpNE.old {A : Nat → Prop} {w w' : World} {h : Hp} {vs : List Value} {n e : Int} (hh : Hp.rep A w h vs) (hb : Below w.heap.size w w') : HpNE (fun b => A b ∨ New w b) (h, n, e) (.tuple #[.agg vs.toArray, .int .i64 n, .int .i64 e]) w' :=
  ⟨vs, rfl, Hp.rep.mono (Hp.rep.keeps hh (Keeps.of_below hb)) (fun _ _ h => .inl h)⟩
theorem OwnR.val' {α : Type} {w : World} {base : Nat} {E : TypeId} {size : Nat} {R : (Nat → Prop) → World → α → List Value → Prop} {A : Nat → Prop} {xs : List α} {v : Value}
    (h : OwnR w base E size R A xs v) : ∃ a cap, v = .slice a xs.length cap ∧ xs.length ≤ cap ∧ cap ≤ maxLen := by
  obtain ⟨vals, hl, ho, he⟩ := h
  rcases ho.2 with ⟨h0, a, rfl⟩ | ⟨g, cap, cur, rfl, hc, hb, hg, hnc, hcm, _⟩
  · exact ⟨a, 0, by rw [h0], by omega, by simp [maxLen]⟩
  · exact ⟨_, cap, rfl, hnc, hcm⟩
theorem OwnC.val' {w : World} {base : Nat} {l : List Ce} {v : Value} (h : OwnC w base l v) : ∃ a cap, v = .slice a l.length cap ∧ l.length ≤ cap ∧ cap ≤ maxLen := OwnF.val h
end Go.Proofs.YtlpmfkpefoegeacGreatDoor
