/-
  Cells and heaps: how they lie in memory.
-/
import Derived.Test.YtlpmfkpefoegeabDoorQLib
namespace Go.Proofs.YtlpmfkpefoegeabDoor
set_option linter.unusedVariables false
set_option linter.unusedSimpArgs false
open Go.RowKit

/-- a cell -/
structure Ce where
  kind : Int
  n : Int
  s : ByteArray
  deriving DecidableEq, Inhabited

/-- how an element reads that leads nowhere: its cells are f's -/
def flatR {α : Type} (f : α → List Value) (ok : α → Prop) (_ : Nat → Prop) (_ : World) (x : α) (vs : List Value) : Prop := ok x ∧ vs = f x
theorem flatR_lasts {α : Type} {f : α → List Value} {ok : α → Prop} (h1 : ∀ x, ∀ u ∈ f x, u.oneCell' = true) : Lasts (flatR f ok) :=
  ⟨fun A w w' x vs h _ => h, fun A A' w x vs h _ => h, fun A w x vs h => by obtain ⟨_, rfl⟩ := h; exact h1 x⟩

/-- a cell's three cells -/
def Ce.vals (c : Ce) : List Value := [.int .i64 c.kind, .int .i64 c.n, .string c.s]
def Ce.Ok (c : Ce) : Prop := I64 c.kind ∧ I64 c.n ∧ c.s.size ≤ 1048576
/-- how a cell's three cells read -/
def Ce.rep : (Nat → Prop) → World → Ce → List Value → Prop := flatR Ce.vals Ce.Ok
theorem Ce.rep_lasts : Lasts Ce.rep := flatR_lasts fun x => by simp [Ce.vals, Value.oneCell']

/-- a number's cell -/
def numV (n : Int) : List Value := [.int .i64 n]
/-- how a number's cell reads -/
def numR : (Nat → Prop) → World → Int → List Value → Prop := flatR numV I64
theorem numR_lasts : Lasts numR := flatR_lasts fun x => by simp [numV, Value.oneCell']

/-- a truth value's cell -/
def boolV (b : Bool) : List Value := [.bool b]
/-- how a truth value's cell reads -/
def boolR : (Nat → Prop) → World → Bool → List Value → Prop := flatR boolV fun _ => True
theorem boolR_lasts : Lasts boolR := flatR_lasts fun x => by simp [boolV, Value.oneCell']

abbrev CesR := SlR 3 Ce.rep
abbrev NumsR := SlR 1 numR
abbrev BoolsR := SlR 1 boolR

/-- a heap -/
structure Hp where
  cells : List Ce
  trail : List Int
  deriving DecidableEq, Inhabited

/-- how a heap's two cells read -/
def Hp.rep (A : Nat → Prop) (w : World) (h : Hp) (vs : List Value) : Prop := ∃ c t, vs = [c, t] ∧ CesR A w h.cells c ∧ NumsR A w h.trail t

theorem Hp.rep_lasts : Lasts Hp.rep := by
  refine ⟨fun A w w' x vs h hk => ?_, fun A A' w x vs h hA => ?_, fun A w x vs h => ?_⟩
  · obtain ⟨c, t, rfl, hc, ht⟩ := h
    exact ⟨c, t, rfl, hc.keeps Ce.rep_lasts hk, ht.keeps numR_lasts hk⟩
  · obtain ⟨c, t, rfl, hc, ht⟩ := h
    exact ⟨c, t, rfl, hc.mono Ce.rep_lasts (by omega) hA, ht.mono numR_lasts (by omega) hA⟩
  · obtain ⟨c, t, rfl, hc, ht⟩ := h
    obtain ⟨_, _, _, _, rfl, _⟩ := hc.at
    obtain ⟨_, _, _, _, rfl, _⟩ := ht.at
    simp [Value.oneCell']

theorem Hp.rep.keeps {A : Nat → Prop} {w w' : World} {h : Hp} {vs : List Value} (hh : Hp.rep A w h vs) (hk : Keeps A w w') : Hp.rep A w' h vs := Hp.rep_lasts.1 _ _ _ _ _ hh hk
theorem Hp.rep.below {A : Nat → Prop} {w w' : World} {h : Hp} {vs : List Value} (hh : Hp.rep A w h vs) (hk : Below w.heap.size w w') : Hp.rep A w' h vs := hh.keeps (Keeps.of_below hk)
theorem Hp.rep.mono {A A' : Nat → Prop} {w : World} {h : Hp} {vs : List Value} (hh : Hp.rep A w h vs) (hA : ∀ b, b < w.heap.size → A b → A' b) : Hp.rep A' w h vs := Hp.rep_lasts.2.1 _ _ _ _ _ hh hA

/-- a heap's two cells, as values -/
theorem Hp.rep2 {A : Nat → Prop} {w : World} {h : Hp} {vs : List Value} (hh : Hp.rep A w h vs) :
    ∃ a cap b tap, vs = [.slice a h.cells.length cap, .slice b h.trail.length tap] ∧ h.cells.length ≤ cap ∧ cap ≤ maxLen ∧ h.cells.length ≤ 1048576 ∧ h.trail.length ≤ tap ∧ tap ≤ maxLen ∧ h.trail.length ≤ 1048576 ∧
      CesR A w h.cells (.slice a h.cells.length cap) ∧ NumsR A w h.trail (.slice b h.trail.length tap) := by
  obtain ⟨c, t, rfl, hc, ht⟩ := hh
  obtain ⟨a, cap, _, _, rfl, h1, h2, h3, -⟩ := hc.at
  obtain ⟨b, tap, _, _, rfl, h4, h5, h6, -⟩ := ht.at
  exact ⟨a, cap, b, tap, rfl, h1, h2, h3, h4, h5, h6, hc, ht⟩

theorem rowAt3 {w : World} {b off : Nat} {v0 v1 v2 : Value} (h : RowAt w b off [v0, v1, v2]) :
    w.cell? ⟨b, off, none⟩ = some v0 ∧ w.cell? ⟨b, off + 1, none⟩ = some v1 ∧ w.cell? ⟨b, off + 2, none⟩ = some v2 := ⟨h 0 _ rfl, h 1 _ rfl, h 2 _ rfl⟩

/-- a cell among others, as it is later on -/
theorem ce_cells {A : Nat → Prop} {w wr : World} {l : List Ce} {b off : Nat} (he : Elems A w 3 Ce.rep l b off) (hA : A b) (hk : Keeps A w wr) {k : Nat} (hlt : k < l.length) :
    wr.cell? ⟨b, off + k * 3, none⟩ = some (.int .i64 l[k].kind) ∧ wr.cell? ⟨b, off + k * 3 + 1, none⟩ = some (.int .i64 l[k].n) ∧ wr.cell? ⟨b, off + k * 3 + 2, none⟩ = some (.string l[k].s) ∧ I64 l[k].kind ∧ I64 l[k].n ∧ l[k].s.size ≤ 1048576 := by
  obtain ⟨vs, hvl, ⟨⟨h1, h2, h3⟩, rfl⟩, hrow⟩ := he k _ (List.getElem?_eq_getElem hlt)
  obtain ⟨c0, c1, c2⟩ := rowAt3 (RowAt.keeps hA hrow hk)
  exact ⟨c0, c1, c2, h1, h2, h3⟩

/-- a number among others, as it is later on -/
theorem num_cell {A : Nat → Prop} {w wr : World} {l : List Int} {b off : Nat} (he : Elems A w 1 numR l b off) (hA : A b) (hk : Keeps A w wr) {k : Nat} (hlt : k < l.length) :
    wr.cell? ⟨b, off + k, none⟩ = some (.int .i64 l[k]) ∧ I64 l[k] := by
  obtain ⟨vs, hvl, ⟨h1, rfl⟩, hrow⟩ := he k _ (List.getElem?_eq_getElem hlt)
  have := (RowAt.keeps hA hrow hk) 0 _ rfl
  exact ⟨by simpa using this, h1⟩

end Go.Proofs.YtlpmfkpefoegeabDoor
