/-
  Cells and heaps: how they lie in memory.
-/
import Derived.Test.YtlpmfkpefoegeabDoorQLib
namespace Go.Proofs.YtlpmfkpefoegeabDoor
set_option linter.unusedVariables false
set_option linter.unusedSimpArgs false
open Go.RowKit
structure Ce where
  kind : Int
  n : Int
  s : ByteArray
  deriving DecidableEq, Inhabited
def flatR {α : Type} (f : α → List Value) (ok : α → Prop) (_ : Nat → Prop) (_ : World) (x : α) (vs : List Value) : Prop := ok x ∧ vs = f x
theorem flatR_lasts {α : Type} {f : α → List Value} {ok : α → Prop} (h1 : ∀ x, ∀ u ∈ f x, u.oneCell' = true) : Lasts (flatR f ok) :=
  ⟨fun A w w' x vs h _ => h, fun A A' w x vs h _ => h, fun A w x vs h => by obtain ⟨_, rfl⟩ := h; exact h1 x⟩
def Ce.vals (c : Ce) : List Value := [.int .i64 c.kind, .int .i64 c.n, .string c.s]
def Ce.Ok (c : Ce) : Prop := I64 c.kind ∧ I64 c.n ∧ c.s.size ≤ 1048576
def Ce.rep : (Nat → Prop) → World → Ce → List Value → Prop := flatR Ce.vals Ce.Ok
def numV (n : Int) : List Value := [.int .i64 n]
def numR : (Nat → Prop) → World → Int → List Value → Prop := flatR numV I64
abbrev CesR := SlR 3 Ce.rep
abbrev NumsR := SlR 1 numR
structure Hp where
  cells : List Ce
  trail : List Int
  deriving DecidableEq, Inhabited
def Hp.rep (A : Nat → Prop) (w : World) (h : Hp) (vs : List Value) : Prop := ∃ c t, vs = [c, t] ∧ CesR A w h.cells c ∧ NumsR A w h.trail t
end Go.Proofs.YtlpmfkpefoegeabDoor
