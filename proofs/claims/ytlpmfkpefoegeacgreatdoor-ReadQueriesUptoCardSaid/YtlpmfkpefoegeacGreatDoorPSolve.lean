/-
  Answers by terms alone, in plain data: what is bound, what is still to be shown, which choices there are.
-/
import Derived.Test.YtlpmfkpefoegeacGreatDoorQNodes
import Derived.Test.YtlpmfkpefoegeacGreatDoorQMap
import Derived.Test.YtlpmfkpefoegeacGreatDoorPRead2
namespace Go.Proofs.YtlpmfkpefoegeacGreatDoor
set_option linter.unusedVariables false
set_option linter.unusedSimpArgs false
namespace Tm
inductive Vars (p : Int → Prop) : Tm → Prop where
  | mk (k n : Int) (s : ByteArray) (l : List Tm) (h : k = 0 → p n) (hl : ∀ t ∈ l, Vars p t) : Vars p (mk k n s l)
theorem Good.vars {v : Int} : ∀ {t : Tm}, t.Good v → t.Vars (fun n => 0 ≤ n ∧ n < v) := by
  intro t
  induction t using induct with
  | h k n s l ih =>
    intro h
    cases h with
    | var _ h0 h1 => exact .mk _ _ _ _ (fun _ => ⟨h0, h1⟩) (fun t ht => by cases ht)
    | atom _ _ => exact .mk _ _ _ _ (fun h => by cases h) (fun t ht => by cases ht)
    | int _ _ _ => exact .mk _ _ _ _ (fun h => by cases h) (fun t ht => by cases ht)
    | comp _ _ _ _ _ _ h4 => exact .mk _ _ _ _ (fun h => by cases h) (fun t ht => ih t ht (h4 t ht))
end Tm
section
variable {p : Int → Prop} {g : Int → Int}
end
abbrev Env := List (Int × Tm)
abbrev Tm.In (N : Int) (t : Tm) : Prop := t.Good N
theorem Tm.In.n {N : Int} {t : Tm} (h : t.In N) (hk : t.kind = 0) : 0 ≤ t.n ∧ t.n < N := by
  cases h with
  | var n h0 h1 => exact ⟨h0, h1⟩
  | atom => cases hk
  | int => cases hk
  | comp => cases hk
theorem Tm.In.arg {N : Int} {t : Tm} (h : t.In N) {x : Tm} (hx : x ∈ t.args) : x.In N := by
  cases h with
  | var => cases hx
  | atom => cases hx
  | int => cases hx
  | comp _ _ _ _ _ _ h4 => exact h4 x hx
theorem Tm.In.mono {N N' : Int} {t : Tm} (h : t.In N) (hN : N ≤ N') : t.In N' := by
  induction h with
  | var n h0 h1 => exact .var n h0 (by omega)
  | atom s h => exact .atom s h
  | int n h0 h1 => exact .int n h0 h1
  | comp s l h h1 h2 h3 _ ih => exact .comp s l h h1 h2 h3 ih
structure EnvOk (N : Int) (E : Env) : Prop where
  key : ∀ p ∈ E, 0 ≤ p.1 ∧ p.1 < N
  tm : ∀ p ∈ E, p.2.In N
  less : ∀ p ∈ E, p.2.kind = 0 → p.2.n < p.1
  nodup : (E.map (·.1)).Nodup
theorem EnvOk.nil (N : Int) : EnvOk N [] := ⟨by simp, by simp, by simp, by simp⟩
theorem EnvOk.mono {N N' : Int} {E : Env} (h : EnvOk N E) (hN : N ≤ N') : EnvOk N' E :=
  ⟨fun p hp => ⟨(h.key p hp).1, by have := (h.key p hp).2; omega⟩, fun p hp => (h.tm p hp).mono hN, h.less, h.nodup⟩
theorem EnvOk.take {N : Int} {E : Env} (h : EnvOk N E) (k : Nat) : EnvOk N (E.take k) :=
  ⟨fun p hp => h.key p (List.mem_of_mem_take hp), fun p hp => h.tm p (List.mem_of_mem_take hp), fun p hp => h.less p (List.mem_of_mem_take hp), by
    rw [List.map_take]; exact h.nodup.sublist (List.take_sublist _ _)⟩
section
variable {N : Int} {E : Env}
end
structure US where
  ok : Bool
  env : Env
  work : Int
structure Ev where
  kind : Int
  terms : List Tm
structure Gl where
  t : Tm
  bar : Nat
structure Chc where
  g : List Gl
  at_ : Nat
  trail : Nat
structure Sv where
  env : Env
  choices : List Chc
  vars : Int
  fuel : Nat
  out : List Ev
inductive Res where
  | next (g : List Gl)
  | no
  | off
def Sv.put (s : Sv) (kind : Int) : Sv := { s with out := s.out ++ [⟨kind, []⟩] }
def likeF (a b : Tm) : Prop := a.s = b.s ∧ a.args.length = b.args.length
noncomputable instance (a b : Tm) : Decidable (likeF a b) := by unfold likeF; infer_instance
end Go.Proofs.YtlpmfkpefoegeacGreatDoor
