/-
  Which heaps are valid: the program's answer, and the document's.
-/
import Derived.Test.YtlpmfkpefoegeacGreatDoorQLib
import Derived.Test.YtlpmfkpefoegeacGreatDoorPRead
import Derived.Test.YtlpmfkpefoegeacGreatDoorQCopy
namespace Go.Proofs.YtlpmfkpefoegeacGreatDoor
set_option linter.unusedVariables false
set_option linter.unusedSimpArgs false
open Go.RowKit
structure Ce where
  kind : Int
  n : Int
  s : ByteArray
  deriving DecidableEq, Inhabited
def flatR {α : Type} (f : α → List Value) (ok : α → Prop) (_ : Nat → Prop) (_ : World) (x : α) (vs : List Value) : Prop := ok x ∧ vs = f x
theorem flatR_lasts {α : Type} {f : α → List Value} {ok : α → Prop} (h1 : ∀ x, ∀ u ∈ f x, u.oneCell' = true) : Lasts (flatR f ok) :=
  ⟨fun A w w' x vs h _ => h, fun A A' w x vs h _ => h, fun A w x vs h => by obtain ⟨_, rfl⟩ := h; exact h1 x⟩
def Ce.vals (c : Ce) : List Value := [.int .i64 c.kind, .int .i64 c.n, .string c.s]
def Ce.Ok (c : Ce) : Prop := I64 c.kind ∧ I64 c.n ∧ c.s.size ≤ 1048576
def Ce.rep : (Nat → Prop) → World → Ce → List Value → Prop := flatR Ce.vals Ce.Ok
theorem Ce.rep_lasts : Lasts Ce.rep := flatR_lasts fun x => by simp [Ce.vals, Value.oneCell']
def numV (n : Int) : List Value := [.int .i64 n]
def numR : (Nat → Prop) → World → Int → List Value → Prop := flatR numV I64
theorem numR_lasts : Lasts numR := flatR_lasts fun x => by simp [numV, Value.oneCell']
def boolV (b : Bool) : List Value := [.bool b]
def boolR : (Nat → Prop) → World → Bool → List Value → Prop := flatR boolV fun _ => True
abbrev CesR := SlR 3 Ce.rep
abbrev NumsR := SlR 1 numR
abbrev BoolsR := SlR 1 boolR
structure Hp where
  cells : List Ce
  trail : List Int
  deriving DecidableEq, Inhabited
def Hp.rep (A : Nat → Prop) (w : World) (h : Hp) (vs : List Value) : Prop := ∃ c t, vs = [c, t] ∧ CesR A w h.cells c ∧ NumsR A w h.trail t
theorem Hp.rep_lasts : Lasts Hp.rep := by
  refine ⟨fun A w w' x vs h hk => ?_, fun A A' w x vs h hA => ?_, fun A w x vs h => ?_⟩
  · obtain ⟨c, t, rfl, hc, ht⟩ := h
    exact ⟨c, t, rfl, hc.keeps Ce.rep_lasts hk, ht.keeps numR_lasts hk⟩
  · obtain ⟨c, t, rfl, hc, ht⟩ := h
    exact ⟨c, t, rfl, hc.mono Ce.rep_lasts (by omega) hA, ht.mono numR_lasts (by omega) hA⟩
  · obtain ⟨c, t, rfl, hc, ht⟩ := h
    obtain ⟨_, _, _, _, rfl, _⟩ := hc.at
    obtain ⟨_, _, _, _, rfl, _⟩ := ht.at
    simp [Value.oneCell']
theorem Hp.rep.keeps {A : Nat → Prop} {w w' : World} {h : Hp} {vs : List Value} (hh : Hp.rep A w h vs) (hk : Keeps A w w') : Hp.rep A w' h vs := Hp.rep_lasts.1 _ _ _ _ _ hh hk
theorem Hp.rep.below {A : Nat → Prop} {w w' : World} {h : Hp} {vs : List Value} (hh : Hp.rep A w h vs) (hk : Below w.heap.size w w') : Hp.rep A w' h vs := hh.keeps (Keeps.of_below hk)
theorem Hp.rep.mono {A A' : Nat → Prop} {w : World} {h : Hp} {vs : List Value} (hh : Hp.rep A w h vs) (hA : ∀ b, b < w.heap.size → A b → A' b) : Hp.rep A' w h vs := Hp.rep_lasts.2.1 _ _ _ _ _ hh hA
end Go.Proofs.YtlpmfkpefoegeacGreatDoor
namespace Go.Proofs.YtlpmfkpefoegeacGreatDoor
set_option linter.unusedVariables false
set_option linter.unusedSimpArgs false
def Ce.OkAt (n i : Nat) (c : Ce) : Prop :=
  (c.kind = 0 ∧ 0 ≤ c.n ∧ c.n < n ∧ c.s.toList = []) ∨ (c.kind = 1 ∧ c.n = 0 ∧ c.s.toList ≠ []) ∨ (c.kind = 2 ∧ c.s.toList = []) ∨
  (c.kind = 3 ∧ 1 ≤ c.n ∧ c.n ≤ 4 ∧ (i : Int) + c.n < n ∧ c.s.toList ≠ [])
def GoodC (l : List Ce) : Prop := ∀ (i : Nat) (h : i < l.length), (l[i]).OkAt l.length i
def GoodT (l : List Ce) (t : List Int) : Prop := ∀ (j : Nat) (h : j < t.length), ∃ v : Nat, t[j] = (v : Int) ∧ ∃ hv : v < l.length, (l[v]).kind = 0
def Hp.Good (h : Hp) : Prop := GoodC h.cells ∧ GoodT h.cells h.trail ∧ h.cells.length ≤ 65536 ∧ h.trail.length ≤ 65536
def cellAt (l : List Ce) (a : Int) : Ce := (l[a.toNat]?).getD default
theorem cellAt_nat {l : List Ce} {k : Nat} (h : k < l.length) : cellAt l (k : Int) = l[k] := by
  unfold cellAt
  rw [Int.toNat_natCast, List.getElem?_eq_getElem h]
  rfl
def Stop (l : List Ce) (a : Int) : Prop := (cellAt l a).kind ≠ 0 ∨ (cellAt l a).n = a
instance (l : List Ce) (a : Int) : Decidable (Stop l a) := by unfold Stop; infer_instance
def Inb (l : List Ce) (a : Int) : Prop := 0 ≤ a ∧ a < l.length
instance (l : List Ce) (a : Int) : Decidable (Inb l a) := by unfold Inb; infer_instance
inductive Looks (l : List Ce) : Int → Int → Prop where
  | stop {a : Int} : Inb l a → Stop l a → Looks l a a
  | next {a x : Int} : Inb l a → ¬ Stop l a → Looks l (cellAt l a).n x → Looks l a x
theorem Looks.end_ {l : List Ce} {a x : Int} (h : Looks l a x) : Inb l x ∧ Stop l x := by
  induction h with
  | stop h1 h2 => exact ⟨h1, h2⟩
  | next _ _ _ ih => exact ih
theorem Looks.fun_ {l : List Ce} {a x y : Int} (h : Looks l a x) (h' : Looks l a y) : x = y := by
  induction h with
  | stop h1 h2 =>
    cases h' with
    | stop => rfl
    | next _ h => exact absurd h2 h
  | next h1 h2 _ ih =>
    cases h' with
    | stop _ h => exact absurd h h2
    | next _ _ h => exact ih h
theorem nodup_lt : ∀ (n : Nat) (s : List Int), s.Nodup → (∀ x ∈ s, 0 ≤ x ∧ x < n) → s.length ≤ n
  | 0, s, _, h => by
    cases s with
    | nil => simp
    | cons x r => have := h x (by simp); omega
  | n + 1, s, hn, h => by
    have h1 := nodup_lt n (s.erase (n : Int)) (hn.erase _) (fun x hx => by
      have h2 := (List.Nodup.mem_erase_iff hn).1 hx
      have h3 := h x h2.2
      omega)
    have h4 := @List.length_erase Int _ _ (n : Int) s
    split at h4 <;> omega
def Way (l : List Ce) (a : Int) (s : List Int) (b : Int) : Prop :=
  s.Nodup ∧ (∀ x ∈ s, Inb l x ∧ ¬ Stop l x ∧ ((cellAt l x).n ∈ s ∨ (cellAt l x).n = b)) ∧ (∀ x, Looks l b x ↔ Looks l a x) ∧ (a ∈ s ∨ a = b)
theorem Way.len {l : List Ce} {a b : Int} {s : List Int} (h : Way l a s b) : s.length ≤ l.length :=
  nodup_lt _ s h.1 fun x hx => (h.2.1 x hx).1
theorem Way.step {l : List Ce} {a b : Int} {s : List Int} (h : Way l a s b) (hb : b ∉ s) (h1 : Inb l b) (h2 : ¬ Stop l b) : Way l a (s ++ [b]) (cellAt l b).n := by
  refine ⟨?_, ?_, ?_, ?_⟩
  · rw [List.nodup_append]
    refine ⟨h.1, by simp, ?_⟩
    intro x hx y hy e
    simp at hy; subst hy; subst e
    exact hb hx
  · intro x hx
    rw [List.mem_append] at hx
    rcases hx with hx | hx
    · obtain ⟨k1, k2, k3⟩ := h.2.1 x hx
      refine ⟨k1, k2, ?_⟩
      rcases k3 with k3 | k3
      · exact .inl (by simp [k3])
      · exact .inl (by simp [k3])
    · simp at hx; subst hx
      exact ⟨h1, h2, .inr rfl⟩
  · intro x
    rw [← h.2.2.1 x]
    refine ⟨fun k => .next h1 h2 k, fun k => ?_⟩
    cases k with
    | stop _ k => exact absurd k h2
    | next _ _ k => exact k
  · rcases h.2.2.2 with k | k
    · exact .inl (by simp [k])
    · exact .inl (by simp [k])
theorem closed_none {l : List Ce} {s : List Int} (h : ∀ x ∈ s, Inb l x ∧ ¬ Stop l x ∧ (cellAt l x).n ∈ s) {a x : Int} (hl : Looks l a x) : a ∉ s := by
  induction hl with
  | stop h1 h2 => exact fun hm => (h _ hm).2.1 h2
  | next h1 h2 _ ih => exact fun hm => ih (h _ hm).2.2
theorem Way.again {l : List Ce} {a b : Int} {s : List Int} (h : Way l a s b) (hb : b ∈ s) (x : Int) : ¬ Looks l a x := by
  rw [← h.2.2.1 x]
  intro hl
  exact closed_none (s := s) (fun y hy => by
    obtain ⟨k1, k2, k3⟩ := h.2.1 y hy
    refine ⟨k1, k2, ?_⟩
    rcases k3 with k3 | k3
    · exact k3
    · rw [k3]; exact hb) hl hb
def argsAt (a : Int) (n : Int) : List Int := (List.range n.toNat).map fun i => a + 1 + (i : Nat)
structure Un where
  ok : Bool
  cells : List Ce
  trail : List Int
  work : Int
  deriving DecidableEq, Inhabited
def bindC (l : List Ce) (v a : Int) : List Ce := l.modify v.toNat fun c => { c with n := a }
theorem bindC_len (l : List Ce) (v a : Int) : (bindC l v a).length = l.length := by simp [bindC]
theorem cellAt_eq {l : List Ce} {a : Int} (h : Inb l a) : ∃ k : Nat, a = (k : Int) ∧ ∃ hk : k < l.length, cellAt l a = l[k] := by
  obtain ⟨h1, h2⟩ := h
  obtain ⟨k, rfl⟩ := Int.eq_ofNat_of_zero_le h1
  exact ⟨k, rfl, by omega, cellAt_nat (by omega)⟩
theorem cellAt_bind {l : List Ce} {v a y : Int} (hv : Inb l v) (hy : Inb l y) : cellAt (bindC l v a) y = if y = v then { cellAt l v with n := a } else cellAt l y := by
  obtain ⟨k, rfl, hk, e1⟩ := cellAt_eq hv
  obtain ⟨j, rfl, hj, e2⟩ := cellAt_eq hy
  rw [e1, e2, cellAt_nat (by rw [bindC_len]; exact hj)]
  simp only [bindC, Int.toNat_natCast, List.getElem_modify]
  by_cases h : k = j
  · subst h; simp
  · rw [if_neg h, if_neg (by omega)]
theorem inb_bind {l : List Ce} {v a y : Int} : Inb (bindC l v a) y ↔ Inb l y := by unfold Inb; rw [bindC_len]
def Free (l : List Ce) (v : Int) : Prop := Inb l v ∧ (cellAt l v).kind = 0 ∧ (cellAt l v).n = v
theorem Free.stop {l : List Ce} {v : Int} (h : Free l v) : Stop l v := .inr h.2.2
theorem Looks.free {l : List Ce} {a x : Int} (h : Looks l a x) (hk : (cellAt l x).kind = 0) : Free l x := by
  obtain ⟨h1, h2⟩ := h.end_
  refine ⟨h1, hk, ?_⟩
  rcases h2 with h2 | h2
  · exact absurd hk h2
  · exact h2
theorem bind_stop {l : List Ce} {v a x : Int} (hv : Inb l v) (hx : Inb l x) (hs : Stop l x) (hne : x ≠ v) : Stop (bindC l v a) x := by
  unfold Stop at hs ⊢
  rw [cellAt_bind hv hx, if_neg hne]
  exact hs
theorem bind_looks {l : List Ce} {v t : Int} (hv : Free l v) (ht : Inb l t) (hs : Stop l t) (hne : t ≠ v) {a x : Int} (h : Looks l a x) : Looks (bindC l v t) a (if x = v then t else x) := by
  have htt : Looks (bindC l v t) t t := .stop (inb_bind.2 ht) (bind_stop hv.1 ht hs hne)
  induction h with
  | @stop a h1 h2 =>
    by_cases e : a = v
    · subst e
      rw [if_pos rfl]
      refine .next (inb_bind.2 h1) ?_ ?_
      · unfold Stop
        rw [cellAt_bind hv.1 h1, if_pos rfl]
        have := hv.2.1
        simp only
        omega
      · rw [cellAt_bind hv.1 h1, if_pos rfl]
        exact htt
    · rw [if_neg e]
      exact .stop (inb_bind.2 h1) (bind_stop hv.1 h1 h2 e)
  | @next a x h1 h2 _ ih =>
    have e : a ≠ v := fun e => h2 (e ▸ hv.stop)
    refine .next (inb_bind.2 h1) ?_ ?_
    · unfold Stop at h2 ⊢
      rw [cellAt_bind hv.1 h1, if_neg e]
      exact h2
    · rw [cellAt_bind hv.1 h1, if_neg e]
      exact ih
def Ext (l l' : List Ce) : Prop := ∀ a x, Looks l a x → ∃ y, Looks l' a y ∧ Looks l' x y ∧ ((cellAt l x).kind ≠ 0 → y = x ∧ cellAt l' x = cellAt l x)
theorem Ext.refl (l : List Ce) : Ext l l := fun a x h => ⟨x, h, .stop h.end_.1 h.end_.2, fun _ => ⟨rfl, rfl⟩⟩
theorem Ext.trans {l l' l'' : List Ce} (h : Ext l l') (k : Ext l' l'') : Ext l l'' := fun a x hx => by
  obtain ⟨y, h1, h2, h3⟩ := h a x hx
  obtain ⟨z, k1, k2, k3⟩ := k a y h1
  obtain ⟨z', k1', k2', k3'⟩ := k x y h2
  obtain rfl := k2.fun_ k2'
  refine ⟨z, k1, k1', fun hk => ?_⟩
  obtain ⟨rfl, e⟩ := h3 hk
  obtain ⟨rfl, e'⟩ := k3 (by rw [e]; exact hk)
  exact ⟨rfl, e'.trans e⟩
theorem Ext.bind {l : List Ce} {v t : Int} (hv : Free l v) (ht : Inb l t) (hs : Stop l t) (hne : t ≠ v) : Ext l (bindC l v t) := fun a x hx => by
  refine ⟨if x = v then t else x, bind_looks hv ht hs hne hx, bind_looks hv ht hs hne (.stop hx.end_.1 hx.end_.2), fun hk => ?_⟩
  have e : x ≠ v := fun e => hk (e ▸ hv.2.1)
  rw [if_neg e, cellAt_bind hv.1 hx.end_.1, if_neg e]
  exact ⟨rfl, rfl⟩
def Bis (l : List Ce) (B : Int → Int → Prop) : Prop := ∀ a b, B a b → ∃ x y, Looks l a x ∧ Looks l b y ∧
  (x = y ∨ ((cellAt l x).kind ≠ 0 ∧ cellAt l x = cellAt l y ∧ ((cellAt l x).kind = 3 → ∀ p ∈ (argsAt x (cellAt l x).n).zip (argsAt y (cellAt l x).n), B p.1 p.2)))
theorem Bis.add {l : List Ce} {B : Int → Int → Prop} (h : Bis l B) {a b x y : Int} (hx : Looks l a x) (hy : Looks l b y)
    (hxy : x = y ∨ ((cellAt l x).kind ≠ 0 ∧ cellAt l x = cellAt l y ∧ ((cellAt l x).kind = 3 → ∀ p ∈ (argsAt x (cellAt l x).n).zip (argsAt y (cellAt l x).n), B p.1 p.2))) :
    Bis l fun c d => B c d ∨ (c = a ∧ d = b) := by
  rintro c d (hcd | ⟨rfl, rfl⟩)
  · obtain ⟨x, y, h1, h2, h3 | ⟨h3, h4, h5⟩⟩ := h c d hcd
    · exact ⟨x, y, h1, h2, .inl h3⟩
    · exact ⟨x, y, h1, h2, .inr ⟨h3, h4, fun k p hp => .inl (h5 k p hp)⟩⟩
  · refine ⟨x, y, hx, hy, ?_⟩
    rcases hxy with h | ⟨h3, h4, h5⟩
    · exact .inl h
    · exact .inr ⟨h3, h4, fun k p hp => .inl (h5 k p hp)⟩
def Bound (l : List Ce) (vs : List Int) (l' : List Ce) : Prop :=
  l'.length = l.length ∧ ∀ (i : Nat) (h : i < l.length) (h' : i < l'.length),
    ((i : Int) ∉ vs ∧ l'[i] = l[i]) ∨ ((i : Int) ∈ vs ∧ (l[i]).kind = 0 ∧ (l[i]).n = i ∧ ∃ n : Int, 0 ≤ n ∧ n < l.length ∧ l'[i] = { l[i] with n := n })
theorem Bound.refl (l : List Ce) : Bound l [] l := ⟨rfl, fun i _ _ => .inl ⟨by simp, rfl⟩⟩
theorem Bound.step {l l' : List Ce} {v z : Int} {vs : List Int} (hv : Free l v) (hz : Inb l z) (hzv : z ≠ v) (h : Bound (bindC l v z) vs l') : Bound l (v :: vs) l' := by
  obtain ⟨h1, h2⟩ := h
  rw [bindC_len] at h1
  refine ⟨h1, fun i hi hi' => ?_⟩
  obtain ⟨k, rfl, hk, e⟩ := cellAt_eq hv.1
  have h3 := hv.2
  rw [e] at h3
  have h4 := h2 i (by rw [bindC_len]; exact hi) hi'
  simp only [bindC, Int.toNat_natCast, List.getElem_modify, List.length_modify] at h4
  by_cases hik : k = i
  · subst hik
    simp only [if_true] at h4
    have hm : (k : Int) ∉ vs → l'[k] = { l[k] with n := z } := fun hn => by
      rcases h4 with ⟨_, h4⟩ | ⟨h4, _⟩
      · exact h4
      · exact absurd h4 hn
    by_cases hin : (k : Int) ∈ vs
    · exfalso
      rcases h4 with ⟨h4, _⟩ | ⟨_, _, h4, _⟩
      · exact h4 hin
      · exact hzv h4
    · exact .inr ⟨by simp, h3.1, h3.2, z, hz.1, hz.2, hm hin⟩
  · simp only [hik, if_false] at h4
    rcases h4 with ⟨h4, h5⟩ | ⟨h4, h5⟩
    · refine .inl ⟨?_, h5⟩
      simp only [List.mem_cons, h4, or_false]
      omega
    · exact .inr ⟨by simp [h4], h5⟩
theorem Bound.kind {l l' : List Ce} {vs : List Int} (h : Bound l vs l') (i : Nat) (hi : i < l.length) (hi' : i < l'.length) : (l'[i]).kind = (l[i]).kind := by
  rcases h.2 i hi hi' with ⟨_, k2⟩ | ⟨_, k2, k3, n, k4, k5, k6⟩
  · rw [k2]
  · rw [k6]
def Leads (l : List Ce) (i j : Nat) : Prop := ((cellAt l i).kind = 0 ∧ (cellAt l i).n = j) ∨ ((cellAt l i).kind = 3 ∧ i < j ∧ (j : Int) ≤ i + (cellAt l i).n)
inductive Reach (l : List Ce) (roots : List Int) : Nat → Prop where
  | root {i : Nat} : (i : Int) ∈ roots → i < l.length → Reach l roots i
  | step {i j : Nat} : Reach l roots i → Leads l i j → Reach l roots j
theorem GoodC.leads {l : List Ce} (hg : GoodC l) {i j : Nat} (hi : i < l.length) (h : Leads l i j) : j < l.length := by
  have h1 := hg i hi
  unfold Leads at h
  rw [cellAt_nat hi] at h
  unfold Ce.OkAt at h1
  omega
theorem Reach.lt {l : List Ce} {roots : List Int} (hg : GoodC l) {i : Nat} (h : Reach l roots i) : i < l.length := by
  induction h with
  | root _ h => exact h
  | step _ h ih => exact hg.leads ih h
section
variable {h : Hp} {roots : List Int}
end
end Go.Proofs.YtlpmfkpefoegeacGreatDoor
namespace Go.Proofs.YtlpmfkpefoegeacGreatDoor
set_option linter.unusedVariables false
set_option linter.unusedSimpArgs false
open Go.RowKit
def BoolP (p : Prop) (r : Value) (_ : World) : Prop := ∃ t, r = .bool t ∧ (t = true ↔ p)
def OkTo (l : List Ce) (j : Nat) : Prop := ∀ k (hk : k < l.length), k < j → (l[k]).OkAt l.length k
def OkTr (l : List Ce) (t : List Int) (j : Nat) : Prop := ∀ k (hk : k < t.length), k < j → ∃ v : Nat, t[k] = (v : Int) ∧ ∃ hv : v < l.length, (l[v]).kind = 0
theorem OkTo.next {l : List Ce} {j : Nat} (h : OkTo l j) (hj : j < l.length) (ho : (l[j]).OkAt l.length j) : OkTo l (j + 1) := fun k hk hkj => by
  by_cases e : k = j
  · subst e; exact ho
  · exact h k hk (by omega)
theorem OkTr.next {l : List Ce} {t : List Int} {j : Nat} (h : OkTr l t j) (hj : j < t.length) (ho : ∃ v : Nat, t[j] = (v : Int) ∧ ∃ hv : v < l.length, (l[v]).kind = 0) : OkTr l t (j + 1) := fun k hk hkj => by
  by_cases e : k = j
  · subst e; exact ho
  · exact h k hk (by omega)
end Go.Proofs.YtlpmfkpefoegeacGreatDoor
