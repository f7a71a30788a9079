/-
  How many terms there are in one.
  What a heap means, in plain data: which are valid, and what a place stands for.
  Terms in cells made one: in plain data.
  What was made one is one, and needs nothing more: in plain data.
  Bindings undone, terms told out of cells: in plain data.
  What is reached in cells, and a heap without all else: in plain data.
  Which heaps are valid: the program's answer, and the document's.
-/
import Derived.Test.YtlpmfkpefoegeabDoorQNamed
import Derived.Test.YtlpmfkpefoegeabDoorQReg
namespace Go.Proofs.YtlpmfkpefoegeabDoor
set_option linter.unusedVariables false
set_option linter.unusedSimpArgs false
open Go.RowKit
def NodesOK (t : Tm) : Prop := ∀ (A : Nat → Prop) (w : World) (vs : List Value), t.nodes ≤ 1099511627776 → Tm.rep A w t vs →
  Calls Tryd.prog 17 #[.agg vs.toArray] w (Pure w fun v _ => v = .int .i64 t.nodes)
set_option maxHeartbeats 1000000 in
theorem nodes_of (k n : Int) (s : ByteArray) (l : List Tm) (ih : ∀ t ∈ l, NodesOK t) : NodesOK (.mk k n s l) := by
  intro A w vs hnd hv
  rw [Tm.rep_iff] at hv
  obtain ⟨hk, hn, hs, v, rfl, hl⟩ := hv
  obtain ⟨a, cap, b, off, rfl, hlc, hcm, hlb, ha, he⟩ := hl.at
  have HE := hid he
  have HA := hid ha
  have IH := hid ih
  simp only [Tm.nodes] at hnd
  have HND := hid hnd
  have HB0 := hid (show Below w.heap.size w (w.alloc (.cells #[.int .i64 k, .int .i64 n, .string s, .slice a l.length cap] 31)) from below_pure (Below.refl _ _))
  clear he ha hl ih hnd
  go_enter Tryd.func17, Tryd.ntmps17
  go_wp2_with fail
  go_loopw [3, 9] (fun m q wr => ∃ j : Nat, j ≤ l.length ∧ q = .int .i64 j ∧ m = .int .i64 ((1 + Tm.nodesL (l.take j) : Nat) : Int) ∧ Below w.heap.size w wr) (fun _ q _ => l.length - (intOf q).toNat)
  case atStart => exact ⟨0, Nat.zero_le _, rfl, by simp [Tm.nodesL], HB0.out⟩
  case round =>
    obtain ⟨j, hj, rfl, rfl, hb⟩ := hrel
    have HB := hid hb
    have hz := hb.size
    clear hb
    by_cases hlt : j < l.length
    · obtain ⟨rfl, hAb⟩ := HA.out (by omega)
      obtain ⟨sa, sc, c0, c1, c2, c3, hr⟩ := tm_cells HE.out hAb (Keeps.of_below HB.out) hlt
      have hn1 := Tm.nodesL_take l j hlt
      have hn2 := HND.out
      have hb1 : Tm.nodesL (l.take j) + l[j].nodes ≤ 1099511627776 := by omega
      have HS : Hid (Tm.nodesL (l.take (j + 1)) = Tm.nodesL (l.take j) + l[j].nodes) := by
        rw [List.take_succ_eq_append_getElem hlt, Tm.nodesL_append]; simp [Hid, Tm.nodesL]
      have HC := hid (IH.out _ (List.getElem_mem hlt) _ (wr.alloc _) _ (by omega) (Tm.rep_lasts.1 _ _ _ _ _ hr (Keeps.alloc _ _ (.cells (#[.int .i64 l[j].kind, .int .i64 l[j].n, .string l[j].s, .slice sa l[j].args.length sc] : Array Value) 31))))
      clear hr hn1 hn2
      go_wp2_with fail
      refine (HC.out).mono ?_
      rintro e w1 ⟨v, rfl, hb1, rfl⟩
      have HB1 := hid ((HB.out.alloc hz _).trans (hb1.mono (by simp; omega)))
      clear hb1 HC c0 c1 c2 c3
      go_wp2_with fail
      go_roundw
      case rel => exact ⟨j + 1, by omega, by go_num, by rw [HS.out]; congr 1; omega, HB1.out⟩
      case measure => simp [intOf]; omega
    · have : j = l.length := by omega
      subst this
      go_wp2_with fail
      go_ret
      refine ⟨_, rfl, HB.out, ?_⟩
      rw [List.take_length]
      simp only [Tm.nodes]
      show Value.int .i64 _ = _
      congr 1; omega
theorem nodes_ok : ∀ t, NodesOK t := by
  intro t
  induction t using Tm.induct with
  | h k n s l ih => exact nodes_of k n s l ih
end Go.Proofs.YtlpmfkpefoegeabDoor

namespace Go.Proofs.YtlpmfkpefoegeabDoor
set_option linter.unusedVariables false
set_option linter.unusedSimpArgs false
def Ce.OkAt (n i : Nat) (c : Ce) : Prop :=
  (c.kind = 0 ∧ 0 ≤ c.n ∧ c.n < n ∧ c.s.toList = []) ∨ (c.kind = 1 ∧ c.n = 0 ∧ c.s.toList ≠ []) ∨ (c.kind = 2 ∧ c.s.toList = []) ∨
  (c.kind = 3 ∧ 1 ≤ c.n ∧ c.n ≤ 4 ∧ (i : Int) + c.n < n ∧ c.s.toList ≠ [])
def GoodC (l : List Ce) : Prop := ∀ (i : Nat) (h : i < l.length), (l[i]).OkAt l.length i
def GoodT (l : List Ce) (t : List Int) : Prop := ∀ (j : Nat) (h : j < t.length), ∃ v : Nat, t[j] = (v : Int) ∧ ∃ hv : v < l.length, (l[v]).kind = 0
def Hp.Good (h : Hp) : Prop := GoodC h.cells ∧ GoodT h.cells h.trail ∧ h.cells.length ≤ 65536 ∧ h.trail.length ≤ 65536
def cellAt (l : List Ce) (a : Int) : Ce := (l[a.toNat]?).getD default
theorem cellAt_nat {l : List Ce} {k : Nat} (h : k < l.length) : cellAt l (k : Int) = l[k] := by
  unfold cellAt
  rw [Int.toNat_natCast, List.getElem?_eq_getElem h]
  rfl
def Stop (l : List Ce) (a : Int) : Prop := (cellAt l a).kind ≠ 0 ∨ (cellAt l a).n = a
instance (l : List Ce) (a : Int) : Decidable (Stop l a) := by unfold Stop; infer_instance
def Inb (l : List Ce) (a : Int) : Prop := 0 ≤ a ∧ a < l.length
instance (l : List Ce) (a : Int) : Decidable (Inb l a) := by unfold Inb; infer_instance
def lookN (l : List Ce) : Nat → Int → Int
  | 0, _ => -1
  | k + 1, a => if ¬ Inb l a then -1 else if Stop l a then a else lookN l k (cellAt l a).n
def look (l : List Ce) (a : Int) : Int := lookN l (l.length + 1) a
inductive Looks (l : List Ce) : Int → Int → Prop where
  | stop {a : Int} : Inb l a → Stop l a → Looks l a a
  | next {a x : Int} : Inb l a → ¬ Stop l a → Looks l (cellAt l a).n x → Looks l a x
theorem Looks.end_ {l : List Ce} {a x : Int} (h : Looks l a x) : Inb l x ∧ Stop l x := by
  induction h with
  | stop h1 h2 => exact ⟨h1, h2⟩
  | next _ _ _ ih => exact ih
theorem Looks.fun_ {l : List Ce} {a x y : Int} (h : Looks l a x) (h' : Looks l a y) : x = y := by
  induction h with
  | stop h1 h2 =>
    cases h' with
    | stop => rfl
    | next _ h => exact absurd h2 h
  | next h1 h2 _ ih =>
    cases h' with
    | stop _ h => exact absurd h h2
    | next _ _ h => exact ih h
theorem nodup_lt : ∀ (n : Nat) (s : List Int), s.Nodup → (∀ x ∈ s, 0 ≤ x ∧ x < n) → s.length ≤ n
  | 0, s, _, h => by
    cases s with
    | nil => simp
    | cons x r => have := h x (by simp); omega
  | n + 1, s, hn, h => by
    have h1 := nodup_lt n (s.erase (n : Int)) (hn.erase _) (fun x hx => by
      have h2 := (List.Nodup.mem_erase_iff hn).1 hx
      have h3 := h x h2.2
      omega)
    have h4 := @List.length_erase Int _ _ (n : Int) s
    split at h4 <;> omega
def Way (l : List Ce) (a : Int) (s : List Int) (b : Int) : Prop :=
  s.Nodup ∧ (∀ x ∈ s, Inb l x ∧ ¬ Stop l x ∧ ((cellAt l x).n ∈ s ∨ (cellAt l x).n = b)) ∧ (∀ x, Looks l b x ↔ Looks l a x) ∧ (a ∈ s ∨ a = b)
theorem Way.len {l : List Ce} {a b : Int} {s : List Int} (h : Way l a s b) : s.length ≤ l.length :=
  nodup_lt _ s h.1 fun x hx => (h.2.1 x hx).1
theorem Way.step {l : List Ce} {a b : Int} {s : List Int} (h : Way l a s b) (hb : b ∉ s) (h1 : Inb l b) (h2 : ¬ Stop l b) : Way l a (s ++ [b]) (cellAt l b).n := by
  refine ⟨?_, ?_, ?_, ?_⟩
  · rw [List.nodup_append]
    refine ⟨h.1, by simp, ?_⟩
    intro x hx y hy e
    simp at hy; subst hy; subst e
    exact hb hx
  · intro x hx
    rw [List.mem_append] at hx
    rcases hx with hx | hx
    · obtain ⟨k1, k2, k3⟩ := h.2.1 x hx
      refine ⟨k1, k2, ?_⟩
      rcases k3 with k3 | k3
      · exact .inl (by simp [k3])
      · exact .inl (by simp [k3])
    · simp at hx; subst hx
      exact ⟨h1, h2, .inr rfl⟩
  · intro x
    rw [← h.2.2.1 x]
    refine ⟨fun k => .next h1 h2 k, fun k => ?_⟩
    cases k with
    | stop _ k => exact absurd k h2
    | next _ _ k => exact k
  · rcases h.2.2.2 with k | k
    · exact .inl (by simp [k])
    · exact .inl (by simp [k])
theorem closed_none {l : List Ce} {s : List Int} (h : ∀ x ∈ s, Inb l x ∧ ¬ Stop l x ∧ (cellAt l x).n ∈ s) {a x : Int} (hl : Looks l a x) : a ∉ s := by
  induction hl with
  | stop h1 h2 => exact fun hm => (h _ hm).2.1 h2
  | next h1 h2 _ ih => exact fun hm => ih (h _ hm).2.2
theorem Way.again {l : List Ce} {a b : Int} {s : List Int} (h : Way l a s b) (hb : b ∈ s) (x : Int) : ¬ Looks l a x := by
  rw [← h.2.2.1 x]
  intro hl
  exact closed_none (s := s) (fun y hy => by
    obtain ⟨k1, k2, k3⟩ := h.2.1 y hy
    refine ⟨k1, k2, ?_⟩
    rcases k3 with k3 | k3
    · exact k3
    · rw [k3]; exact hb) hl hb
end Go.Proofs.YtlpmfkpefoegeabDoor

namespace Go.Proofs.YtlpmfkpefoegeabDoor
set_option linter.unusedVariables false
set_option linter.unusedSimpArgs false
def argsAt (a : Int) (n : Int) : List Int := (List.range n.toNat).map fun i => a + 1 + (i : Nat)
structure Un where
  ok : Bool
  cells : List Ce
  trail : List Int
  work : Int
  deriving DecidableEq, Inhabited
def bindC (l : List Ce) (v a : Int) : List Ce := l.modify v.toNat fun c => { c with n := a }
end Go.Proofs.YtlpmfkpefoegeabDoor

namespace Go.Proofs.YtlpmfkpefoegeabDoor
set_option linter.unusedVariables false
set_option linter.unusedSimpArgs false
theorem bindC_len (l : List Ce) (v a : Int) : (bindC l v a).length = l.length := by simp [bindC]
theorem cellAt_eq {l : List Ce} {a : Int} (h : Inb l a) : ∃ k : Nat, a = (k : Int) ∧ ∃ hk : k < l.length, cellAt l a = l[k] := by
  obtain ⟨h1, h2⟩ := h
  obtain ⟨k, rfl⟩ := Int.eq_ofNat_of_zero_le h1
  exact ⟨k, rfl, by omega, cellAt_nat (by omega)⟩
theorem cellAt_bind {l : List Ce} {v a y : Int} (hv : Inb l v) (hy : Inb l y) : cellAt (bindC l v a) y = if y = v then { cellAt l v with n := a } else cellAt l y := by
  obtain ⟨k, rfl, hk, e1⟩ := cellAt_eq hv
  obtain ⟨j, rfl, hj, e2⟩ := cellAt_eq hy
  rw [e1, e2, cellAt_nat (by rw [bindC_len]; exact hj)]
  simp only [bindC, Int.toNat_natCast, List.getElem_modify]
  by_cases h : k = j
  · subst h; simp
  · rw [if_neg h, if_neg (by omega)]
theorem inb_bind {l : List Ce} {v a y : Int} : Inb (bindC l v a) y ↔ Inb l y := by unfold Inb; rw [bindC_len]
def Free (l : List Ce) (v : Int) : Prop := Inb l v ∧ (cellAt l v).kind = 0 ∧ (cellAt l v).n = v
theorem Free.stop {l : List Ce} {v : Int} (h : Free l v) : Stop l v := .inr h.2.2
theorem Looks.free {l : List Ce} {a x : Int} (h : Looks l a x) (hk : (cellAt l x).kind = 0) : Free l x := by
  obtain ⟨h1, h2⟩ := h.end_
  refine ⟨h1, hk, ?_⟩
  rcases h2 with h2 | h2
  · exact absurd hk h2
  · exact h2
theorem bind_stop {l : List Ce} {v a x : Int} (hv : Inb l v) (hx : Inb l x) (hs : Stop l x) (hne : x ≠ v) : Stop (bindC l v a) x := by
  unfold Stop at hs ⊢
  rw [cellAt_bind hv hx, if_neg hne]
  exact hs
theorem bind_looks {l : List Ce} {v t : Int} (hv : Free l v) (ht : Inb l t) (hs : Stop l t) (hne : t ≠ v) {a x : Int} (h : Looks l a x) : Looks (bindC l v t) a (if x = v then t else x) := by
  have htt : Looks (bindC l v t) t t := .stop (inb_bind.2 ht) (bind_stop hv.1 ht hs hne)
  induction h with
  | @stop a h1 h2 =>
    by_cases e : a = v
    · subst e
      rw [if_pos rfl]
      refine .next (inb_bind.2 h1) ?_ ?_
      · unfold Stop
        rw [cellAt_bind hv.1 h1, if_pos rfl]
        have := hv.2.1
        simp only
        omega
      · rw [cellAt_bind hv.1 h1, if_pos rfl]
        exact htt
    · rw [if_neg e]
      exact .stop (inb_bind.2 h1) (bind_stop hv.1 h1 h2 e)
  | @next a x h1 h2 _ ih =>
    have e : a ≠ v := fun e => h2 (e ▸ hv.stop)
    refine .next (inb_bind.2 h1) ?_ ?_
    · unfold Stop at h2 ⊢
      rw [cellAt_bind hv.1 h1, if_neg e]
      exact h2
    · rw [cellAt_bind hv.1 h1, if_neg e]
      exact ih
def Ext (l l' : List Ce) : Prop := ∀ a x, Looks l a x → ∃ y, Looks l' a y ∧ Looks l' x y ∧ ((cellAt l x).kind ≠ 0 → y = x ∧ cellAt l' x = cellAt l x)
theorem Ext.refl (l : List Ce) : Ext l l := fun a x h => ⟨x, h, .stop h.end_.1 h.end_.2, fun _ => ⟨rfl, rfl⟩⟩
theorem Ext.trans {l l' l'' : List Ce} (h : Ext l l') (k : Ext l' l'') : Ext l l'' := fun a x hx => by
  obtain ⟨y, h1, h2, h3⟩ := h a x hx
  obtain ⟨z, k1, k2, k3⟩ := k a y h1
  obtain ⟨z', k1', k2', k3'⟩ := k x y h2
  obtain rfl := k2.fun_ k2'
  refine ⟨z, k1, k1', fun hk => ?_⟩
  obtain ⟨rfl, e⟩ := h3 hk
  obtain ⟨rfl, e'⟩ := k3 (by rw [e]; exact hk)
  exact ⟨rfl, e'.trans e⟩
theorem Ext.bind {l : List Ce} {v t : Int} (hv : Free l v) (ht : Inb l t) (hs : Stop l t) (hne : t ≠ v) : Ext l (bindC l v t) := fun a x hx => by
  refine ⟨if x = v then t else x, bind_looks hv ht hs hne hx, bind_looks hv ht hs hne (.stop hx.end_.1 hx.end_.2), fun hk => ?_⟩
  have e : x ≠ v := fun e => hk (e ▸ hv.2.1)
  rw [if_neg e, cellAt_bind hv.1 hx.end_.1, if_neg e]
  exact ⟨rfl, rfl⟩
def Bis (l : List Ce) (B : Int → Int → Prop) : Prop := ∀ a b, B a b → ∃ x y, Looks l a x ∧ Looks l b y ∧
  (x = y ∨ ((cellAt l x).kind ≠ 0 ∧ cellAt l x = cellAt l y ∧ ((cellAt l x).kind = 3 → ∀ p ∈ (argsAt x (cellAt l x).n).zip (argsAt y (cellAt l x).n), B p.1 p.2)))
theorem Bis.add {l : List Ce} {B : Int → Int → Prop} (h : Bis l B) {a b x y : Int} (hx : Looks l a x) (hy : Looks l b y)
    (hxy : x = y ∨ ((cellAt l x).kind ≠ 0 ∧ cellAt l x = cellAt l y ∧ ((cellAt l x).kind = 3 → ∀ p ∈ (argsAt x (cellAt l x).n).zip (argsAt y (cellAt l x).n), B p.1 p.2))) :
    Bis l fun c d => B c d ∨ (c = a ∧ d = b) := by
  rintro c d (hcd | ⟨rfl, rfl⟩)
  · obtain ⟨x, y, h1, h2, h3 | ⟨h3, h4, h5⟩⟩ := h c d hcd
    · exact ⟨x, y, h1, h2, .inl h3⟩
    · exact ⟨x, y, h1, h2, .inr ⟨h3, h4, fun k p hp => .inl (h5 k p hp)⟩⟩
  · refine ⟨x, y, hx, hy, ?_⟩
    rcases hxy with h | ⟨h3, h4, h5⟩
    · exact .inl h
    · exact .inr ⟨h3, h4, fun k p hp => .inl (h5 k p hp)⟩
end Go.Proofs.YtlpmfkpefoegeabDoor

namespace Go.Proofs.YtlpmfkpefoegeabDoor
set_option linter.unusedVariables false
set_option linter.unusedSimpArgs false
def undoC (l : List Ce) (vs : List Int) : List Ce := l.mapIdx fun i c => if (i : Int) ∈ vs then { c with n := i } else c
theorem undoC_len (l : List Ce) (vs : List Int) : (undoC l vs).length = l.length := by simp [undoC]
theorem undoC_get (l : List Ce) (vs : List Int) (i : Nat) (h : i < (undoC l vs).length) : (undoC l vs)[i] = if (i : Int) ∈ vs then { (l[i]'(by rw [undoC_len] at h; exact h)) with n := i } else l[i]'(by rw [undoC_len] at h; exact h) := by
  simp [undoC]
def Bound (l : List Ce) (vs : List Int) (l' : List Ce) : Prop :=
  l'.length = l.length ∧ ∀ (i : Nat) (h : i < l.length) (h' : i < l'.length),
    ((i : Int) ∉ vs ∧ l'[i] = l[i]) ∨ ((i : Int) ∈ vs ∧ (l[i]).kind = 0 ∧ (l[i]).n = i ∧ ∃ n : Int, 0 ≤ n ∧ n < l.length ∧ l'[i] = { l[i] with n := n })
theorem Bound.refl (l : List Ce) : Bound l [] l := ⟨rfl, fun i _ _ => .inl ⟨by simp, rfl⟩⟩
theorem Bound.step {l l' : List Ce} {v z : Int} {vs : List Int} (hv : Free l v) (hz : Inb l z) (hzv : z ≠ v) (h : Bound (bindC l v z) vs l') : Bound l (v :: vs) l' := by
  obtain ⟨h1, h2⟩ := h
  rw [bindC_len] at h1
  refine ⟨h1, fun i hi hi' => ?_⟩
  obtain ⟨k, rfl, hk, e⟩ := cellAt_eq hv.1
  have h3 := hv.2
  rw [e] at h3
  have h4 := h2 i (by rw [bindC_len]; exact hi) hi'
  simp only [bindC, Int.toNat_natCast, List.getElem_modify, List.length_modify] at h4
  by_cases hik : k = i
  · subst hik
    simp only [if_true] at h4
    have hm : (k : Int) ∉ vs → l'[k] = { l[k] with n := z } := fun hn => by
      rcases h4 with ⟨_, h4⟩ | ⟨h4, _⟩
      · exact h4
      · exact absurd h4 hn
    by_cases hin : (k : Int) ∈ vs
    · exfalso
      rcases h4 with ⟨h4, _⟩ | ⟨_, _, h4, _⟩
      · exact h4 hin
      · exact hzv h4
    · exact .inr ⟨by simp, h3.1, h3.2, z, hz.1, hz.2, hm hin⟩
  · simp only [hik, if_false] at h4
    rcases h4 with ⟨h4, h5⟩ | ⟨h4, h5⟩
    · refine .inl ⟨?_, h5⟩
      simp only [List.mem_cons, h4, or_false]
      omega
    · exact .inr ⟨by simp [h4], h5⟩
theorem Bound.undo {l l' : List Ce} {vs : List Int} (h : Bound l vs l') : undoC l' vs = l := by
  apply List.ext_getElem (by rw [undoC_len]; exact h.1)
  intro i h1 h2
  rw [undoC_get]
  rcases h.2 i h2 (by rw [h.1]; exact h2) with ⟨k1, k2⟩ | ⟨k1, k2, k3, n, _, _, k4⟩
  · rw [if_neg k1, k2]
  · rw [if_pos k1, k4, ← k3]
theorem Bound.kind {l l' : List Ce} {vs : List Int} (h : Bound l vs l') (i : Nat) (hi : i < l.length) (hi' : i < l'.length) : (l'[i]).kind = (l[i]).kind := by
  rcases h.2 i hi hi' with ⟨_, k2⟩ | ⟨_, k2, k3, n, k4, k5, k6⟩
  · rw [k2]
  · rw [k6]
end Go.Proofs.YtlpmfkpefoegeabDoor

namespace Go.Proofs.YtlpmfkpefoegeabDoor
set_option linter.unusedVariables false
set_option linter.unusedSimpArgs false
def Leads (l : List Ce) (i j : Nat) : Prop := ((cellAt l i).kind = 0 ∧ (cellAt l i).n = j) ∨ ((cellAt l i).kind = 3 ∧ i < j ∧ (j : Int) ≤ i + (cellAt l i).n)
inductive Reach (l : List Ce) (roots : List Int) : Nat → Prop where
  | root {i : Nat} : (i : Int) ∈ roots → i < l.length → Reach l roots i
  | step {i j : Nat} : Reach l roots i → Leads l i j → Reach l roots j
theorem GoodC.leads {l : List Ce} (hg : GoodC l) {i j : Nat} (hi : i < l.length) (h : Leads l i j) : j < l.length := by
  have h1 := hg i hi
  unfold Leads at h
  rw [cellAt_nat hi] at h
  unfold Ce.OkAt at h1
  omega
theorem Reach.lt {l : List Ce} {roots : List Int} (hg : GoodC l) {i : Nat} (h : Reach l roots i) : i < l.length := by
  induction h with
  | root _ h => exact h
  | step _ h ih => exact hg.leads ih h
section
variable {h : Hp} {roots : List Int}
end
end Go.Proofs.YtlpmfkpefoegeabDoor

namespace Go.Proofs.YtlpmfkpefoegeabDoor
set_option linter.unusedVariables false
set_option linter.unusedSimpArgs false
open Go.RowKit
def BoolP (p : Prop) (r : Value) (_ : World) : Prop := ∃ t, r = .bool t ∧ (t = true ↔ p)
def OkTo (l : List Ce) (j : Nat) : Prop := ∀ k (hk : k < l.length), k < j → (l[k]).OkAt l.length k
def OkTr (l : List Ce) (t : List Int) (j : Nat) : Prop := ∀ k (hk : k < t.length), k < j → ∃ v : Nat, t[k] = (v : Int) ∧ ∃ hv : v < l.length, (l[v]).kind = 0
theorem OkTo.next {l : List Ce} {j : Nat} (h : OkTo l j) (hj : j < l.length) (ho : (l[j]).OkAt l.length j) : OkTo l (j + 1) := fun k hk hkj => by
  by_cases e : k = j
  · subst e; exact ho
  · exact h k hk (by omega)
theorem OkTr.next {l : List Ce} {t : List Int} {j : Nat} (h : OkTr l t j) (hj : j < t.length) (ho : ∃ v : Nat, t[j] = (v : Int) ∧ ∃ hv : v < l.length, (l[v]).kind = 0) : OkTr l t (j + 1) := fun k hk hkj => by
  by_cases e : k = j
  · subst e; exact ho
  · exact h k hk (by omega)
end Go.Proofs.YtlpmfkpefoegeabDoor
