/-
  How many terms there are in one.
  Lists of numbers, of cells, that are alike.
  What a heap means, in plain data: which are valid, and what a place stands for.
-/
import Derived.Test.YtlpmfkpefoegeabROpen
import Derived.Test.YtlpmfkpefoegeabQNamed
import Derived.Test.YtlpmfkpefoegeabQReg
namespace Go.Proofs.Ytlpmfkpefoegeab
set_option linter.unusedVariables false
set_option linter.unusedSimpArgs false
open Go.RowKit

def NodesOK (t : Tm) : Prop := ∀ (A : Nat → Prop) (w : World) (vs : List Value), t.nodes ≤ 1099511627776 → Tm.rep A w t vs →
  Calls Try.prog 22 #[.agg vs.toArray] w (Pure w fun v _ => v = .int .i64 t.nodes)

set_option maxHeartbeats 1000000 in
theorem nodes_of (k n : Int) (s : ByteArray) (l : List Tm) (ih : ∀ t ∈ l, NodesOK t) : NodesOK (.mk k n s l) := by
  intro A w vs hnd hv
  rw [Tm.rep_iff] at hv
  obtain ⟨hk, hn, hs, v, rfl, hl⟩ := hv
  obtain ⟨a, cap, b, off, rfl, hlc, hcm, hlb, ha, he⟩ := hl.at
  have HE := hid he
  have HA := hid ha
  have IH := hid ih
  simp only [Tm.nodes] at hnd
  have HND := hid hnd
  have HB0 := hid (show Below w.heap.size w (w.alloc (.cells #[.int .i64 k, .int .i64 n, .string s, .slice a l.length cap] 24)) from below_pure (Below.refl _ _))
  clear he ha hl ih hnd
  go_enter Try.func22, Try.ntmps22
  go_wp2_with fail
  go_loopw [3, 9] (fun m q wr => ∃ j : Nat, j ≤ l.length ∧ q = .int .i64 j ∧ m = .int .i64 ((1 + Tm.nodesL (l.take j) : Nat) : Int) ∧ Below w.heap.size w wr) (fun _ q _ => l.length - (intOf q).toNat)
  case atStart => exact ⟨0, Nat.zero_le _, rfl, by simp [Tm.nodesL], HB0.out⟩
  case round =>
    obtain ⟨j, hj, rfl, rfl, hb⟩ := hrel
    have HB := hid hb
    have hz := hb.size
    clear hb
    by_cases hlt : j < l.length
    · obtain ⟨rfl, hAb⟩ := HA.out (by omega)
      obtain ⟨sa, sc, c0, c1, c2, c3, hr⟩ := tm_cells HE.out hAb (Keeps.of_below HB.out) hlt
      have hn1 := Tm.nodesL_take l j hlt
      have hn2 := HND.out
      have hb1 : Tm.nodesL (l.take j) + l[j].nodes ≤ 1099511627776 := by omega
      have HS : Hid (Tm.nodesL (l.take (j + 1)) = Tm.nodesL (l.take j) + l[j].nodes) := by
        rw [List.take_succ_eq_append_getElem hlt, Tm.nodesL_append]; simp [Hid, Tm.nodesL]
      have HC := hid (IH.out _ (List.getElem_mem hlt) _ (wr.alloc _) _ (by omega) (Tm.rep_lasts.1 _ _ _ _ _ hr (Keeps.alloc _ _ (.cells (#[.int .i64 l[j].kind, .int .i64 l[j].n, .string l[j].s, .slice sa l[j].args.length sc] : Array Value) 24))))
      clear hr hn1 hn2
      go_wp2_with fail
      refine (HC.out).mono ?_
      rintro e w1 ⟨v, rfl, hb1, rfl⟩
      have HB1 := hid ((HB.out.alloc hz _).trans (hb1.mono (by simp; omega)))
      clear hb1 HC c0 c1 c2 c3
      go_wp2_with fail
      go_roundw
      case rel => exact ⟨j + 1, by omega, by go_num, by rw [HS.out]; congr 1; omega, HB1.out⟩
      case measure => simp [intOf]; omega
    · have : j = l.length := by omega
      subst this
      go_wp2_with fail
      go_ret
      refine ⟨_, rfl, HB.out, ?_⟩
      rw [List.take_length]
      simp only [Tm.nodes]
      show Value.int .i64 _ = _
      congr 1; omega

theorem nodes_ok : ∀ t, NodesOK t := by
  intro t
  induction t using Tm.induct with
  | h k n s l ih => exact nodes_of k n s l ih
end Go.Proofs.Ytlpmfkpefoegeab

namespace Go.Proofs.Ytlpmfkpefoegeab
set_option linter.unusedVariables false
set_option linter.unusedSimpArgs false
open Go.RowKit

theorem Ce.ext' {a b : Ce} (h1 : a.kind = b.kind) (h2 : a.n = b.n) (h3 : a.s.toList = b.s.toList) : a = b := by
  obtain ⟨k, n, s⟩ := a
  obtain ⟨k', n', s'⟩ := b
  simp only at h1 h2 h3
  subst h1; subst h2
  congr 1
  exact toList_inj' h3

theorem take_next' {α : Type} {l l' : List α} {j : Nat} (h : l.take j = l'.take j) (h1 : j < l.length) (h2 : j < l'.length) (he : l[j] = l'[j]) : l.take (j + 1) = l'.take (j + 1) := by
  rw [List.take_succ_eq_append_getElem h1, List.take_succ_eq_append_getElem h2, h, he]

set_option maxHeartbeats 1000000 in
theorem sameNumbersK_ok (l l' : List Int) (A : Nat → Prop) (w : World) (u v : Value) (hu : NumsR A w l u) (hv : NumsR A w l' v) :
    Calls Try.prog 40 #[u, v] w (Pure w fun r _ => ∃ t, r = .bool t ∧ (t = true ↔ l = l')) := by
  obtain ⟨a, cap, b, off, rfl, hlc, hcm, hlb, ha, he⟩ := hu.at
  obtain ⟨a', cap', b', off', rfl, hlc', hcm', hlb', ha', he'⟩ := hv.at
  have HE := hid he
  have HA := hid ha
  have HE' := hid he'
  have HA' := hid ha'
  clear he ha he' ha' hu hv
  by_cases e4 : l.length = l'.length
  · have E4 := hid e4
    rw [← e4] at hlc' hlb' HA' ⊢
    clear e4
    go_enter Try.func40, Try.ntmps40
    go_wp2_with fail
    go_loopw [13] (fun i wr => ∃ j : Nat, j ≤ l.length ∧ i = .int .i64 j ∧ Below w.heap.size w wr ∧ l.take j = l'.take j) (fun i _ => l.length - (intOf i).toNat)
    case atStart => exact ⟨0, Nat.zero_le _, rfl, Below.refl _ _, by simp⟩
    case round =>
      obtain ⟨j, hj, rfl, hb, hpre⟩ := hrel
      have HB := hid hb
      have HP := hid hpre
      have hz := hb.size
      clear hb hpre
      by_cases hlt : j < l.length
      · have hlt' : j < l'.length := by have := E4.out; omega
        obtain ⟨rfl, hAb⟩ := HA.out (by omega)
        obtain ⟨rfl, hAb'⟩ := HA'.out (by omega)
        obtain ⟨c0, -⟩ := num_cell HE.out hAb (Keeps.of_below HB.out) hlt
        obtain ⟨d0, -⟩ := num_cell HE'.out hAb' (Keeps.of_below HB.out) hlt'
        have hi0 : (0 : Int) ≤ (j : Int) := Int.natCast_nonneg _
        have hi1 : (j : Int) < (l.length : Int) := by omega
        by_cases hq : l[j] = l'[j]
        · have HQ := hid hq
          rw [← hq] at d0
          clear hq
          go_wp2_with fail
          go_region
          go_wp2_with fail
          go_roundw
          case rel => exact ⟨j + 1, by omega, by go_num, HB.out.drew, take_next' HP.out hlt hlt' HQ.out⟩
          case measure => simp [intOf]; omega
        · have hq' : (l[j] != l'[j]) = true := by simpa using hq
          go_wp2_with fail
          go_region
          go_wp2_with fail
          go_ret
          refine ⟨_, rfl, HB.out.drew, false, rfl, ?_⟩
          simp only [Bool.false_eq_true, false_iff]
          rintro rfl
          exact hq rfl
      · go_wp2_with fail
        go_ret
        refine ⟨_, rfl, HB.out, true, rfl, ?_⟩
        have h1 := HP.out
        have h2 := E4.out
        rw [List.take_of_length_le (by omega), List.take_of_length_le (by omega)] at h1
        simp [h1]
  · have e4' : ((l.length : Int) != (l'.length : Int)) = true := by simp; omega
    go_enter Try.func40, Try.ntmps40
    go_wp2_with fail
    go_ret
    refine ⟨_, rfl, Below.refl _ _, false, rfl, by simp; rintro rfl; exact e4 rfl⟩

end Go.Proofs.Ytlpmfkpefoegeab

namespace Go.Proofs.Ytlpmfkpefoegeab
set_option linter.unusedVariables false
set_option linter.unusedSimpArgs false

/-- a cell is one among n, at place i -/
def Ce.OkAt (n i : Nat) (c : Ce) : Prop :=
  (c.kind = 0 ∧ 0 ≤ c.n ∧ c.n < n ∧ c.s.toList = []) ∨ (c.kind = 1 ∧ c.n = 0 ∧ c.s.toList ≠ []) ∨ (c.kind = 2 ∧ c.s.toList = []) ∨
  (c.kind = 3 ∧ 1 ≤ c.n ∧ c.n ≤ 4 ∧ (i : Int) + c.n < n ∧ c.s.toList ≠ [])

/-- cells that mean something -/
def GoodC (l : List Ce) : Prop := ∀ (i : Nat) (h : i < l.length), (l[i]).OkAt l.length i
/-- places of references -/
def GoodT (l : List Ce) (t : List Int) : Prop := ∀ (j : Nat) (h : j < t.length), ∃ v : Nat, t[j] = (v : Int) ∧ ∃ hv : v < l.length, (l[v]).kind = 0

/-- a valid heap -/
def Hp.Good (h : Hp) : Prop := GoodC h.cells ∧ GoodT h.cells h.trail ∧ h.cells.length ≤ 65536 ∧ h.trail.length ≤ 65536

/-- the cell at a place -/
def cellAt (l : List Ce) (a : Int) : Ce := (l[a.toNat]?).getD default

theorem cellAt_nat {l : List Ce} {k : Nat} (h : k < l.length) : cellAt l (k : Int) = l[k] := by
  unfold cellAt
  rw [Int.toNat_natCast, List.getElem?_eq_getElem h]
  rfl

/-- a place that stands for itself -/
def Stop (l : List Ce) (a : Int) : Prop := (cellAt l a).kind ≠ 0 ∨ (cellAt l a).n = a
instance (l : List Ce) (a : Int) : Decidable (Stop l a) := by unfold Stop; infer_instance

/-- there is such a place -/
def Inb (l : List Ce) (a : Int) : Prop := 0 ≤ a ∧ a < l.length
instance (l : List Ce) (a : Int) : Decidable (Inb l a) := by unfold Inb; infer_instance

/-- the place that one stands for, in so many steps at most -/
def lookN (l : List Ce) : Nat → Int → Int
  | 0, _ => -1
  | k + 1, a => if ¬ Inb l a then -1 else if Stop l a then a else lookN l k (cellAt l a).n

/-- the place that one stands for; -1: there is none -/
def look (l : List Ce) (a : Int) : Int := lookN l (l.length + 1) a

/-- the same as a relation -/
inductive Looks (l : List Ce) : Int → Int → Prop where
  | stop {a : Int} : Inb l a → Stop l a → Looks l a a
  | next {a x : Int} : Inb l a → ¬ Stop l a → Looks l (cellAt l a).n x → Looks l a x

theorem Looks.end_ {l : List Ce} {a x : Int} (h : Looks l a x) : Inb l x ∧ Stop l x := by
  induction h with
  | stop h1 h2 => exact ⟨h1, h2⟩
  | next _ _ _ ih => exact ih
theorem Looks.nonneg {l : List Ce} {a x : Int} (h : Looks l a x) : 0 ≤ x := h.end_.1.1
theorem Looks.start {l : List Ce} {a x : Int} (h : Looks l a x) : Inb l a := by cases h <;> assumption
theorem Looks.fun_ {l : List Ce} {a x y : Int} (h : Looks l a x) (h' : Looks l a y) : x = y := by
  induction h with
  | stop h1 h2 =>
    cases h' with
    | stop => rfl
    | next _ h => exact absurd h2 h
  | next h1 h2 _ ih =>
    cases h' with
    | stop _ h => exact absurd h h2
    | next _ _ h => exact ih h

theorem lookN_looks {l : List Ce} : ∀ (k : Nat) (a : Int), 0 ≤ lookN l k a → Looks l a (lookN l k a)
  | 0, a, h => by simp [lookN] at h
  | k + 1, a, h => by
    unfold lookN at h ⊢
    by_cases h1 : Inb l a
    · by_cases h2 : Stop l a
      · simp only [h1, h2, not_true, if_false, if_true]
        exact .stop h1 h2
      · simp only [h1, h2, not_true, if_false] at h ⊢
        exact .next h1 h2 (lookN_looks k _ h)
    · simp [h1] at h

theorem nodup_lt : ∀ (n : Nat) (s : List Int), s.Nodup → (∀ x ∈ s, 0 ≤ x ∧ x < n) → s.length ≤ n
  | 0, s, _, h => by
    cases s with
    | nil => simp
    | cons x r => have := h x (by simp); omega
  | n + 1, s, hn, h => by
    have h1 := nodup_lt n (s.erase (n : Int)) (hn.erase _) (fun x hx => by
      have h2 := (List.Nodup.mem_erase_iff hn).1 hx
      have h3 := h x h2.2
      omega)
    have h4 := @List.length_erase Int _ _ (n : Int) s
    split at h4 <;> omega

/-- a way that was gone: places that one after the other stand for the next -/
def Way (l : List Ce) (a : Int) (s : List Int) (b : Int) : Prop :=
  s.Nodup ∧ (∀ x ∈ s, Inb l x ∧ ¬ Stop l x ∧ ((cellAt l x).n ∈ s ∨ (cellAt l x).n = b)) ∧ (∀ x, Looks l b x ↔ Looks l a x) ∧ (a ∈ s ∨ a = b)

theorem Way.start (l : List Ce) (a : Int) : Way l a [] a := ⟨List.nodup_nil, fun x h => by simp at h, fun x => Iff.rfl, .inr rfl⟩

theorem Way.len {l : List Ce} {a b : Int} {s : List Int} (h : Way l a s b) : s.length ≤ l.length :=
  nodup_lt _ s h.1 fun x hx => (h.2.1 x hx).1

theorem Way.step {l : List Ce} {a b : Int} {s : List Int} (h : Way l a s b) (hb : b ∉ s) (h1 : Inb l b) (h2 : ¬ Stop l b) : Way l a (s ++ [b]) (cellAt l b).n := by
  refine ⟨?_, ?_, ?_, ?_⟩
  · rw [List.nodup_append]
    refine ⟨h.1, by simp, ?_⟩
    intro x hx y hy e
    simp at hy; subst hy; subst e
    exact hb hx
  · intro x hx
    rw [List.mem_append] at hx
    rcases hx with hx | hx
    · obtain ⟨k1, k2, k3⟩ := h.2.1 x hx
      refine ⟨k1, k2, ?_⟩
      rcases k3 with k3 | k3
      · exact .inl (by simp [k3])
      · exact .inl (by simp [k3])
    · simp at hx; subst hx
      exact ⟨h1, h2, .inr rfl⟩
  · intro x
    rw [← h.2.2.1 x]
    refine ⟨fun k => .next h1 h2 k, fun k => ?_⟩
    cases k with
    | stop _ k => exact absurd k h2
    | next _ _ k => exact k
  · rcases h.2.2.2 with k | k
    · exact .inl (by simp [k])
    · exact .inl (by simp [k])

theorem closed_none {l : List Ce} {s : List Int} (h : ∀ x ∈ s, Inb l x ∧ ¬ Stop l x ∧ (cellAt l x).n ∈ s) {a x : Int} (hl : Looks l a x) : a ∉ s := by
  induction hl with
  | stop h1 h2 => exact fun hm => (h _ hm).2.1 h2
  | next h1 h2 _ ih => exact fun hm => ih (h _ hm).2.2

/-- who comes to where he was stands for nothing -/
theorem Way.again {l : List Ce} {a b : Int} {s : List Int} (h : Way l a s b) (hb : b ∈ s) (x : Int) : ¬ Looks l a x := by
  rw [← h.2.2.1 x]
  intro hl
  exact closed_none (s := s) (fun y hy => by
    obtain ⟨k1, k2, k3⟩ := h.2.1 y hy
    refine ⟨k1, k2, ?_⟩
    rcases k3 with k3 | k3
    · exact k3
    · rw [k3]; exact hb) hl hb

theorem lookN_way {l : List Ce} : ∀ (k : Nat) (a b : Int) (s : List Int), Way l a s b → b ∉ s → s.length + k = l.length + 1 → ∀ x, Looks l a x → lookN l k b = x
  | 0, a, b, s, hw, hb, hk, x, hl => by have := hw.len; omega
  | k + 1, a, b, s, hw, hb, hk, x, hl => by
    have hl' := (hw.2.2.1 x).2 hl
    unfold lookN
    have h1 := hl'.start
    simp only [h1, not_true, if_false]
    by_cases h2 : Stop l b
    · simp only [h2, if_true]
      exact (Looks.stop h1 h2).fun_ hl'
    · simp only [h2, if_false]
      have hw2 := hw.step hb h1 h2
      have hnot : (cellAt l b).n ∉ s ++ [b] := fun hm => hw2.again hm x hl
      exact lookN_way k a _ _ hw2 hnot (by simp; omega) x hl

theorem look_of {l : List Ce} {a x : Int} (h : Looks l a x) : look l a = x :=
  lookN_way _ a a [] (Way.start l a) (by simp) (by simp) x h

theorem look_iff {l : List Ce} {a x : Int} (h0 : 0 ≤ x) : look l a = x ↔ Looks l a x := by
  refine ⟨fun h => ?_, look_of⟩
  have := lookN_looks (l := l) (l.length + 1) a (by unfold look at h; omega)
  unfold look at h
  rw [h] at this
  exact this

theorem lookN_ge {l : List Ce} : ∀ (k : Nat) (a : Int), -1 ≤ lookN l k a
  | 0, a => by simp [lookN]
  | k + 1, a => by
    unfold lookN
    split
    · omega
    · split
      · rename_i h _; have := h; unfold Inb at this; omega
      · exact lookN_ge k _

theorem look_ge (l : List Ce) (a : Int) : -1 ≤ look l a := lookN_ge _ _

theorem look_none {l : List Ce} {a : Int} (h : ∀ x, ¬ Looks l a x) : look l a = -1 := by
  have h1 := look_ge l a
  by_cases h2 : look l a = -1
  · exact h2
  · exact absurd ((look_iff (x := look l a) (by omega)).1 rfl) (h _)

theorem look_looks {l : List Ce} {a : Int} (h : 0 ≤ look l a) : Looks l a (look l a) := (look_iff h).1 rfl

theorem look_lt (l : List Ce) (a : Int) : look l a < l.length := by
  by_cases h : 0 ≤ look l a
  · exact (look_looks h).end_.1.2
  · omega

theorem look_end {l : List Ce} {a : Int} (h : 0 ≤ look l a) : Inb l (look l a) ∧ Stop l (look l a) := (look_looks h).end_

theorem look_self {l : List Ce} {a : Int} (h1 : Inb l a) (h2 : Stop l a) : look l a = a := look_of (.stop h1 h2)

theorem look_next {l : List Ce} {a : Int} (h1 : Inb l a) (h2 : ¬ Stop l a) : look l a = look l (cellAt l a).n := by
  by_cases h : 0 ≤ look l (cellAt l a).n
  · exact look_of (.next h1 h2 (look_looks h))
  · have := look_ge l (cellAt l a).n
    rw [show look l (cellAt l a).n = -1 by omega]
    refine look_none fun x hx => ?_
    cases hx with
    | stop _ k => exact h2 k
    | next _ _ k => have := look_of k; have := k.nonneg; omega

theorem look_out {l : List Ce} {a : Int} (h : ¬ Inb l a) : look l a = -1 := look_none fun x hx => h hx.start

end Go.Proofs.Ytlpmfkpefoegeab
