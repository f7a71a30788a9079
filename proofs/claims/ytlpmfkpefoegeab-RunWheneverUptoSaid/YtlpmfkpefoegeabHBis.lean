/-
  What was made one is one, and needs nothing more: in plain data.
-/
import Derived.Test.YtlpmfkpefoegeabQRen
import Derived.Test.YtlpmfkpefoegeabQNamed
namespace Go.Proofs.Ytlpmfkpefoegeab
set_option linter.unusedVariables false
set_option linter.unusedSimpArgs false
open Go.RowKit
def NodesOK (t : Tm) : Prop := ∀ (A : Nat → Prop) (w : World) (vs : List Value), t.nodes ≤ 1099511627776 → Tm.rep A w t vs →
  Calls Try.prog 22 #[.agg vs.toArray] w (Pure w fun v _ => v = .int .i64 t.nodes)
set_option maxHeartbeats 1000000 in
theorem nodes_of (k n : Int) (s : ByteArray) (l : List Tm) (ih : ∀ t ∈ l, NodesOK t) : NodesOK (.mk k n s l) := by
  intro A w vs hnd hv
  rw [Tm.rep_iff] at hv
  obtain ⟨hk, hn, hs, v, rfl, hl⟩ := hv
  obtain ⟨a, cap, b, off, rfl, hlc, hcm, hlb, ha, he⟩ := hl.at
  have HE := hid he
  have HA := hid ha
  have IH := hid ih
  simp only [Tm.nodes] at hnd
  have HND := hid hnd
  have HB0 := hid (show Below w.heap.size w (w.alloc (.cells #[.int .i64 k, .int .i64 n, .string s, .slice a l.length cap] 24)) from below_pure (Below.refl _ _))
  clear he ha hl ih hnd
  go_enter Try.func22, Try.ntmps22
  go_wp2_with fail
  go_loopw [3, 9] (fun m q wr => ∃ j : Nat, j ≤ l.length ∧ q = .int .i64 j ∧ m = .int .i64 ((1 + Tm.nodesL (l.take j) : Nat) : Int) ∧ Below w.heap.size w wr) (fun _ q _ => l.length - (intOf q).toNat)
  case atStart => exact ⟨0, Nat.zero_le _, rfl, by simp [Tm.nodesL], HB0.out⟩
  case round =>
    obtain ⟨j, hj, rfl, rfl, hb⟩ := hrel
    have HB := hid hb
    have hz := hb.size
    clear hb
    by_cases hlt : j < l.length
    · obtain ⟨rfl, hAb⟩ := HA.out (by omega)
      obtain ⟨sa, sc, c0, c1, c2, c3, hr⟩ := tm_cells HE.out hAb (Keeps.of_below HB.out) hlt
      have hn1 := Tm.nodesL_take l j hlt
      have hn2 := HND.out
      have hb1 : Tm.nodesL (l.take j) + l[j].nodes ≤ 1099511627776 := by omega
      have HS : Hid (Tm.nodesL (l.take (j + 1)) = Tm.nodesL (l.take j) + l[j].nodes) := by
        rw [List.take_succ_eq_append_getElem hlt, Tm.nodesL_append]; simp [Hid, Tm.nodesL]
      have HC := hid (IH.out _ (List.getElem_mem hlt) _ (wr.alloc _) _ (by omega) (Tm.rep_lasts.1 _ _ _ _ _ hr (Keeps.alloc _ _ (.cells (#[.int .i64 l[j].kind, .int .i64 l[j].n, .string l[j].s, .slice sa l[j].args.length sc] : Array Value) 24))))
      clear hr hn1 hn2
      go_wp2_with fail
      refine (HC.out).mono ?_
      rintro e w1 ⟨v, rfl, hb1, rfl⟩
      have HB1 := hid ((HB.out.alloc hz _).trans (hb1.mono (by simp; omega)))
      clear hb1 HC c0 c1 c2 c3
      go_wp2_with fail
      go_roundw
      case rel => exact ⟨j + 1, by omega, by go_num, by rw [HS.out]; congr 1; omega, HB1.out⟩
      case measure => simp [intOf]; omega
    · have : j = l.length := by omega
      subst this
      go_wp2_with fail
      go_ret
      refine ⟨_, rfl, HB.out, ?_⟩
      rw [List.take_length]
      simp only [Tm.nodes]
      show Value.int .i64 _ = _
      congr 1; omega
theorem nodes_ok : ∀ t, NodesOK t := by
  intro t
  induction t using Tm.induct with
  | h k n s l ih => exact nodes_of k n s l ih
theorem Ce.ext' {a b : Ce} (h1 : a.kind = b.kind) (h2 : a.n = b.n) (h3 : a.s.toList = b.s.toList) : a = b := by
  obtain ⟨k, n, s⟩ := a
  obtain ⟨k', n', s'⟩ := b
  simp only at h1 h2 h3
  subst h1; subst h2
  congr 1
  exact toList_inj' h3
end Go.Proofs.Ytlpmfkpefoegeab
namespace Go.Proofs.Ytlpmfkpefoegeab
set_option linter.unusedVariables false
set_option linter.unusedSimpArgs false
def Ce.OkAt (n i : Nat) (c : Ce) : Prop :=
  (c.kind = 0 ∧ 0 ≤ c.n ∧ c.n < n ∧ c.s.toList = []) ∨ (c.kind = 1 ∧ c.n = 0 ∧ c.s.toList ≠ []) ∨ (c.kind = 2 ∧ c.s.toList = []) ∨
  (c.kind = 3 ∧ 1 ≤ c.n ∧ c.n ≤ 4 ∧ (i : Int) + c.n < n ∧ c.s.toList ≠ [])
def GoodC (l : List Ce) : Prop := ∀ (i : Nat) (h : i < l.length), (l[i]).OkAt l.length i
def GoodT (l : List Ce) (t : List Int) : Prop := ∀ (j : Nat) (h : j < t.length), ∃ v : Nat, t[j] = (v : Int) ∧ ∃ hv : v < l.length, (l[v]).kind = 0
def Hp.Good (h : Hp) : Prop := GoodC h.cells ∧ GoodT h.cells h.trail ∧ h.cells.length ≤ 65536 ∧ h.trail.length ≤ 65536
def cellAt (l : List Ce) (a : Int) : Ce := (l[a.toNat]?).getD default
theorem cellAt_nat {l : List Ce} {k : Nat} (h : k < l.length) : cellAt l (k : Int) = l[k] := by
  unfold cellAt
  rw [Int.toNat_natCast, List.getElem?_eq_getElem h]
  rfl
def Stop (l : List Ce) (a : Int) : Prop := (cellAt l a).kind ≠ 0 ∨ (cellAt l a).n = a
instance (l : List Ce) (a : Int) : Decidable (Stop l a) := by unfold Stop; infer_instance
def Inb (l : List Ce) (a : Int) : Prop := 0 ≤ a ∧ a < l.length
instance (l : List Ce) (a : Int) : Decidable (Inb l a) := by unfold Inb; infer_instance
def lookN (l : List Ce) : Nat → Int → Int
  | 0, _ => -1
  | k + 1, a => if ¬ Inb l a then -1 else if Stop l a then a else lookN l k (cellAt l a).n
def look (l : List Ce) (a : Int) : Int := lookN l (l.length + 1) a
inductive Looks (l : List Ce) : Int → Int → Prop where
  | stop {a : Int} : Inb l a → Stop l a → Looks l a a
  | next {a x : Int} : Inb l a → ¬ Stop l a → Looks l (cellAt l a).n x → Looks l a x
theorem Looks.end_ {l : List Ce} {a x : Int} (h : Looks l a x) : Inb l x ∧ Stop l x := by
  induction h with
  | stop h1 h2 => exact ⟨h1, h2⟩
  | next _ _ _ ih => exact ih
theorem Looks.nonneg {l : List Ce} {a x : Int} (h : Looks l a x) : 0 ≤ x := h.end_.1.1
theorem Looks.start {l : List Ce} {a x : Int} (h : Looks l a x) : Inb l a := by cases h <;> assumption
theorem Looks.fun_ {l : List Ce} {a x y : Int} (h : Looks l a x) (h' : Looks l a y) : x = y := by
  induction h with
  | stop h1 h2 =>
    cases h' with
    | stop => rfl
    | next _ h => exact absurd h2 h
  | next h1 h2 _ ih =>
    cases h' with
    | stop _ h => exact absurd h h2
    | next _ _ h => exact ih h
theorem lookN_looks {l : List Ce} : ∀ (k : Nat) (a : Int), 0 ≤ lookN l k a → Looks l a (lookN l k a)
  | 0, a, h => by simp [lookN] at h
  | k + 1, a, h => by
    unfold lookN at h ⊢
    by_cases h1 : Inb l a
    · by_cases h2 : Stop l a
      · simp only [h1, h2, not_true, if_false, if_true]
        exact .stop h1 h2
      · simp only [h1, h2, not_true, if_false] at h ⊢
        exact .next h1 h2 (lookN_looks k _ h)
    · simp [h1] at h
theorem nodup_lt : ∀ (n : Nat) (s : List Int), s.Nodup → (∀ x ∈ s, 0 ≤ x ∧ x < n) → s.length ≤ n
  | 0, s, _, h => by
    cases s with
    | nil => simp
    | cons x r => have := h x (by simp); omega
  | n + 1, s, hn, h => by
    have h1 := nodup_lt n (s.erase (n : Int)) (hn.erase _) (fun x hx => by
      have h2 := (List.Nodup.mem_erase_iff hn).1 hx
      have h3 := h x h2.2
      omega)
    have h4 := @List.length_erase Int _ _ (n : Int) s
    split at h4 <;> omega
def Way (l : List Ce) (a : Int) (s : List Int) (b : Int) : Prop :=
  s.Nodup ∧ (∀ x ∈ s, Inb l x ∧ ¬ Stop l x ∧ ((cellAt l x).n ∈ s ∨ (cellAt l x).n = b)) ∧ (∀ x, Looks l b x ↔ Looks l a x) ∧ (a ∈ s ∨ a = b)
theorem Way.start (l : List Ce) (a : Int) : Way l a [] a := ⟨List.nodup_nil, fun x h => by simp at h, fun x => Iff.rfl, .inr rfl⟩
theorem Way.len {l : List Ce} {a b : Int} {s : List Int} (h : Way l a s b) : s.length ≤ l.length :=
  nodup_lt _ s h.1 fun x hx => (h.2.1 x hx).1
theorem Way.step {l : List Ce} {a b : Int} {s : List Int} (h : Way l a s b) (hb : b ∉ s) (h1 : Inb l b) (h2 : ¬ Stop l b) : Way l a (s ++ [b]) (cellAt l b).n := by
  refine ⟨?_, ?_, ?_, ?_⟩
  · rw [List.nodup_append]
    refine ⟨h.1, by simp, ?_⟩
    intro x hx y hy e
    simp at hy; subst hy; subst e
    exact hb hx
  · intro x hx
    rw [List.mem_append] at hx
    rcases hx with hx | hx
    · obtain ⟨k1, k2, k3⟩ := h.2.1 x hx
      refine ⟨k1, k2, ?_⟩
      rcases k3 with k3 | k3
      · exact .inl (by simp [k3])
      · exact .inl (by simp [k3])
    · simp at hx; subst hx
      exact ⟨h1, h2, .inr rfl⟩
  · intro x
    rw [← h.2.2.1 x]
    refine ⟨fun k => .next h1 h2 k, fun k => ?_⟩
    cases k with
    | stop _ k => exact absurd k h2
    | next _ _ k => exact k
  · rcases h.2.2.2 with k | k
    · exact .inl (by simp [k])
    · exact .inl (by simp [k])
theorem closed_none {l : List Ce} {s : List Int} (h : ∀ x ∈ s, Inb l x ∧ ¬ Stop l x ∧ (cellAt l x).n ∈ s) {a x : Int} (hl : Looks l a x) : a ∉ s := by
  induction hl with
  | stop h1 h2 => exact fun hm => (h _ hm).2.1 h2
  | next h1 h2 _ ih => exact fun hm => ih (h _ hm).2.2
theorem Way.again {l : List Ce} {a b : Int} {s : List Int} (h : Way l a s b) (hb : b ∈ s) (x : Int) : ¬ Looks l a x := by
  rw [← h.2.2.1 x]
  intro hl
  exact closed_none (s := s) (fun y hy => by
    obtain ⟨k1, k2, k3⟩ := h.2.1 y hy
    refine ⟨k1, k2, ?_⟩
    rcases k3 with k3 | k3
    · exact k3
    · rw [k3]; exact hb) hl hb
theorem lookN_way {l : List Ce} : ∀ (k : Nat) (a b : Int) (s : List Int), Way l a s b → b ∉ s → s.length + k = l.length + 1 → ∀ x, Looks l a x → lookN l k b = x
  | 0, a, b, s, hw, hb, hk, x, hl => by have := hw.len; omega
  | k + 1, a, b, s, hw, hb, hk, x, hl => by
    have hl' := (hw.2.2.1 x).2 hl
    unfold lookN
    have h1 := hl'.start
    simp only [h1, not_true, if_false]
    by_cases h2 : Stop l b
    · simp only [h2, if_true]
      exact (Looks.stop h1 h2).fun_ hl'
    · simp only [h2, if_false]
      have hw2 := hw.step hb h1 h2
      have hnot : (cellAt l b).n ∉ s ++ [b] := fun hm => hw2.again hm x hl
      exact lookN_way k a _ _ hw2 hnot (by simp; omega) x hl
theorem look_of {l : List Ce} {a x : Int} (h : Looks l a x) : look l a = x :=
  lookN_way _ a a [] (Way.start l a) (by simp) (by simp) x h
theorem look_iff {l : List Ce} {a x : Int} (h0 : 0 ≤ x) : look l a = x ↔ Looks l a x := by
  refine ⟨fun h => ?_, look_of⟩
  have := lookN_looks (l := l) (l.length + 1) a (by unfold look at h; omega)
  unfold look at h
  rw [h] at this
  exact this
theorem lookN_ge {l : List Ce} : ∀ (k : Nat) (a : Int), -1 ≤ lookN l k a
  | 0, a => by simp [lookN]
  | k + 1, a => by
    unfold lookN
    split
    · omega
    · split
      · rename_i h _; have := h; unfold Inb at this; omega
      · exact lookN_ge k _
theorem look_ge (l : List Ce) (a : Int) : -1 ≤ look l a := lookN_ge _ _
theorem look_looks {l : List Ce} {a : Int} (h : 0 ≤ look l a) : Looks l a (look l a) := (look_iff h).1 rfl
theorem look_end {l : List Ce} {a : Int} (h : 0 ≤ look l a) : Inb l (look l a) ∧ Stop l (look l a) := (look_looks h).end_
def argsAt (a : Int) (n : Int) : List Int := (List.range n.toNat).map fun i => a + 1 + (i : Nat)
def inL (l : List Ce) (v : Int) : Nat → List Int → Bool × Int
  | w, [] => (false, w)
  | 0, _ :: _ => (false, -1)
  | w + 1, z :: r =>
    if look l z < 0 then (false, -1)
    else if (cellAt l (look l z)).kind = 0 then (if look l z = v then (true, w) else inL l v w r)
    else if (cellAt l (look l z)).kind = 3 then inL l v w (argsAt (look l z) (cellAt l (look l z)).n ++ r)
    else inL l v w r
theorem inL_nil (l : List Ce) (v : Int) (w : Nat) : inL l v w [] = (false, (w : Int)) := by cases w <;> rfl
theorem inL_le (l : List Ce) (v : Int) : ∀ (w : Nat) (s : List Int), (inL l v w s).2 ≤ w ∧ -1 ≤ (inL l v w s).2
  | w, [] => by rw [inL_nil]; exact ⟨Int.le_refl _, by simp only; omega⟩
  | 0, z :: r => by simp [inL]
  | w + 1, z :: r => by
    unfold inL
    have h1 := inL_le l v w r
    have h2 := inL_le l v w (argsAt (look l z) (cellAt l (look l z)).n ++ r)
    split
    · simp; omega
    · split
      · split
        · simp; omega
        · omega
      · split <;> omega
theorem inL_app (l : List Ce) (v : Int) : ∀ (w : Nat) (s r : List Int), inL l v w (s ++ r) = if (inL l v w s).1 = true ∨ (inL l v w s).2 < 0 then inL l v w s else inL l v (inL l v w s).2.toNat r
  | w, [], r => by simp [inL_nil]; omega
  | 0, z :: s, r => by simp [inL]
  | w + 1, z :: s, r => by
    rw [List.cons_append]
    rw [inL.eq_def l v (w + 1) (z :: (s ++ r)), inL.eq_def l v (w + 1) (z :: s)]
    simp only
    have h1 := inL_app l v w s r
    have h2 := inL_app l v w (argsAt (look l z) (cellAt l (look l z)).n ++ s) r
    rw [List.append_assoc] at h2
    split
    · simp
    · split
      · split
        · simp
        · exact h1
      · split
        · exact h2
        · exact h1
theorem inL_true (l : List Ce) (v : Int) : ∀ (w : Nat) (s : List Int), (inL l v w s).1 = true → 0 ≤ (inL l v w s).2
  | w, [], h => by rw [inL_nil] at h ⊢; simp at h
  | 0, z :: r, h => by simp [inL] at h
  | w + 1, z :: r, h => by
    unfold inL at h ⊢
    have h1 := inL_true l v w r
    have h2 := inL_true l v w (argsAt (look l z) (cellAt l (look l z)).n ++ r)
    split at h
    · simp at h
    · rename_i k1
      simp only [k1, if_false]
      split at h
      · rename_i k2
        simp only [k2, if_true]
        split at h
        · rename_i k3; simp only [k3, if_true]; omega
        · rename_i k3; simp only [k3, if_false]; exact h1 h
      · rename_i k2
        simp only [k2, if_false]
        split at h
        · rename_i k3; simp only [k3, if_true]; exact h2 h
        · rename_i k3; simp only [k3, if_false]; exact h1 h
structure Un where
  ok : Bool
  cells : List Ce
  trail : List Int
  work : Int
  deriving DecidableEq, Inhabited
def bindC (l : List Ce) (v a : Int) : List Ce := l.modify v.toNat fun c => { c with n := a }
def uniL (w : Nat) (s : List (Int × Int)) (l : List Ce) (t : List Int) : Un :=
  match w, s with
  | w, [] => ⟨true, l, t, w⟩
  | 0, _ :: _ => ⟨false, l, t, -1⟩
  | w + 1, (a, b) :: r =>
    let x := look l a
    let y := look l b
    if x < 0 ∨ y < 0 then ⟨false, l, t, -1⟩
    else if (cellAt l x).kind = 0 ∧ (cellAt l y).kind = 0 then
      (if x = y then uniL w r l t else uniL w r (bindC l (max x y) (min x y)) (t ++ [max x y]))
    else if (cellAt l x).kind = 0 ∨ (cellAt l y).kind = 0 then
      let v := if (cellAt l y).kind = 0 then y else x
      let z := if (cellAt l y).kind = 0 then x else y
      let p := inL l v w [z]
      if p.1 = true ∨ p.2 < 0 then ⟨false, l, t, p.2⟩ else uniL (min w p.2.toNat) r (bindC l v z) (t ++ [v])
    else if cellAt l x ≠ cellAt l y then ⟨false, l, t, w⟩
    else if (cellAt l x).kind = 3 then uniL w ((argsAt x (cellAt l x).n).zip (argsAt y (cellAt l x).n) ++ r) l t
    else uniL w r l t
termination_by w
decreasing_by all_goals omega
theorem uniL_nil (w : Nat) (l : List Ce) (t : List Int) : uniL w [] l t = ⟨true, l, t, w⟩ := by cases w <;> simp [uniL]
theorem uniL_zero (p : Int × Int) (r : List (Int × Int)) (l : List Ce) (t : List Int) : uniL 0 (p :: r) l t = ⟨false, l, t, -1⟩ := by simp [uniL]
theorem uniL_work : ∀ (w : Nat) (s : List (Int × Int)) (l : List Ce) (t : List Int), (uniL w s l t).work ≤ w ∧ -1 ≤ (uniL w s l t).work ∧ ((uniL w s l t).ok = true → 0 ≤ (uniL w s l t).work) := by
  intro w
  induction w using Nat.strongRecOn with
  | _ w ih =>
    intro s l t
    match w, s, ih with
    | w, [], _ => rw [uniL_nil]; exact ⟨Int.le_refl _, by simp only; omega, fun _ => by simp only; omega⟩
    | 0, _ :: _, _ => simp [uniL_zero]
    | w + 1, (a, b) :: r, ih =>
      have ih' : ∀ w' ≤ w, ∀ (s : List (Int × Int)) (l : List Ce) (t : List Int), (uniL w' s l t).work ≤ (w + 1 : Nat) ∧ -1 ≤ (uniL w' s l t).work ∧ ((uniL w' s l t).ok = true → 0 ≤ (uniL w' s l t).work) := fun w' h s l t => by
        obtain ⟨h1, h2, h3⟩ := ih w' (by omega) s l t
        exact ⟨by omega, h2, h3⟩
      rw [uniL]
      simp only
      split
      · simp; omega
      · split
        · split
          · exact ih' w (by omega) _ _ _
          · exact ih' w (by omega) _ _ _
        · split
          · generalize hp : inL l (if (cellAt l (look l b)).kind = 0 then look l b else look l a) w [if (cellAt l (look l b)).kind = 0 then look l a else look l b] = p
            have h1 := inL_le l (if (cellAt l (look l b)).kind = 0 then look l b else look l a) w [if (cellAt l (look l b)).kind = 0 then look l a else look l b]
            rw [hp] at h1
            split
            · refine ⟨?_, ?_, fun h => by simp at h⟩ <;> simp only <;> omega
            · exact ih' _ (by omega) _ _ _
          · split
            · refine ⟨?_, ?_, fun h => by simp at h⟩ <;> simp only <;> omega
            · split
              · exact ih' w (by omega) _ _ _
              · exact ih' w (by omega) _ _ _
theorem uniL_app : ∀ (w : Nat) (s r : List (Int × Int)) (l : List Ce) (t : List Int),
    uniL w (s ++ r) l t = if (uniL w s l t).ok = true then uniL (uniL w s l t).work.toNat r (uniL w s l t).cells (uniL w s l t).trail else uniL w s l t := by
  intro w
  induction w using Nat.strongRecOn with
  | _ w ih =>
    intro s r l t
    match w, s, ih with
    | w, [], _ => simp [uniL_nil]
    | 0, _ :: _, _ => simp [uniL_zero]
    | w + 1, (a, b) :: s, ih =>
      rw [List.cons_append]
      rw [uniL.eq_def (w + 1) ((a, b) :: (s ++ r)), uniL.eq_def (w + 1) ((a, b) :: s)]
      simp only
      split
      · simp
      · split
        · split
          · exact ih w (by omega) s r l t
          · exact ih w (by omega) s r _ _
        · split
          · generalize inL l (if (cellAt l (look l b)).kind = 0 then look l b else look l a) w [if (cellAt l (look l b)).kind = 0 then look l a else look l b] = p
            by_cases hp : p.1 = true ∨ p.2 < 0
            · rw [if_pos hp, if_pos hp]; rfl
            · rw [if_neg hp, if_neg hp]
              exact ih (min w p.2.toNat) (by omega) s r _ _
          · split
            · simp
            · split
              · rw [← List.append_assoc]; exact ih w (by omega) _ r l t
              · exact ih w (by omega) s r l t
theorem bindC_len (l : List Ce) (v a : Int) : (bindC l v a).length = l.length := by simp [bindC]
theorem cellAt_eq {l : List Ce} {a : Int} (h : Inb l a) : ∃ k : Nat, a = (k : Int) ∧ ∃ hk : k < l.length, cellAt l a = l[k] := by
  obtain ⟨h1, h2⟩ := h
  obtain ⟨k, rfl⟩ := Int.eq_ofNat_of_zero_le h1
  exact ⟨k, rfl, by omega, cellAt_nat (by omega)⟩
theorem cellAt_bind {l : List Ce} {v a y : Int} (hv : Inb l v) (hy : Inb l y) : cellAt (bindC l v a) y = if y = v then { cellAt l v with n := a } else cellAt l y := by
  obtain ⟨k, rfl, hk, e1⟩ := cellAt_eq hv
  obtain ⟨j, rfl, hj, e2⟩ := cellAt_eq hy
  rw [e1, e2, cellAt_nat (by rw [bindC_len]; exact hj)]
  simp only [bindC, Int.toNat_natCast, List.getElem_modify]
  by_cases h : k = j
  · subst h; simp
  · rw [if_neg h, if_neg (by omega)]
theorem inb_bind {l : List Ce} {v a y : Int} : Inb (bindC l v a) y ↔ Inb l y := by unfold Inb; rw [bindC_len]
def Free (l : List Ce) (v : Int) : Prop := Inb l v ∧ (cellAt l v).kind = 0 ∧ (cellAt l v).n = v
theorem Free.stop {l : List Ce} {v : Int} (h : Free l v) : Stop l v := .inr h.2.2
theorem Looks.free {l : List Ce} {a x : Int} (h : Looks l a x) (hk : (cellAt l x).kind = 0) : Free l x := by
  obtain ⟨h1, h2⟩ := h.end_
  refine ⟨h1, hk, ?_⟩
  rcases h2 with h2 | h2
  · exact absurd hk h2
  · exact h2
theorem bind_stop {l : List Ce} {v a x : Int} (hv : Inb l v) (hx : Inb l x) (hs : Stop l x) (hne : x ≠ v) : Stop (bindC l v a) x := by
  unfold Stop at hs ⊢
  rw [cellAt_bind hv hx, if_neg hne]
  exact hs
theorem bind_looks {l : List Ce} {v t : Int} (hv : Free l v) (ht : Inb l t) (hs : Stop l t) (hne : t ≠ v) {a x : Int} (h : Looks l a x) : Looks (bindC l v t) a (if x = v then t else x) := by
  have htt : Looks (bindC l v t) t t := .stop (inb_bind.2 ht) (bind_stop hv.1 ht hs hne)
  induction h with
  | @stop a h1 h2 =>
    by_cases e : a = v
    · subst e
      rw [if_pos rfl]
      refine .next (inb_bind.2 h1) ?_ ?_
      · unfold Stop
        rw [cellAt_bind hv.1 h1, if_pos rfl]
        have := hv.2.1
        simp only
        omega
      · rw [cellAt_bind hv.1 h1, if_pos rfl]
        exact htt
    · rw [if_neg e]
      exact .stop (inb_bind.2 h1) (bind_stop hv.1 h1 h2 e)
  | @next a x h1 h2 _ ih =>
    have e : a ≠ v := fun e => h2 (e ▸ hv.stop)
    refine .next (inb_bind.2 h1) ?_ ?_
    · unfold Stop at h2 ⊢
      rw [cellAt_bind hv.1 h1, if_neg e]
      exact h2
    · rw [cellAt_bind hv.1 h1, if_neg e]
      exact ih
theorem uniL_step {w : Nat} {a b : Int} {r : List (Int × Int)} {l : List Ce} {t : List Int} (h : (uniL (w + 1) ((a, b) :: r) l t).ok = true) :
    ∃ x y, Looks l a x ∧ Looks l b y ∧
      ((x = y ∧ (cellAt l x).kind = 0 ∧ uniL (w + 1) ((a, b) :: r) l t = uniL w r l t) ∨
       (∃ v z w', w' ≤ w ∧ ((v = x ∧ z = y) ∨ (v = y ∧ z = x)) ∧ Free l v ∧ Inb l z ∧ Stop l z ∧ z ≠ v ∧ uniL (w + 1) ((a, b) :: r) l t = uniL w' r (bindC l v z) (t ++ [v])) ∨
       ((cellAt l x).kind ≠ 0 ∧ cellAt l x = cellAt l y ∧ (cellAt l x).kind = 3 ∧ uniL (w + 1) ((a, b) :: r) l t = uniL w ((argsAt x (cellAt l x).n).zip (argsAt y (cellAt l x).n) ++ r) l t) ∨
       ((cellAt l x).kind ≠ 0 ∧ cellAt l x = cellAt l y ∧ (cellAt l x).kind ≠ 3 ∧ uniL (w + 1) ((a, b) :: r) l t = uniL w r l t)) := by
  rw [uniL] at h ⊢
  simp only at h ⊢
  by_cases h1 : look l a < 0 ∨ look l b < 0
  · rw [if_pos h1] at h; simp at h
  · rw [if_neg h1] at h ⊢
    have hx := look_looks (l := l) (a := a) (by omega)
    have hy := look_looks (l := l) (a := b) (by omega)
    refine ⟨look l a, look l b, hx, hy, ?_⟩
    generalize look l a = x at h h1 hx ⊢
    generalize look l b = y at h h1 hy ⊢
    by_cases h2 : (cellAt l x).kind = 0 ∧ (cellAt l y).kind = 0
    · rw [if_pos h2] at h ⊢
      by_cases h3 : x = y
      · rw [if_pos h3] at h ⊢
        exact .inl ⟨h3, h2.1, rfl⟩
      · rw [if_neg h3] at h ⊢
        refine .inr (.inl ⟨max x y, min x y, w, Nat.le_refl _, by omega, ?_, ?_, ?_, by omega, rfl⟩)
        · have := hx.free h2.1; have := hy.free h2.2
          rcases Int.le_total x y with k | k
          · rw [Int.max_eq_right k]; assumption
          · rw [Int.max_eq_left k]; assumption
        · rcases Int.le_total x y with k | k
          · rw [Int.min_eq_left k]; exact hx.end_.1
          · rw [Int.min_eq_right k]; exact hy.end_.1
        · rcases Int.le_total x y with k | k
          · rw [Int.min_eq_left k]; exact hx.end_.2
          · rw [Int.min_eq_right k]; exact hy.end_.2
    · rw [if_neg h2] at h ⊢
      by_cases h3 : (cellAt l x).kind = 0 ∨ (cellAt l y).kind = 0
      · rw [if_pos h3] at h ⊢
        generalize inL l (if (cellAt l y).kind = 0 then y else x) w [if (cellAt l y).kind = 0 then x else y] = p at h ⊢
        by_cases h4 : p.1 = true ∨ p.2 < 0
        · rw [if_pos h4] at h; simp at h
        · rw [if_neg h4] at h ⊢
          refine .inr (.inl ⟨_, _, min w p.2.toNat, Nat.min_le_left _ _, ?_, ?_, ?_, ?_, ?_, rfl⟩)
          · by_cases h5 : (cellAt l y).kind = 0
            · rw [if_pos h5, if_pos h5]; exact .inr ⟨rfl, rfl⟩
            · rw [if_neg h5, if_neg h5]; exact .inl ⟨rfl, rfl⟩
          · by_cases h5 : (cellAt l y).kind = 0
            · simp only [h5, if_true]; exact hy.free h5
            · simp only [h5, if_false]; exact hx.free (h3.resolve_right h5)
          · split
            · exact hx.end_.1
            · exact hy.end_.1
          · split
            · exact hx.end_.2
            · exact hy.end_.2
          · by_cases h5 : (cellAt l y).kind = 0
            · simp only [h5, if_true]; rintro rfl; exact h2 ⟨h5, h5⟩
            · simp only [h5, if_false]; rintro rfl; exact h5 (h3.resolve_right h5)
      · rw [if_neg h3] at h ⊢
        by_cases h4 : cellAt l x ≠ cellAt l y
        · rw [if_pos h4] at h; simp at h
        · rw [if_neg h4] at h ⊢
          have h4' : cellAt l x = cellAt l y := Decidable.not_not.1 h4
          by_cases h5 : (cellAt l x).kind = 3
          · rw [if_pos h5]; exact .inr (.inr (.inl ⟨fun e => h3 (.inl e), h4', h5, rfl⟩))
          · rw [if_neg h5]; exact .inr (.inr (.inr ⟨fun e => h3 (.inl e), h4', h5, rfl⟩))
end Go.Proofs.Ytlpmfkpefoegeab
