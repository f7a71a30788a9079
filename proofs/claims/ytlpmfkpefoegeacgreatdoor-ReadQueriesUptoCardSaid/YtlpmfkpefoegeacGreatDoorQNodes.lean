/-
  How many terms there are in one.
-/
import Derived.Test.YtlpmfkpefoegeacGreatDoorQLib
import Derived.Deep.RegionHeld
import Derived.Test.YtlpmfkpefoegeacGreatDoorQCopy
namespace Go.Proofs.YtlpmfkpefoegeacGreatDoor
set_option linter.unusedVariables false
set_option linter.unusedSimpArgs false
open Go.RowKit
section
variable {P : Program} {ops : Array Oper} {Q : Exit → Act → World → Prop} {F : Nat → World → Prop}
def waits (ops : Array Oper) (i k : Nat) : Bool := ((ops[i]?).map fun o => o.after.any fun e => Region.binds .any e && e.on == k).getD false
def YieldsF (P : Program) (ops : Array Oper) (F : Nat → World → Prop) (i : Nat) (o : Oper) (v : Value) (a : Act) : Prop :=
  (Region.wanted o (yielded ops a.tmps) = true ∧ ∀ w, F i w → (execOp a.eval o).run P w = .ok (.value v) w) ∨
  (Region.wanted o (yielded ops a.tmps) = false ∧ v = undef)
theorem YieldsF.wpOp {i : Nat} {o : Oper} {v : Value} {a : Act} (hi : ops[i]? = some o) (hy : YieldsF P ops F i o v a)
    {K : Act → World → Prop} {w : World} (hS : F i w) (h : K (a.put o.dst v) w) : wpOp P ops Q i K a w := by
  unfold Go.wpOp
  simp only [hi]
  rcases hy with ⟨hw, hv⟩ | ⟨hw, rfl⟩
  · simp only [hw, if_true, Oper.wp, hv w hS, Oper.upon]; exact .inl h
  · simp only [hw, Bool.false_eq_true, if_false]; exact h
theorem YieldsF.of_same {i : Nat} {o : Oper} {v : Value} {a a' : Act} (hy : YieldsF P ops F i o v a) (he : execOp a'.eval o = execOp a.eval o)
    (hw : Region.wanted o (yielded ops a'.tmps) = Region.wanted o (yielded ops a.tmps)) : YieldsF P ops F i o v a' := by
  unfold YieldsF at *
  rw [he, hw]
  exact hy
theorem wpOp_putF {i j : Nat} {oi oj : Oper} {v : Value} (hj : ops[j]? = some oj) (hap : oi.apart ops oj = true)
    (hsi : ∀ cs b, oi.op ≠ .select cs b) (hsj : ∀ cs b, oj.op ≠ .select cs b)
    (hQ : ∀ c a w, Q (.panic c) (a.put oi.dst v) w → Q (.panic c) a w) {K : Act → World → Prop} {a : Act} {w : World}
    (hy : YieldsF P ops F i oi v a) (h : wpOp P ops Q j K (a.put oi.dst v) w) :
    wpOp P ops Q j (fun a' w' => YieldsF P ops F i oi v a' ∧ K (a'.put oi.dst v) w') a w := by
  obtain ⟨h1, h2, h3⟩ := Oper.apart_spec hap
  have keep : ∀ (a : Act), YieldsF P ops F i oi v a → ∀ u, YieldsF P ops F i oi v (a.put oj.dst u) := fun a hy u =>
    hy.of_same (execOp_put oi hsi a oj.dst u h3) (wanted_put oi a oj.dst u h3)
  have keepD : ∀ d, YieldsF P ops F i oi v { a with defers := d :: a.defers } := fun d => hy.of_same rfl rfl
  unfold wpOp at *
  simp only [hj] at *
  rw [wanted_put oj a oi.dst v h1] at h
  split
  · rename_i hw
    simp only [hw, if_true] at h
    rcases h with h | ⟨hasks, hlets⟩
    case inr => exact .inr ⟨by unfold Oper.asks at *; rw [execOp_put oj hsj a oi.dst v h1] at hasks; exact hasks, hlets⟩
    refine .inl ?_
    unfold Oper.wp at *
    rw [execOp_put oj hsj a oi.dst v h1] at h
    generalize (execOp a.eval oj).run P w = r at *
    cases r with
    | ok n w' =>
      cases n <;> simp only [Oper.upon] at h ⊢
      case value u => exact ⟨keep a hy u, by rw [← Act.put_comm a v u h2]; exact h⟩
      case skip => exact ⟨keep a hy _, by rw [← Act.put_comm a v undef h2]; exact h⟩
      case defer d =>
        refine ⟨keep _ (keepD d) _, ?_⟩
        rw [← Act.put_comm _ v undef h2, ← Act.put_defers]
        exact h
      case enter f args =>
        refine Calls.mono h fun e w'' he => ?_
        cases e with
        | returned u => exact ⟨keep a hy u, by rw [← Act.put_comm a v u h2]; exact he⟩
        | panicked c => exact hQ _ _ _ he
        | outgrown => exact he
      case row row args => exact Rows.mono h fun u w'' he => ⟨keep a hy u, by rw [← Act.put_comm a v u h2]; exact he⟩
    | halt x w' =>
      cases x <;> simp only [Oper.upon] at h ⊢
      case panic u => exact hQ _ _ _ h
  · rename_i hw
    simp only [hw] at h
    exact ⟨keep a hy _, by rw [← Act.put_comm a v undef h2]; exact h⟩
def KeepF (ops : Array Oper) (F : Nat → World → Prop) (i : Nat) (w w' : World) : Prop := ∀ k, waits ops i k = false → F k w → F k w'
def wpAnyF (P : Program) (ops : Array Oper) (Q : Exit → Act → World → Prop) (F : Nat → World → Prop) : Nat → Array Bool → Act → World → Prop
  | 0, listed, a, w => Region.ready .any ops listed = [] ∧ Q .normal a w
  | fuel + 1, listed, a, w =>
    (Region.ready .any ops listed = [] → Q .normal a w) ∧
    ∀ i ∈ Region.ready .any ops listed, wpOp P ops Q i (fun a' w' => KeepF ops F i w w' ∧ wpAnyF P ops Q F fuel (listed.setIfInBounds i true) a' w') a w
theorem wpAny_of_F : ∀ (fuel : Nat) (listed : Array Bool) (a : Act) (w : World), wpAnyF P ops Q F fuel listed a w → wpAny P .any ops Q fuel listed a w
  | 0, _, _, _, h => h
  | fuel + 1, _, _, _, h => ⟨h.1, fun i hi => wpOp_mono (fun a' w' h' => wpAny_of_F fuel _ a' w' h'.2) (h.2 i hi)⟩
theorem wpAnyF_first {i : Nat} {oi : Oper} {v : Value} (hi : ops[i]? = some oi) (hsel : ∀ (j : Nat) (o : Oper) cs b, ops[j]? = some o → o.op ≠ .select cs b)
    (hQ : ∀ c a w, Q (.panic c) (a.put oi.dst v) w → Q (.panic c) a w) :
    ∀ (fuel : Nat) (listed : Array Bool) (a : Act) (w : World),
      (∀ j oj, ops[j]? = some oj → j ≠ i → listed.getD j true = false → (∀ e ∈ oj.after, Region.binds .any e = true → e.on ≠ i) → oi.apart ops oj = true) →
      i ∈ Region.ready .any ops listed → YieldsF P ops F i oi v a → F i w →
      wpAnyF P ops Q F fuel (listed.setIfInBounds i true) (a.put oi.dst v) w → wpAnyF P ops Q F (fuel + 1) listed a w := by
  intro fuel
  induction fuel with
  | zero =>
    intro listed a w _ hr hy hS H
    refine ⟨fun h => (by rw [h] at hr; cases hr), fun j hj => ?_⟩
    by_cases hji : j = i
    · subst hji; exact hy.wpOp hi hS ⟨fun _ _ h => h, H⟩
    · have := ready_mono hj hji
      rw [H.1] at this
      cases this
  | succ fuel ih =>
    intro listed a w hfree hr hy hS H
    refine ⟨fun h => (by rw [h] at hr; cases hr), fun j hj => ?_⟩
    by_cases hji : j = i
    · subst hji; exact hy.wpOp hi hS ⟨fun _ _ h => h, H⟩
    · have h1 := H.2 j (ready_mono hj hji)
      obtain ⟨hjun, oj, hoj, hall⟩ := mem_ready.1 hj
      have hnot : ∀ e ∈ oj.after, Region.binds .any e = true → e.on ≠ i := fun e he hb heq => by
        have h1 := hall e he hb
        have h0 := (mem_ready.1 hr).1
        rw [heq] at h1
        rcases Nat.lt_or_ge i listed.size with h' | h'
        · simp [h'] at h0 h1; rw [h0] at h1; cases h1
        · simp [Array.getElem?_eq_none h'] at h1
      have hwt : waits ops j i = false := by
        simp only [waits, hoj, Option.map_some, Option.getD_some]
        rw [Bool.eq_false_iff]
        intro hw
        obtain ⟨e, he, hb⟩ := Array.any_eq_true'.1 hw
        simp only [Bool.and_eq_true, beq_iff_eq] at hb
        exact hnot e he hb.1 hb.2
      have h2 := wpOp_putF hoj (hfree j oj hoj hji hjun hnot) (fun cs b => hsel i oi cs b hi) (fun cs b => hsel j oj cs b hoj) hQ hy h1
      have hfree' : ∀ k ok, ops[k]? = some ok → k ≠ i → (listed.setIfInBounds j true).getD k true = false →
          (∀ e ∈ ok.after, Region.binds .any e = true → e.on ≠ i) → oi.apart ops ok = true := fun k ok hk hki hun hno => by
        refine hfree k ok hk hki ?_ hno
        by_cases hjk : j = k
        · subst hjk; exact hjun
        · rw [getD_set_ne true hjk] at hun; exact hun
      refine wpOp_mono (fun a' w' h3 => ⟨h3.2.1, ?_⟩) h2
      refine ih (listed.setIfInBounds j true) a' w' hfree' (ready_mono hr (Ne.symm hji)) h3.1 (h3.2.1 i hwt hS) ?_
      rw [Array.setIfInBounds_comm _ _ hji]
      exact h3.2.2
theorem wpAnyF_take {i : Nat} {oi : Oper} {v : Value} {fuel : Nat} {listed : Array Bool} {a : Act} {w : World} (hi' : ops.toList[i]? = some oi)
    (hs : Region.noSelect ops = true) (hf : Region.free .any ops listed i = true) (hr : (Region.ready .any ops listed).contains i = true)
    (hQ : ∀ c a w, Q (.panic c) (a.put oi.dst v) w → Q (.panic c) a w) (hy : YieldsF P ops F i oi v a) (hS : F i w)
    (h : wpAnyF P ops Q F fuel (listed.setIfInBounds i true) (a.put oi.dst v) w) : wpAnyF P ops Q F (fuel + 1) listed a w :=
  have hi : ops[i]? = some oi := by rw [← Array.getElem?_toList]; exact hi'
  wpAnyF_first hi (Region.noSelect_spec hs) hQ fuel listed a w (Region.free_spec hi hf) (by simpa using hr) hy hS h
theorem wpAnyF_one {i : Nat} {fuel : Nat} {listed : Array Bool} {a : Act} {w : World} (hr : Region.ready .any ops listed = [i])
    (h : wpOp P ops Q i (fun a' w' => KeepF ops F i w w' ∧ wpAnyF P ops Q F fuel (listed.setIfInBounds i true) a' w') a w) : wpAnyF P ops Q F (fuel + 1) listed a w :=
  ⟨fun h0 => (by rw [hr] at h0; cases h0), fun j hj => (by rw [hr] at hj; simp only [List.mem_singleton] at hj; subst hj; exact h)⟩
theorem wpAnyF_done {listed : Array Bool} {a : Act} {w : World} (hr : Region.ready .any ops listed = []) (h : Q .normal a w) :
    ∀ fuel, wpAnyF P ops Q F fuel listed a w
  | 0 => ⟨hr, h⟩
  | _ + 1 => ⟨fun _ => h, by rw [hr]; simp⟩
theorem wpOp_run {i : Nat} {o : Oper} {K : Act → World → Prop} {a : Act} {w : World} (hi' : ops.toList[i]? = some o) (hg : Region.wanted o (yielded ops a.tmps) = true) (h : o.wp P a w K Q) : wpOp P ops Q i K a w := by
  have hi : ops[i]? = some o := by rw [← Array.getElem?_toList]; exact hi'
  unfold Go.wpOp
  simp only [hi, hg, if_true]
  exact .inl h
theorem wp_region_F {id : Nat} {a : Act} {w : World} (hm : P.follows .mixedOrders = true)
    (h : wpAnyF P ops Q F ops.size (Array.replicate ops.size false) a w.drew) : (Code.region id ops true).wp P Q a w :=
  wp_region_any hm (wpAny_of_F _ _ _ _ h)
end
theorem wpTk {P : Program} {ops : Array Oper} {Q : Exit → Act → World → Prop} {F : Nat → World → Prop} {i : Nat} {oi : Oper} {v : Value} {fuel : Nat} {listed : Array Bool} {a : Act} {w : World} (hi' : ops.toList[i]? = some oi) (hy : YieldsF P ops F i oi v a) (hS : F i w)
    (h : wpAnyF P ops Q F fuel (listed.setIfInBounds i true) (a.put oi.dst v) w) (hs : Region.noSelect ops = true := by kernel_rfl) (hf : Region.free .any ops listed i = true := by kernel_rfl) (hr : (Region.ready .any ops listed).contains i = true := by kernel_rfl)
    (hQ : ∀ c a w, Q (.panic c) (a.put oi.dst v) w → Q (.panic c) a w := by exact fun _ _ _ h => h) : wpAnyF P ops Q F (fuel + 1) listed a w :=
  wpAnyF_take hi' hs hf hr hQ hy hS h
namespace Tm
mutual
/-- each variable's number as a function says -/
def ren (f : Int → Int) : Tm → Tm
  | mk k n s l => mk k (if k = 0 then f n else n) s (renL f l)
def renL (f : Int → Int) : List Tm → List Tm
  | [] => []
  | t :: r => ren f t :: renL f r
end
end Tm
namespace Tm
mutual
/-- how many terms there are in one -/
def nodes : Tm → Nat
  | mk _ _ _ l => nodesL l + 1
def nodesL : List Tm → Nat
  | [] => 0
  | t :: r => nodes t + nodesL r
end
theorem nodes_pos (t : Tm) : 0 < t.nodes := by cases t; simp [nodes]
theorem nodesL_append (l r : List Tm) : nodesL (l ++ r) = nodesL l + nodesL r := by
  induction l with
  | nil => simp [nodesL]
  | cons t l ih => simp only [List.cons_append, nodesL, ih]; omega
theorem nodesL_take (l : List Tm) (j : Nat) (h : j < l.length) : nodesL (l.take j) + nodes l[j] ≤ nodesL l := by
  have h1 := nodesL_append (l.take (j + 1)) (l.drop (j + 1))
  rw [List.take_append_drop, List.take_succ_eq_append_getElem h, nodesL_append] at h1
  simp only [nodesL] at h1
  omega
variable {σ : Type}
def num (f : σ → Int → Int × σ) (st : σ) (k n : Int) : Int × σ := if k = 0 then f st n else (n, st)
mutual
/-- each variable's number as a function says that has a state, each term before its arguments -/
def renS (f : σ → Int → Int × σ) : σ → Tm → Tm × σ
  | st, mk k n s l => (mk k (num f st k n).1 s (renSL f (num f st k n).2 l).1, (renSL f (num f st k n).2 l).2)
def renSL (f : σ → Int → Int × σ) : σ → List Tm → List Tm × σ
  | st, [] => ([], st)
  | st, t :: r => ((renS f st t).1 :: (renSL f (renS f st t).2 r).1, (renSL f (renS f st t).2 r).2)
end
end Tm
structure StLaw {σ : Type} (I : σ → (Nat → Prop) → World → Prop) : Prop where
  lt : ∀ st M w, I st M w → ∀ b, M b → b < w.heap.size
  keeps : ∀ st M w w', I st M w → Keeps M w w' → I st M w'
namespace Tm
inductive Good (vars : Int) : Tm → Prop where
  | var (n : Int) (h0 : 0 ≤ n) (h1 : n < vars) : Good vars (mk 0 n ByteArray.empty [])
  | atom (s : ByteArray) (h : IsName s) : Good vars (mk 1 0 s [])
  | int (n : Int) (h0 : -1099511627776 ≤ n) (h1 : n ≤ 1099511627776) : Good vars (mk 2 n ByteArray.empty [])
  | comp (s : ByteArray) (l : List Tm) (h : IsName s) (h1 : ¬ s.toList = [33]) (h2 : 1 ≤ l.length) (h3 : l.length ≤ 4) (h4 : ∀ t ∈ l, Good vars t) : Good vars (mk 3 0 s l)
end Tm
theorem toList_nil {s : ByteArray} : s.toList.isEmpty = true ↔ s = ByteArray.empty := by
  constructor
  · intro h
    refine toList_inj' ?_
    rw [List.isEmpty_iff] at h
    rw [h]; decide +kernel
  · rintro rfl; decide +kernel
theorem len0 {α : Type} {l : List α} : ((l.length : Int) == 0) = true ↔ l = [] := by
  cases l <;> simp <;> omega
namespace Tm
theorem good0 {vars n : Int} {s : ByteArray} {l : List Tm} : Good vars (mk 0 n s l) ↔ decide (0 ≤ n) = true ∧ decide (n < vars) = true ∧ s.toList.isEmpty = true ∧ ((l.length : Int) == 0) = true := by
  rw [toList_nil, len0, decide_eq_true_iff, decide_eq_true_iff]
  constructor
  · intro h; cases h with | var _ h0 h1 => exact ⟨h0, h1, rfl, rfl⟩
  · rintro ⟨h0, h1, rfl, rfl⟩; exact .var n h0 h1
theorem good1 {vars n : Int} {s : ByteArray} {l : List Tm} : Good vars (mk 1 n s l) ↔ (n == 0) = true ∧ IsName s ∧ ((l.length : Int) == 0) = true := by
  rw [len0, beq_iff_eq]
  constructor
  · intro h; cases h with | atom _ h => exact ⟨rfl, h, rfl⟩
  · rintro ⟨rfl, h, rfl⟩; exact .atom s h
theorem good2 {vars n : Int} {s : ByteArray} {l : List Tm} : Good vars (mk 2 n s l) ↔ decide (-1099511627776 ≤ n) = true ∧ decide (n ≤ 1099511627776) = true ∧ s.toList.isEmpty = true ∧ ((l.length : Int) == 0) = true := by
  rw [toList_nil, len0, decide_eq_true_iff, decide_eq_true_iff]
  constructor
  · intro h; cases h with | int _ h0 h1 => exact ⟨h0, h1, rfl, rfl⟩
  · rintro ⟨h0, h1, rfl, rfl⟩; exact .int n h0 h1
theorem good3 {vars n : Int} {s : ByteArray} {l : List Tm} : Good vars (mk 3 n s l) ↔ (n != 0) = false ∧ IsName s ∧ (s.toList == [33]) = false ∧ decide ((l.length : Int) < 1) = false ∧ decide (4 < (l.length : Int)) = false ∧ ∀ t ∈ l, Good vars t := by
  rw [bne_eq_false_iff_eq, decide_eq_false_iff_not, decide_eq_false_iff_not, beq_eq_false_iff_ne]
  constructor
  · intro h; cases h with | comp _ _ h h1 h2 h3 h4 => exact ⟨rfl, h, h1, by omega, by omega, h4⟩
  · rintro ⟨rfl, h, h1, h2, h3, h4⟩; exact .comp s l h h1 (by omega) (by omega) h4
theorem good_kind {vars : Int} {t : Tm} (h : Good vars t) : t.kind = 0 ∨ t.kind = 1 ∨ t.kind = 2 ∨ t.kind = 3 := by cases h <;> simp [kind]
end Tm
def GoodOK (t : Tm) : Prop := ∀ (vars : Int) (A : Nat → Prop) (w : World) (vs : List Value), I64 vars → Tm.rep A w t vs →
  Calls Tryz.prog 126 #[.agg vs.toArray, .int .i64 vars] w (Pure w fun v _ => ∃ r, v = .bool r ∧ (r = true ↔ t.Good vars))
set_option maxHeartbeats 4000000 in
theorem good_of (k n : Int) (s : ByteArray) (l : List Tm) (ih : ∀ t ∈ l, GoodOK t) : GoodOK (.mk k n s l) := by
  intro vars A w vs hvars hv
  rw [Tm.rep_iff] at hv
  obtain ⟨hk, hn, hs, v, rfl, hl⟩ := hv
  obtain ⟨a, cap, b, off, rfl, hlc, hcm, hlb, ha, he⟩ := hl.at
  have HE := hid he
  have HA := hid ha
  have IH := hid ih
  have HVS := hid hvars
  have HB0 := hid (show Below w.heap.size w (w.alloc (.cells #[.int .i64 k, .int .i64 n, .string s, .slice a l.length cap] 34)) from below_pure (Below.refl _ _))
  clear he ha hl ih
  by_cases k0 : k = 0
  · have k0' : (k == 0) = true := by simpa using k0
    subst k0
    clear k0'
    by_cases a0 : decide (0 ≤ n) = true
    · by_cases a1 : decide (n < vars) = true
      · by_cases a2 : s.toList.isEmpty = true
        · by_cases a3 : ((l.length : Int) == 0) = true
          · go_enter Tryz.func126, Tryz.ntmps126
            go_wp2_with fail
            go_ret
            refine ⟨_, rfl, HB0.out, true, rfl, ?_⟩
            rw [Tm.good0]
            simp [a0, a1, a2, a3]
          · have a3' : ((l.length : Int) == 0) = false := by simpa using a3
            clear a3
            go_enter Tryz.func126, Tryz.ntmps126
            go_wp2_with fail
            go_ret
            refine ⟨_, rfl, HB0.out, false, rfl, ?_⟩
            rw [Tm.good0]
            simp [a0, a1, a2, a3']
        · have a2' : s.toList.isEmpty = false := by simpa using a2
          clear a2
          go_enter Tryz.func126, Tryz.ntmps126
          go_wp2_with fail
          go_ret
          refine ⟨_, rfl, HB0.out, false, rfl, ?_⟩
          rw [Tm.good0]
          simp [a0, a1, a2']
      · have a1' : decide (n < vars) = false := by simpa using a1
        clear a1
        go_enter Tryz.func126, Tryz.ntmps126
        go_wp2_with fail
        go_ret
        refine ⟨_, rfl, HB0.out, false, rfl, ?_⟩
        rw [Tm.good0]
        simp [a0, a1']
    · have a0' : decide (0 ≤ n) = false := by simpa using a0
      clear a0
      go_enter Tryz.func126, Tryz.ntmps126
      go_wp2_with fail
      go_ret
      refine ⟨_, rfl, HB0.out, false, rfl, ?_⟩
      rw [Tm.good0]
      simp [a0']
  · have k0' : (k == 0) = false := by simpa using k0
    by_cases k1 : k = 1
    · have k1' : (k == 1) = true := by simpa using k1
      subst k1
      clear k1'
      by_cases a0 : (n == 0) = true
      · go_enter Tryz.func126, Tryz.ntmps126
        go_wp2_with fail
        refine (named_ok s _ hs).mono ?_
        rintro e w1 ⟨r, rfl, hr, rfl⟩
        have HR := hid hr
        clear hr
        cases r with
        | false =>
          go_wp2_with fail
          have hr := HR.out
          simp only [Bool.false_eq_true, false_iff] at hr
          go_ret
          refine ⟨_, rfl, HB0.out, false, rfl, ?_⟩
          rw [Tm.good1]
          simp [a0, hr]
        | true =>
          have hr := HR.out
          simp only [true_iff] at hr
          have HNM := hid hr
          clear hr HR
          by_cases a2 : ((l.length : Int) == 0) = true
          · go_wp2_with fail
            go_ret
            refine ⟨_, rfl, HB0.out, true, rfl, ?_⟩
            rw [Tm.good1]
            simp [a0, HNM.out, a2]
          · have a2' : ((l.length : Int) == 0) = false := by simpa using a2
            clear a2
            go_wp2_with fail
            go_ret
            refine ⟨_, rfl, HB0.out, false, rfl, ?_⟩
            rw [Tm.good1]
            simp [a0, HNM.out, a2']
      · have a0' : (n == 0) = false := by simpa using a0
        clear a0
        go_enter Tryz.func126, Tryz.ntmps126
        go_wp2_with fail
        go_ret
        refine ⟨_, rfl, HB0.out, false, rfl, ?_⟩
        rw [Tm.good1]
        simp [a0']
    · have k1' : (k == 1) = false := by simpa using k1
      by_cases k2 : k = 2
      · have k2' : (k == 2) = true := by simpa using k2
        subst k2
        clear k2'
        by_cases a0 : decide (-1099511627776 ≤ n) = true
        · by_cases a1 : decide (n ≤ 1099511627776) = true
          · by_cases a2 : s.toList.isEmpty = true
            · by_cases a3 : ((l.length : Int) == 0) = true
              · go_enter Tryz.func126, Tryz.ntmps126
                go_wp2_with fail
                go_ret
                refine ⟨_, rfl, HB0.out, true, rfl, ?_⟩
                rw [Tm.good2]
                simp [a0, a1, a2, a3]
              · have a3' : ((l.length : Int) == 0) = false := by simpa using a3
                clear a3
                go_enter Tryz.func126, Tryz.ntmps126
                go_wp2_with fail
                go_ret
                refine ⟨_, rfl, HB0.out, false, rfl, ?_⟩
                rw [Tm.good2]
                simp [a0, a1, a2, a3']
            · have a2' : s.toList.isEmpty = false := by simpa using a2
              clear a2
              go_enter Tryz.func126, Tryz.ntmps126
              go_wp2_with fail
              go_ret
              refine ⟨_, rfl, HB0.out, false, rfl, ?_⟩
              rw [Tm.good2]
              simp [a0, a1, a2']
          · have a1' : decide (n ≤ 1099511627776) = false := by simpa using a1
            clear a1
            go_enter Tryz.func126, Tryz.ntmps126
            go_wp2_with fail
            go_ret
            refine ⟨_, rfl, HB0.out, false, rfl, ?_⟩
            rw [Tm.good2]
            simp [a0, a1']
        · have a0' : decide (-1099511627776 ≤ n) = false := by simpa using a0
          clear a0
          go_enter Tryz.func126, Tryz.ntmps126
          go_wp2_with fail
          go_ret
          refine ⟨_, rfl, HB0.out, false, rfl, ?_⟩
          rw [Tm.good2]
          simp [a0']
      · have k2' : (k == 2) = false := by simpa using k2
        by_cases k3 : k = 3
        · have k3' : (k == 3) = true := by simpa using k3
          subst k3
          clear k3'
          by_cases a0 : (n != 0) = false
          · go_enter Tryz.func126, Tryz.ntmps126
            go_wp2_with fail
            refine (named_ok s _ hs).mono ?_
            rintro e w1 ⟨r, rfl, hr, rfl⟩
            have HR := hid hr
            clear hr
            cases r with
            | false =>
              go_wp2_with fail
              have hr := HR.out
              simp only [Bool.false_eq_true, false_iff] at hr
              go_ret
              refine ⟨_, rfl, HB0.out, false, rfl, ?_⟩
              rw [Tm.good3]
              simp [a0, hr]
            | true =>
              have hr := HR.out
              simp only [true_iff] at hr
              have HNM := hid hr
              clear hr HR
              by_cases a2 : (s.toList == [33]) = false
              · by_cases a3 : decide ((l.length : Int) < 1) = false
                · by_cases a4 : decide (4 < (l.length : Int)) = false
                  · go_wp2_with fail
                    go_loopw [99] (fun q wr => ∃ j : Nat, j ≤ l.length ∧ q = .int .i64 j ∧ Below w.heap.size w wr ∧ ∀ x (hx : x < j) (hl : j ≤ l.length), (l[x]'(by omega)).Good vars) (fun q _ => l.length - (intOf q).toNat)
                    case atStart => exact ⟨0, Nat.zero_le _, rfl, HB0.out, fun x hx => by omega⟩
                    case round =>
                      obtain ⟨j, hj, rfl, hb, hp⟩ := hrel
                      have HB := hid hb
                      have HP := hid hp
                      have hz := hb.size
                      clear hb hp
                      by_cases hlt : j < l.length
                      · obtain ⟨rfl, hAb⟩ := HA.out (by omega)
                        obtain ⟨sa, sc, c0, c1, c2, c3, hr⟩ := tm_cells HE.out hAb (Keeps.of_below HB.out) hlt
                        have HC := hid (IH.out _ (List.getElem_mem hlt) vars _ (wr.alloc _) _ HVS.out (Tm.rep_lasts.1 _ _ _ _ _ hr (Keeps.alloc _ _ (.cells (#[.int .i64 l[j].kind, .int .i64 l[j].n, .string l[j].s, .slice sa l[j].args.length sc] : Array Value) 34))))
                        clear hr
                        go_wp2_with fail
                        refine (HC.out).mono ?_
                        rintro e w1 ⟨v, rfl, hb1, r, rfl, hr⟩
                        have HR := hid hr
                        have HB1 := hid ((HB.out.alloc hz _).trans (hb1.mono (by simp; omega)))
                        clear hr hb1 HC c0 c1 c2 c3
                        cases r with
                        | false =>
                          go_wp2_with fail
                          go_ret
                          refine ⟨_, rfl, HB1.out, false, rfl, ?_⟩
                          rw [Tm.good3]
                          have hr := HR.out
                          simp only [Bool.false_eq_true, false_iff] at hr ⊢
                          exact fun ⟨_, _, _, _, _, h⟩ => hr (h _ (List.getElem_mem hlt))
                        | true =>
                          go_wp2_with fail
                          go_roundw
                          case rel =>
                            refine ⟨j + 1, by omega, by go_num, HB1.out, fun x hx _ => ?_⟩
                            by_cases hxj : x = j
                            · subst hxj; simpa using HR.out
                            · exact HP.out x (by omega) hj
                          case measure => simp [intOf]; omega
                      · have : j = l.length := by omega
                        subst this
                        go_wp2_with fail
                        go_ret
                        refine ⟨_, rfl, HB.out, true, rfl, ?_⟩
                        rw [Tm.good3]
                        simp only [true_iff]
                        refine ⟨a0, HNM.out, a2, a3, a4, fun t ht => ?_⟩
                        obtain ⟨x, hx, rfl⟩ := List.mem_iff_getElem.1 ht
                        exact HP.out x hx (Nat.le_refl _)
                  · have a4' : decide (4 < (l.length : Int)) = true := by simpa using a4
                    clear a4
                    go_wp2_with fail
                    go_ret
                    refine ⟨_, rfl, HB0.out, false, rfl, ?_⟩
                    rw [Tm.good3]
                    simp [a0, HNM.out, a2, a3, a4']
                · have a3' : decide ((l.length : Int) < 1) = true := by simpa using a3
                  clear a3
                  go_wp2_with fail
                  go_ret
                  refine ⟨_, rfl, HB0.out, false, rfl, ?_⟩
                  rw [Tm.good3]
                  simp [a0, HNM.out, a2, a3']
              · have a2' : (s.toList == [33]) = true := by simpa using a2
                clear a2
                go_wp2_with fail
                go_ret
                refine ⟨_, rfl, HB0.out, false, rfl, ?_⟩
                rw [Tm.good3]
                simp [a0, HNM.out, a2']
          · have a0' : (n != 0) = true := by simpa using a0
            clear a0
            go_enter Tryz.func126, Tryz.ntmps126
            go_wp2_with fail
            go_ret
            refine ⟨_, rfl, HB0.out, false, rfl, ?_⟩
            rw [Tm.good3]
            simp [a0']
        · have k3' : (k == 3) = false := by simpa using k3
          have K := hid (show ¬ (k = 0 ∨ k = 1 ∨ k = 2 ∨ k = 3) by simp [k0, k1, k2, k3])
          clear k0 k1 k2 k3
          go_enter Tryz.func126, Tryz.ntmps126
          go_wp2_with fail
          go_ret
          refine ⟨_, rfl, HB0.out, false, rfl, ?_⟩
          simp only [Bool.false_eq_true, false_iff]
          exact fun h => K.out (by simpa [Tm.kind] using Tm.good_kind h)
theorem goodT_ok : ∀ t, GoodOK t := by
  intro t
  induction t using Tm.induct with
  | h k n s l ih => exact good_of k n s l ih
def NodesOK (t : Tm) : Prop := ∀ (A : Nat → Prop) (w : World) (vs : List Value), t.nodes ≤ 1099511627776 → Tm.rep A w t vs →
  Calls Tryz.prog 127 #[.agg vs.toArray] w (Pure w fun v _ => v = .int .i64 t.nodes)
set_option maxHeartbeats 1000000 in
theorem nodes_of (k n : Int) (s : ByteArray) (l : List Tm) (ih : ∀ t ∈ l, NodesOK t) : NodesOK (.mk k n s l) := by
  intro A w vs hnd hv
  rw [Tm.rep_iff] at hv
  obtain ⟨hk, hn, hs, v, rfl, hl⟩ := hv
  obtain ⟨a, cap, b, off, rfl, hlc, hcm, hlb, ha, he⟩ := hl.at
  have HE := hid he
  have HA := hid ha
  have IH := hid ih
  simp only [Tm.nodes] at hnd
  have HND := hid hnd
  have HB0 := hid (show Below w.heap.size w (w.alloc (.cells #[.int .i64 k, .int .i64 n, .string s, .slice a l.length cap] 34)) from below_pure (Below.refl _ _))
  clear he ha hl ih hnd
  go_enter Tryz.func127, Tryz.ntmps127
  go_wp2_with fail
  go_loopw [3, 9] (fun m q wr => ∃ j : Nat, j ≤ l.length ∧ q = .int .i64 j ∧ m = .int .i64 ((1 + Tm.nodesL (l.take j) : Nat) : Int) ∧ Below w.heap.size w wr) (fun _ q _ => l.length - (intOf q).toNat)
  case atStart => exact ⟨0, Nat.zero_le _, rfl, by simp [Tm.nodesL], HB0.out⟩
  case round =>
    obtain ⟨j, hj, rfl, rfl, hb⟩ := hrel
    have HB := hid hb
    have hz := hb.size
    clear hb
    by_cases hlt : j < l.length
    · obtain ⟨rfl, hAb⟩ := HA.out (by omega)
      obtain ⟨sa, sc, c0, c1, c2, c3, hr⟩ := tm_cells HE.out hAb (Keeps.of_below HB.out) hlt
      have hn1 := Tm.nodesL_take l j hlt
      have hn2 := HND.out
      have hb1 : Tm.nodesL (l.take j) + l[j].nodes ≤ 1099511627776 := by omega
      have HS : Hid (Tm.nodesL (l.take (j + 1)) = Tm.nodesL (l.take j) + l[j].nodes) := by
        rw [List.take_succ_eq_append_getElem hlt, Tm.nodesL_append]; simp [Hid, Tm.nodesL]
      have HC := hid (IH.out _ (List.getElem_mem hlt) _ (wr.alloc _) _ (by omega) (Tm.rep_lasts.1 _ _ _ _ _ hr (Keeps.alloc _ _ (.cells (#[.int .i64 l[j].kind, .int .i64 l[j].n, .string l[j].s, .slice sa l[j].args.length sc] : Array Value) 34))))
      clear hr hn1 hn2
      go_wp2_with fail
      refine (HC.out).mono ?_
      rintro e w1 ⟨v, rfl, hb1, rfl⟩
      have HB1 := hid ((HB.out.alloc hz _).trans (hb1.mono (by simp; omega)))
      clear hb1 HC c0 c1 c2 c3
      go_wp2_with fail
      go_roundw
      case rel => exact ⟨j + 1, by omega, by go_num, by rw [HS.out]; congr 1; omega, HB1.out⟩
      case measure => simp [intOf]; omega
    · have : j = l.length := by omega
      subst this
      go_wp2_with fail
      go_ret
      refine ⟨_, rfl, HB.out, ?_⟩
      rw [List.take_length]
      simp only [Tm.nodes]
      show Value.int .i64 _ = _
      congr 1; omega
theorem nodes_ok : ∀ t, NodesOK t := by
  intro t
  induction t using Tm.induct with
  | h k n s l ih => exact nodes_of k n s l ih
end Go.Proofs.YtlpmfkpefoegeacGreatDoor
