/-
  A statement whose order Go leaves open: what each operation leaves is told by itself; whatever the order, at the end all of it holds.
-/
import Derived.Test.YtlpmfkpefoegeabQRen
namespace Go.Proofs.Ytlpmfkpefoegeab
set_option linter.unusedVariables false
set_option linter.unusedSimpArgs false
open Go.RowKit
section
variable {P : Program} {ops : Array Oper} {Q : Exit → Act → World → Prop}
def dstOf (ops : Array Oper) (k : Nat) : Option Nat := (ops[k]?).bind (·.dst)
def noDstI (ops : Array Oper) (i s : Nat) : Bool := (List.range ops.size).all fun k => dstOf ops k != some s || waits ops k i
def dstsOK (ops : Array Oper) (n : Nat) : Bool :=
  (List.range ops.size).all fun k => (match dstOf ops k with | some s => decide (s < n) | none => true) && (List.range ops.size).all fun j => j == k || dstOf ops j == none || dstOf ops j != dstOf ops k
theorem dstOf_lt {k s : Nat} (h : dstOf ops k = some s) : k < ops.size := by
  unfold dstOf at h
  cases hk : ops[k]? with
  | none => rw [hk] at h; simp at h
  | some o => exact (Array.getElem?_eq_some_iff.1 hk).1
theorem dstsOK_spec {n : Nat} (h : dstsOK ops n = true) : (∀ k s, dstOf ops k = some s → s < n) ∧ ∀ j k s, dstOf ops k = some s → dstOf ops j = some s → j = k := by
  unfold dstsOK at h
  simp only [List.all_eq_true, List.mem_range, Bool.and_eq_true, Bool.or_eq_true, beq_iff_eq, bne_iff_ne] at h
  refine ⟨fun k s hk => ?_, fun j k s hk hj => ?_⟩
  · have := (h k (dstOf_lt hk)).1
    rw [hk] at this
    simpa using this
  · have := (h k (dstOf_lt hk)).2 j (dstOf_lt hj)
    rcases this with (h1 | h1) | h1
    · exact h1
    · rw [hj] at h1; cases h1
    · rw [hj, hk] at h1; exact absurd rfl h1
def fillT (f : Nat → Value) : Nat → List Oper → Array Value → Array Value
  | _, [], t => t
  | i, o :: r, t => fillT f (i + 1) r (match o.dst with | some s => t.setIfInBounds s (f i) | none => t)
theorem fillT_size (f : Nat → Value) : ∀ (l : List Oper) (i : Nat) (t : Array Value), (fillT f i l t).size = t.size
  | [], _, _ => rfl
  | o :: r, i, t => by
    unfold fillT
    rw [fillT_size f r]
    cases o.dst <;> simp
theorem fillT_get (f : Nat → Value) (s : Nat) : ∀ (l : List Oper) (i : Nat) (t : Array Value), s < t.size →
    ((∀ (k : Nat) (o : Oper), l[k]? = some o → o.dst ≠ some s) → (fillT f i l t)[s]? = t[s]?) ∧
    (∀ (k : Nat) (o : Oper), l[k]? = some o → o.dst = some s → (∀ (j : Nat) (o' : Oper), l[j]? = some o' → o'.dst = some s → j = k) → (fillT f i l t)[s]? = some (f (i + k)))
  | [], _, _, _ => ⟨fun _ => rfl, fun k o h => by simp at h⟩
  | o :: r, i, t, hs => by
    unfold fillT
    have hs' : s < (match o.dst with | some s => t.setIfInBounds s (f i) | none => t).size := by cases o.dst <;> simpa using hs
    have ih := fillT_get f s r (i + 1) _ hs'
    refine ⟨fun h => ?_, fun k o' hk hd hu => ?_⟩
    · rw [ih.1 (fun k o' hk => h (k + 1) o' (by simpa using hk))]
      have h0 := h 0 o (by simp)
      cases hd : o.dst with
      | none => rfl
      | some d => simp only; rw [Array.getElem?_setIfInBounds_ne (by rintro rfl; exact h0 hd)]
    · cases k with
      | zero =>
        simp only [List.getElem?_cons_zero, Option.some.injEq] at hk
        subst hk
        rw [ih.1 (fun j o' hj hd' => by have := hu (j + 1) o' (by simpa using hj) hd'; omega)]
        simp only [hd, Nat.add_zero]
        rw [Array.getElem?_setIfInBounds_self_of_lt hs]
      | succ k =>
        rw [ih.2 k o' (by simpa using hk) hd (fun j o'' hj hd' => by have := hu (j + 1) o'' (by simpa using hj) hd'; omega)]
        congr 2; omega
def backs (ops : Array Oper) : Bool := (List.range ops.size).all fun i => ((ops[i]?).map fun o => o.after.all fun e => !Region.binds .any e || decide (e.on < i)).getD true
theorem backs_all (h : backs ops = true) (listed : Array Bool) (hls : listed.size = ops.size) (hr : Region.ready .any ops listed = []) : ∀ k, k < ops.size → listed.getD k false = true := by
  intro k
  induction k using Nat.strongRecOn with
  | _ k ih =>
    intro hk
    have hlk : k < listed.size := by omega
    cases hb : listed.getD k false with
    | true => rfl
    | false =>
      exfalso
      have : k ∈ Region.ready .any ops listed := by
        refine mem_ready.2 ⟨?_, ops[k], Array.getElem?_eq_getElem hk, fun e he hbi => ?_⟩
        · simp only [Array.getD, hlk, dif_pos] at hb ⊢
          exact hb
        · have hlt : e.on < k := by
            unfold backs at h
            simp only [List.all_eq_true, List.mem_range] at h
            have h1 := h k hk
            rw [Array.getElem?_eq_getElem hk] at h1
            simp only [Option.map_some, Option.getD_some, Array.all_eq_true_iff_forall_mem] at h1
            have h2 := h1 e he
            simp only [hbi, Bool.not_true, Bool.false_or, decide_eq_true_eq] at h2
            exact h2
          exact ih e.on hlt (by omega)
      rw [hr] at this
      cases this
structure Come (ops : Array Oper) (Po : Nat → Value → World → Prop) (a0 : Act) (f : Nat → Value) (listed : Array Bool) (a : Act) (w : World) : Prop where
  defers : a.defers = a0.defers
  size : a.tmps.size = a0.tmps.size
  old : ∀ s, (∀ k, listed.getD k false = true → dstOf ops k ≠ some s) → a.tmps[s]? = a0.tmps[s]?
  new : ∀ k, k < ops.size → listed.getD k false = true → Po k (f k) w ∧ ∀ s, dstOf ops k = some s → a.tmps[s]? = some (f k)
  closed : ∀ k j, listed.getD k false = true → waits ops k j = true → listed.getD j false = true
theorem wpAny_posts {a0 : Act} {Inv : World → Prop} {Po : Nat → Value → World → Prop} {Rl : Nat → World → World → Prop}
    (hd : dstsOK ops a0.tmps.size = true) (hst : ∀ i j v w w', i ≠ j → waits ops i j = false → Po i v w → Rl j w w' → Po i v w') (hinv : ∀ j w w', Inv w → Rl j w w' → Inv w')
    (hop : ∀ i, i < ops.size → ∀ (f : Nat → Value) (a : Act) (w : World), Inv w → (∀ k, waits ops i k = true → Po k (f k) w) →
      (∀ k s, waits ops i k = true → dstOf ops k = some s → a.tmps[s]? = some (f k)) → (∀ s, noDstI ops i s = true → a.tmps[s]? = a0.tmps[s]?) →
      wpOp P ops Q i (fun a' w' => ∃ v, a' = a.put (dstOf ops i) v ∧ Po i v w' ∧ Rl i w w') a w)
    (hend : ∀ (f : Nat → Value) (w : World), Inv w → (∀ i, i < ops.size → Po i (f i) w) → Q .normal ⟨fillT f 0 ops.toList a0.tmps, a0.defers⟩ w)
    (hbk : backs ops = true) :
    ∀ (fuel : Nat) (f : Nat → Value) (listed : Array Bool) (a : Act) (w : World), listed.size = ops.size → (listed.toList.filter (· == false)).length ≤ fuel → Inv w → Come ops Po a0 f listed a w →
      wpAny P .any ops Q fuel listed a w := by
  obtain ⟨hlt, huniq⟩ := dstsOK_spec hd
  have close : ∀ (f : Nat → Value) (listed : Array Bool) (a : Act) (w : World), listed.size = ops.size → Inv w → Come ops Po a0 f listed a w → Region.ready .any ops listed = [] → Q .normal a w := by
    intro f listed a w hls hw hc hr
    have hall := backs_all hbk listed hls hr
    have : a = ⟨fillT f 0 ops.toList a0.tmps, a0.defers⟩ := by
      obtain ⟨t, d⟩ := a
      have h1 := hc.defers
      have h2 := hc.size
      simp only at h1 h2
      subst h1
      congr 1
      refine Array.ext_getElem? fun s => ?_
      by_cases hs : s < a0.tmps.size
      · have hg := fillT_get f s ops.toList 0 a0.tmps hs
        by_cases he : ∃ k, dstOf ops k = some s
        · obtain ⟨k, hk⟩ := he
          have hkl := dstOf_lt hk
          have e1 := (hc.new k hkl (hall k hkl)).2 s hk
          simp only at e1
          rw [e1]
          have hko : ops[k]? = some ops[k] := Array.getElem?_eq_getElem hkl
          have hkd : ops[k].dst = some s := by unfold dstOf at hk; rw [hko] at hk; simpa using hk
          rw [hg.2 k ops[k] (by rw [Array.getElem?_toList]; exact hko) hkd (fun j o' hj hd' => huniq j k s hk (by unfold dstOf; rw [← Array.getElem?_toList, hj]; simpa using hd'))]
          simp
        · rw [hg.1 (fun k o hk hd' => he ⟨k, by unfold dstOf; rw [← Array.getElem?_toList, hk]; simpa using hd'⟩)]
          exact hc.old s (fun k _ hk => he ⟨k, hk⟩)
      · rw [Array.getElem?_eq_none (by omega), Array.getElem?_eq_none (by rw [fillT_size]; omega)]
    rw [this]
    exact hend f w hw fun i hi => (hc.new i hi (hall i hi)).1
  intro fuel
  induction fuel with
  | zero =>
    intro f listed a w hls hn hw hc
    have hr : Region.ready .any ops listed = [] := by
      refine List.eq_nil_iff_forall_not_mem.2 fun j hj => ?_
      obtain ⟨hjun, oj, hoj, _⟩ := mem_ready.1 hj
      have hjl : j < listed.size := by rw [hls]; exact (Array.getElem?_eq_some_iff.1 hoj).1
      have : listed.toList.filter (· == false) = [] := List.length_eq_zero_iff.1 (by omega)
      rw [List.filter_eq_nil_iff] at this
      have h3 := this listed[j] (by simp)
      simp [Array.getD, hjl] at hjun
      simp [hjun] at h3
    exact ⟨hr, close f listed a w hls hw hc hr⟩
  | succ fuel ih =>
    intro f listed a w hls hn hw hc
    refine ⟨close f listed a w hls hw hc, fun i hi => ?_⟩
    obtain ⟨hiun, oi, hoi, hdep⟩ := mem_ready.1 hi
    have hil : i < ops.size := (Array.getElem?_eq_some_iff.1 hoi).1
    have hw1 : ∀ k, waits ops i k = true → listed.getD k false = true := fun k hk => by
      simp only [waits, hoi, Option.map_some, Option.getD_some] at hk
      obtain ⟨e, he, hb⟩ := Array.any_eq_true'.1 hk
      simp only [Bool.and_eq_true, beq_iff_eq] at hb
      rw [← hb.2]; exact hdep e he hb.1
    have hkl : ∀ k, listed.getD k false = true → k < ops.size := fun k hk => by
      rw [← hls]
      by_cases h : k < listed.size
      · exact h
      · simp [Array.getD, h] at hk
    have hif : listed.getD i false = false := by
      have : i < listed.size := by omega
      simp only [Array.getD, this, dif_pos] at hiun ⊢
      exact hiun
    refine wpOp_mono ?_ (hop i hil f a w hw (fun k hk => (hc.new k (hkl k (hw1 k hk)) (hw1 k hk)).1) (fun k s hk hs => (hc.new k (hkl k (hw1 k hk)) (hw1 k hk)).2 s hs)
      (fun s hs => hc.old s fun k hk => ?_))
    · rintro a' w' ⟨v, rfl, hp, hr⟩
      have hset : ∀ k, (listed.setIfInBounds i true).getD k false = true → k = i ∨ (k ≠ i ∧ listed.getD k false = true) := fun k hk => by
        by_cases hki : k = i
        · exact .inl hki
        · refine .inr ⟨hki, ?_⟩
          rwa [getD_set_ne false (Ne.symm hki)] at hk
      refine ih (fun k => if k = i then v else f k) _ _ _ (by simpa using hls) ?_ (hinv _ _ _ hw hr) ⟨?_, ?_, fun s hs => ?_, fun k hk hl => ?_, fun k j hk hj => ?_⟩
      · have h1 : i < listed.toList.length := by simp; omega
        have h2 : listed.toList[i]? = some false := by
          have h3 : i < listed.size := by omega
          simp only [Array.getD, h3, dif_pos] at hif
          rw [Array.getElem?_toList, Array.getElem?_eq_getElem h3]
          exact congrArg some hif
        have h4 : ∀ (l : List Bool) (i : Nat), l[i]? = some false → ((l.set i true).filter (· == false)).length + 1 = (l.filter (· == false)).length := by
          intro l
          induction l with
          | nil => intro i h; simp at h
          | cons b r ihr =>
            intro i h
            cases i with
            | zero => simp only [List.getElem?_cons_zero, Option.some.injEq] at h; subst h; simp
            | succ i => have := ihr i (by simpa using h); cases b <;> simp_all
        have h5 := h4 _ _ h2
        rw [Array.toList_setIfInBounds]
        omega
      · unfold Act.put; split <;> exact hc.defers
      · unfold Act.put; split <;> simp [hc.size]
      · have h1 : dstOf ops i ≠ some s := hs i (by rw [Array.getD_eq_getD_getElem?, Array.getElem?_setIfInBounds_self_of_lt (by omega)]; rfl)
        rw [show (a.put (dstOf ops i) v).tmps[s]? = a.tmps[s]? by
          unfold Act.put
          cases hdi : dstOf ops i with
          | none => rfl
          | some d => simp only; rw [Array.getElem?_setIfInBounds_ne (by rintro rfl; exact h1 hdi)]]
        refine hc.old s fun k hk => hs k ?_
        by_cases hki : i = k
        · subst hki; rw [hif] at hk; cases hk
        · rwa [getD_set_ne false hki]
      · rcases hset k hl with rfl | ⟨hki, hk2⟩
        · simp only [if_true]
          refine ⟨hp, fun s hs => ?_⟩
          unfold Act.put
          rw [hs]
          simp only
          rw [Array.getElem?_setIfInBounds_self_of_lt (by rw [hc.size]; exact hlt k s hs)]
        · simp only [if_neg hki]
          obtain ⟨h1, h2⟩ := hc.new k hk hk2
          have hnw : waits ops k i = false := by
            cases hwk : waits ops k i with
            | false => rfl
            | true => have := hc.closed k i hk2 hwk; rw [hif] at this; cases this
          refine ⟨hst _ _ _ _ _ hki hnw h1 hr, fun s hs => ?_⟩
          unfold Act.put
          cases hdi : dstOf ops i with
          | none => exact h2 s hs
          | some d => simp only; rw [Array.getElem?_setIfInBounds_ne (by rintro rfl; exact hki (huniq k i _ hdi hs))]; exact h2 s hs
      · have hj' : listed.getD j false = true := by
          rcases hset k hk with rfl | ⟨_, hk2⟩
          · exact hw1 j hj
          · exact hc.closed k j hk2 hj
        by_cases hji : i = j
        · subst hji; rw [hif] at hj'; cases hj'
        · rw [getD_set_ne false hji]; exact hj'
    · intro hks
      unfold noDstI at hs
      simp only [List.all_eq_true, List.mem_range, bne_iff_ne, Bool.or_eq_true] at hs
      rcases hs k (hkl k hk) with h1 | h1
      · exact h1 hks
      · have := hc.closed k i hk h1
        rw [hif] at this; cases this
theorem wp_region_posts {id : Nat} {a0 : Act} {w0 : World} {Inv : World → Prop} {Po : Nat → Value → World → Prop} {Rl : Nat → World → World → Prop} (hm : P.follows .mixedOrders = true)
    (hd : dstsOK ops a0.tmps.size = true) (hbk : backs ops = true) (h0 : Inv w0.drew) (hst : ∀ i j v w w', i ≠ j → waits ops i j = false → Po i v w → Rl j w w' → Po i v w') (hinv : ∀ j w w', Inv w → Rl j w w' → Inv w')
    (hop : ∀ i, i < ops.size → ∀ (f : Nat → Value) (a : Act) (w : World), Inv w → (∀ k, waits ops i k = true → Po k (f k) w) →
      (∀ k s, waits ops i k = true → dstOf ops k = some s → a.tmps[s]? = some (f k)) → (∀ s, noDstI ops i s = true → a.tmps[s]? = a0.tmps[s]?) →
      wpOp P ops Q i (fun a' w' => ∃ v, a' = a.put (dstOf ops i) v ∧ Po i v w' ∧ Rl i w w') a w)
    (hend : ∀ (f : Nat → Value) (w : World), Inv w → (∀ i, i < ops.size → Po i (f i) w) → Q .normal ⟨fillT f 0 ops.toList a0.tmps, a0.defers⟩ w) :
    (Code.region id ops true).wp P Q a0 w0 := by
  have hno : ∀ k, (Array.replicate ops.size false).getD k false = false := fun k => by
    simp only [Array.getD_eq_getD_getElem?, Array.getElem?_replicate]
    split <;> rfl
  refine wp_region_any hm (wpAny_posts hd hst hinv hop hend hbk ops.size (fun _ => undef) (Array.replicate ops.size false) a0 w0.drew (by simp) ?_ h0 ⟨rfl, rfl, fun _ _ => rfl, fun k _ hk => ?_, fun k j hk _ => ?_⟩)
  · refine Nat.le_trans (List.length_filter_le _ _) (by simp)
  · rw [hno] at hk; cases hk
  · rw [hno] at hk; cases hk
def Ans (P : Program) (ev : Operand → Value) (o : Oper) (w : World) (R : Value → World → Prop) : Prop :=
  match (execOp ev o).run P w with
  | .ok (.value v) w' => R v w'
  | .ok .skip w' => R undef w'
  | .ok (.enter f args) w' => Calls P f args w' fun e w'' => ∃ v, e = .returned v ∧ R v w''
  | .ok (.row row args) w' => Rows P row args w' fun v w'' => R v w''
  | _ => False
theorem wpOp_ans {i : Nat} {o : Oper} {a : Act} {w : World} {R : Value → World → Prop} (hi : ops[i]? = some o)
    (h : (Region.wanted o (yielded ops a.tmps) = true ∧ Ans P a.eval o w R) ∨ (Region.wanted o (yielded ops a.tmps) = false ∧ R undef w)) :
    wpOp P ops Q i (fun a' w' => ∃ v, a' = a.put (dstOf ops i) v ∧ R v w') a w := by
  have hd : dstOf ops i = o.dst := by simp [dstOf, hi]
  unfold Go.wpOp
  simp only [hi]
  rw [hd]
  rcases h with ⟨hw, h⟩ | ⟨hw, h⟩
  · rw [if_pos hw]
    left
    unfold Oper.wp
    unfold Ans at h
    generalize (execOp a.eval o).run P w = r at *
    cases r with
    | ok n w' =>
      cases n <;> simp only [Oper.upon] at h ⊢
      case value v => exact ⟨v, rfl, h⟩
      case skip => exact ⟨_, rfl, h⟩
      case enter f args => exact h.mono fun e w'' he => by obtain ⟨v, rfl, hr⟩ := he; exact ⟨v, rfl, hr⟩
      case row row args => exact Rows.mono h fun u w'' he => ⟨u, rfl, he⟩
    | halt x w' => cases x <;> simp only at h
  · rw [if_neg (by simp [hw])]
    exact ⟨_, rfl, h⟩
theorem want0 {o : Oper} {f : Nat → Option Bool} (h : o.guard = none) : Region.wanted o f = true := by
  simp [Region.wanted, h]
theorem wp_region_eachJ {id : Nat} {a0 : Act} {w0 : World} {Inv : World → Prop} {Po : Nat → Value → World → Prop} {Rl : Nat → World → World → Prop} (hm : P.follows .mixedOrders = true)
    (hd : dstsOK ops a0.tmps.size = true) (hbk : backs ops = true) (h0 : Inv w0.drew) (hst : ∀ i j v w w', i ≠ j → waits ops i j = false → Po i v w → Rl j w w' → Po i v w') (hinv : ∀ j w w', Inv w → Rl j w w' → Inv w')
    (hop : ∀ i o, ops.toList[i]? = some o → ∀ (f : Nat → Value) (a : Act) (w : World), Inv w → (∀ k, waits ops i k = true → Po k (f k) w) →
      (∀ k s, waits ops i k = true → dstOf ops k = some s → a.tmps[s]? = some (f k)) → (∀ s, noDstI ops i s = true → a.tmps[s]? = a0.tmps[s]?) →
      (Region.wanted o (yielded ops a.tmps) = true ∧ Ans P a.eval o w (fun v w' => Po i v w' ∧ Rl i w w')) ∨ (Region.wanted o (yielded ops a.tmps) = false ∧ Po i undef w ∧ Rl i w w))
    (hend : ∀ (f : Nat → Value) (w : World), Inv w → (∀ i, i < ops.size → Po i (f i) w) → Q .normal ⟨fillT f 0 ops.toList a0.tmps, a0.defers⟩ w) :
    (Code.region id ops true).wp P Q a0 w0 :=
  wp_region_posts hm hd hbk h0 hst hinv (fun i hi f a w h1 h2 h3 h4 =>
    wpOp_ans (Array.getElem?_eq_getElem hi) (hop i _ (by rw [Array.getElem?_toList, Array.getElem?_eq_getElem hi]) f a w h1 h2 h3 h4)) hend
theorem wp_region_each {id : Nat} {a0 : Act} {w0 : World} {Inv : World → Prop} {Po : Nat → Value → World → Prop} {Rl : World → World → Prop} (hm : P.follows .mixedOrders = true)
    (hd : dstsOK ops a0.tmps.size = true) (hbk : backs ops = true) (h0 : Inv w0.drew) (hst : ∀ i v w w', Po i v w → Rl w w' → Po i v w') (hinv : ∀ w w', Inv w → Rl w w' → Inv w')
    (hop : ∀ i o, ops.toList[i]? = some o → ∀ (f : Nat → Value) (a : Act) (w : World), Inv w → (∀ k, waits ops i k = true → Po k (f k) w) →
      (∀ k s, waits ops i k = true → dstOf ops k = some s → a.tmps[s]? = some (f k)) → (∀ s, noDstI ops i s = true → a.tmps[s]? = a0.tmps[s]?) →
      (Region.wanted o (yielded ops a.tmps) = true ∧ Ans P a.eval o w (fun v w' => Po i v w' ∧ Rl w w')) ∨ (Region.wanted o (yielded ops a.tmps) = false ∧ Po i undef w ∧ Rl w w))
    (hend : ∀ (f : Nat → Value) (w : World), Inv w → (∀ i, i < ops.size → Po i (f i) w) → Q .normal ⟨fillT f 0 ops.toList a0.tmps, a0.defers⟩ w) :
    (Code.region id ops true).wp P Q a0 w0 :=
  wp_region_eachJ (Rl := fun _ => Rl) hm hd hbk h0 (fun i _ v w w' _ _ => hst i v w w') (fun _ => hinv) hop hend
end
end Go.Proofs.Ytlpmfkpefoegeab
