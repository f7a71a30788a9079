/-
  Terms with all that is bound in them: one behind the other.
  A statement whose order Go leaves open: what each operation leaves is told by itself; whatever the order, at the end all of it holds.
  A statement whose order Go leaves open up to its last steps: the first operations told each by itself; then the last ones, in their order.
-/
import Derived.Test.YtlpmfkpefoegeabDoorPSolve2
import Derived.Test.YtlpmfkpefoegeabDoorQReg
namespace Go.Proofs.YtlpmfkpefoegeabDoor
set_option linter.unusedVariables false
set_option linter.unusedSimpArgs false
theorem flL_app (E : Env) : ∀ (w : Nat) (s r : List Tm), flL E w (s ++ r) = match flL E w s with
    | none => none
    | some (ts, w1) => match flL E w1 r with
      | none => none
      | some (rs, w2) => some (ts ++ rs, w2) := by
  intro w
  induction w using Nat.strongRecOn with
  | _ w ih =>
    intro s r
    match w, s, ih with
    | w, [], _ =>
      rw [flL_nil, List.nil_append]
      simp only [List.nil_append]
      cases flL E w r with
      | none => rfl
      | some p => rfl
    | 0, a :: s, _ => rw [List.cons_append, flL_zero, flL_zero]
    | w + 1, a :: s, ih =>
      rw [List.cons_append, flL.eq_def E (w + 1) (a :: (s ++ r)), flL.eq_def E (w + 1) (a :: s)]
      simp only
      cases h1 : flL E w (slook E a).args with
      | none => rfl
      | some p =>
        obtain ⟨ts1, w1⟩ := p
        simp only
        rw [ih (min w w1) (by omega) s r]
        cases h2 : flL E (min w w1) s with
        | none => rfl
        | some p =>
          obtain ⟨ts2, w2⟩ := p
          simp only
          cases h3 : flL E w2 r with
          | none => rfl
          | some p => rfl
theorem flL_one (E : Env) (k : Nat) (z : Tm) : flL E (k + 1) [z] = match flL E k (slook E z).args with
    | none => none
    | some (ts, w1) => some ([.mk (slook E z).kind (slook E z).n (slook E z).s ts], w1) := by
  rw [flL]
  cases h1 : flL E k (slook E z).args with
  | none => rfl
  | some p =>
    obtain ⟨ts1, w1⟩ := p
    have := (flL_le E k _ _ _ h1).1
    simp only [flL_nil, Nat.min_eq_right this]
theorem flL_none (E : Env) (w : Nat) (s r : List Tm) (h : flL E w s = none) : flL E w (s ++ r) = none := by rw [flL_app, h]
theorem flL_next (E : Env) (k : Nat) (l : List Tm) (j : Nat) (hj : j < l.length) (ts : List Tm) (m : Nat) (h : flL E k (l.take j) = some (ts, m)) : flL E k (l.take (j + 1)) = match flL E m [l[j]] with
    | none => none
    | some (rs, w2) => some (ts ++ rs, w2) := by
  rw [List.take_succ_eq_append_getElem hj, flL_app, h]
end Go.Proofs.YtlpmfkpefoegeabDoor

namespace Go.Proofs.YtlpmfkpefoegeabDoor
set_option linter.unusedVariables false
set_option linter.unusedSimpArgs false
open Go.RowKit
section
variable {P : Program} {ops : Array Oper} {Q : Exit → Act → World → Prop}
def dstOf (ops : Array Oper) (k : Nat) : Option Nat := (ops[k]?).bind (·.dst)
theorem dstOf_lt {k s : Nat} (h : dstOf ops k = some s) : k < ops.size := by
  unfold dstOf at h
  cases hk : ops[k]? with
  | none => rw [hk] at h; simp at h
  | some o => exact (Array.getElem?_eq_some_iff.1 hk).1
def fillT (f : Nat → Value) : Nat → List Oper → Array Value → Array Value
  | _, [], t => t
  | i, o :: r, t => fillT f (i + 1) r (match o.dst with | some s => t.setIfInBounds s (f i) | none => t)
theorem fillT_size (f : Nat → Value) : ∀ (l : List Oper) (i : Nat) (t : Array Value), (fillT f i l t).size = t.size
  | [], _, _ => rfl
  | o :: r, i, t => by
    unfold fillT
    rw [fillT_size f r]
    cases o.dst <;> simp
theorem fillT_get (f : Nat → Value) (s : Nat) : ∀ (l : List Oper) (i : Nat) (t : Array Value), s < t.size →
    ((∀ (k : Nat) (o : Oper), l[k]? = some o → o.dst ≠ some s) → (fillT f i l t)[s]? = t[s]?) ∧
    (∀ (k : Nat) (o : Oper), l[k]? = some o → o.dst = some s → (∀ (j : Nat) (o' : Oper), l[j]? = some o' → o'.dst = some s → j = k) → (fillT f i l t)[s]? = some (f (i + k)))
  | [], _, _, _ => ⟨fun _ => rfl, fun k o h => by simp at h⟩
  | o :: r, i, t, hs => by
    unfold fillT
    have hs' : s < (match o.dst with | some s => t.setIfInBounds s (f i) | none => t).size := by cases o.dst <;> simpa using hs
    have ih := fillT_get f s r (i + 1) _ hs'
    refine ⟨fun h => ?_, fun k o' hk hd hu => ?_⟩
    · rw [ih.1 (fun k o' hk => h (k + 1) o' (by simpa using hk))]
      have h0 := h 0 o (by simp)
      cases hd : o.dst with
      | none => rfl
      | some d => simp only; rw [Array.getElem?_setIfInBounds_ne (by rintro rfl; exact h0 hd)]
    · cases k with
      | zero =>
        simp only [List.getElem?_cons_zero, Option.some.injEq] at hk
        subst hk
        rw [ih.1 (fun j o' hj hd' => by have := hu (j + 1) o' (by simpa using hj) hd'; omega)]
        simp only [hd, Nat.add_zero]
        rw [Array.getElem?_setIfInBounds_self_of_lt hs]
      | succ k =>
        rw [ih.2 k o' (by simpa using hk) hd (fun j o'' hj hd' => by have := hu (j + 1) o'' (by simpa using hj) hd'; omega)]
        congr 2; omega
def backs (ops : Array Oper) : Bool := (List.range ops.size).all fun i => ((ops[i]?).map fun o => o.after.all fun e => !Region.binds .any e || decide (e.on < i)).getD true
theorem backs_all (h : backs ops = true) (listed : Array Bool) (hls : listed.size = ops.size) (hr : Region.ready .any ops listed = []) : ∀ k, k < ops.size → listed.getD k false = true := by
  intro k
  induction k using Nat.strongRecOn with
  | _ k ih =>
    intro hk
    have hlk : k < listed.size := by omega
    cases hb : listed.getD k false with
    | true => rfl
    | false =>
      exfalso
      have : k ∈ Region.ready .any ops listed := by
        refine mem_ready.2 ⟨?_, ops[k], Array.getElem?_eq_getElem hk, fun e he hbi => ?_⟩
        · simp only [Array.getD, hlk, dif_pos] at hb ⊢
          exact hb
        · have hlt : e.on < k := by
            unfold backs at h
            simp only [List.all_eq_true, List.mem_range] at h
            have h1 := h k hk
            rw [Array.getElem?_eq_getElem hk] at h1
            simp only [Option.map_some, Option.getD_some, Array.all_eq_true_iff_forall_mem] at h1
            have h2 := h1 e he
            simp only [hbi, Bool.not_true, Bool.false_or, decide_eq_true_eq] at h2
            exact h2
          exact ih e.on hlt (by omega)
      rw [hr] at this
      cases this
structure Come (ops : Array Oper) (Po : Nat → Value → World → Prop) (a0 : Act) (f : Nat → Value) (listed : Array Bool) (a : Act) (w : World) : Prop where
  defers : a.defers = a0.defers
  size : a.tmps.size = a0.tmps.size
  old : ∀ s, (∀ k, listed.getD k false = true → dstOf ops k ≠ some s) → a.tmps[s]? = a0.tmps[s]?
  new : ∀ k, k < ops.size → listed.getD k false = true → Po k (f k) w ∧ ∀ s, dstOf ops k = some s → a.tmps[s]? = some (f k)
  closed : ∀ k j, listed.getD k false = true → waits ops k j = true → listed.getD j false = true
def Ans (P : Program) (ev : Operand → Value) (o : Oper) (w : World) (R : Value → World → Prop) : Prop :=
  match (execOp ev o).run P w with
  | .ok (.value v) w' => R v w'
  | .ok .skip w' => R undef w'
  | .ok (.enter f args) w' => Calls P f args w' fun e w'' => ∃ v, e = .returned v ∧ R v w''
  | .ok (.row row args) w' => Rows P row args w' fun v w'' => R v w''
  | _ => False
theorem wpOp_ans {i : Nat} {o : Oper} {a : Act} {w : World} {R : Value → World → Prop} (hi : ops[i]? = some o)
    (h : (Region.wanted o (yielded ops a.tmps) = true ∧ Ans P a.eval o w R) ∨ (Region.wanted o (yielded ops a.tmps) = false ∧ R undef w)) :
    wpOp P ops Q i (fun a' w' => ∃ v, a' = a.put (dstOf ops i) v ∧ R v w') a w := by
  have hd : dstOf ops i = o.dst := by simp [dstOf, hi]
  unfold Go.wpOp
  simp only [hi]
  rw [hd]
  rcases h with ⟨hw, h⟩ | ⟨hw, h⟩
  · rw [if_pos hw]
    left
    unfold Oper.wp
    unfold Ans at h
    generalize (execOp a.eval o).run P w = r at *
    cases r with
    | ok n w' =>
      cases n <;> simp only [Oper.upon] at h ⊢
      case value v => exact ⟨v, rfl, h⟩
      case skip => exact ⟨_, rfl, h⟩
      case enter f args => exact h.mono fun e w'' he => by obtain ⟨v, rfl, hr⟩ := he; exact ⟨v, rfl, hr⟩
      case row row args => exact Rows.mono h fun u w'' he => ⟨u, rfl, he⟩
    | halt x w' => cases x <;> simp only at h
  · rw [if_neg (by simp [hw])]
    exact ⟨_, rfl, h⟩
theorem want0 {o : Oper} {f : Nat → Option Bool} (h : o.guard = none) : Region.wanted o f = true := by
  simp [Region.wanted, h]
end
end Go.Proofs.YtlpmfkpefoegeabDoor

namespace Go.Proofs.YtlpmfkpefoegeabDoor
set_option linter.unusedVariables false
set_option linter.unusedSimpArgs false
open Go.RowKit
section
variable {P : Program} {ops : Array Oper} {Q : Exit → Act → World → Prop}
def tailOK (ops : Array Oper) (L : Nat) : Bool := decide (L ≤ ops.size) && (List.range ops.size).all fun i => decide (i < L) || (List.range L).all fun k => waits ops i k
def noDstL (ops : Array Oper) (L s : Nat) : Bool := (List.range L).all fun k => dstOf ops k != some s
def dstsOKL (ops : Array Oper) (L n : Nat) : Bool :=
  (List.range L).all fun k => (match dstOf ops k with | some s => decide (s < n) | none => true) && (List.range L).all fun j => j == k || dstOf ops j == none || dstOf ops j != dstOf ops k
theorem dstsOKL_spec {L n : Nat} (h : dstsOKL ops L n = true) : (∀ k s, k < L → dstOf ops k = some s → s < n) ∧ ∀ j k s, j < L → k < L → dstOf ops k = some s → dstOf ops j = some s → j = k := by
  unfold dstsOKL at h
  simp only [List.all_eq_true, List.mem_range, Bool.and_eq_true, Bool.or_eq_true, beq_iff_eq, bne_iff_ne] at h
  refine ⟨fun k s hkL hk => ?_, fun j k s hjL hkL hk hj => ?_⟩
  · have := (h k hkL).1
    rw [hk] at this
    simpa using this
  · have := (h k hkL).2 j hjL
    rcases this with (h1 | h1) | h1
    · exact h1
    · rw [hj] at h1; cases h1
    · rw [hj, hk] at h1; exact absurd rfl h1
structure ComeL (ops : Array Oper) (L : Nat) (Po : Nat → Value → World → Prop) (a0 : Act) (f : Nat → Value) (listed : Array Bool) (a : Act) (w : World) : Prop where
  defers : a.defers = a0.defers
  size : a.tmps.size = a0.tmps.size
  old : ∀ s, (∀ k, listed.getD k false = true → dstOf ops k ≠ some s) → a.tmps[s]? = a0.tmps[s]?
  new : ∀ k, k < L → listed.getD k false = true → Po k (f k) w ∧ ∀ s, dstOf ops k = some s → a.tmps[s]? = some (f k)
  front : ∀ k, listed.getD k false = true → k < L
theorem wpAny_front {L : Nat} {a0 : Act} {Inv : World → Prop} {Po : Nat → Value → World → Prop} {Rl : World → World → Prop}
    (ht : tailOK ops L = true) (hd : dstsOKL ops L a0.tmps.size = true) (hst : ∀ i v w w', Po i v w → Rl w w' → Po i v w') (hinv : ∀ w w', Inv w → Rl w w' → Inv w')
    (hop : ∀ i, i < L → ∀ (f : Nat → Value) (a : Act) (w : World), Inv w → (∀ k, waits ops i k = true → Po k (f k) w) →
      (∀ k s, waits ops i k = true → dstOf ops k = some s → a.tmps[s]? = some (f k)) → (∀ s, noDstL ops L s = true → a.tmps[s]? = a0.tmps[s]?) →
      wpOp P ops Q i (fun a' w' => ∃ v, a' = a.put (dstOf ops i) v ∧ Po i v w' ∧ Rl w w') a w)
    (hend : ∀ (f : Nat → Value) (w : World), Inv w → (∀ i, i < L → Po i (f i) w) →
      wpAny P .any ops Q (ops.size - L) (List.replicate L true ++ List.replicate (ops.size - L) false).toArray ⟨fillT f 0 (ops.toList.take L) a0.tmps, a0.defers⟩ w)
    (hbk : backs ops = true) :
    ∀ (fuel : Nat) (f : Nat → Value) (listed : Array Bool) (a : Act) (w : World), listed.size = ops.size → (listed.toList.filter (· == false)).length = fuel → Inv w → ComeL ops L Po a0 f listed a w →
      wpAny P .any ops Q fuel listed a w := by
  obtain ⟨hlt, huniq⟩ := dstsOKL_spec hd
  unfold tailOK at ht
  simp only [Bool.and_eq_true, decide_eq_true_eq, List.all_eq_true, List.mem_range, Bool.or_eq_true] at ht
  obtain ⟨hL, htail⟩ := ht
  -- all of the first have come up
  have close : ∀ (fuel : Nat) (f : Nat → Value) (listed : Array Bool) (a : Act) (w : World), listed.size = ops.size → (listed.toList.filter (· == false)).length = fuel → Inv w → ComeL ops L Po a0 f listed a w →
      (∀ k, k < L → listed.getD k false = true) → wpAny P .any ops Q fuel listed a w := by
    intro fuel f listed a w hls hn hw hc hall
    have hl : listed = (List.replicate L true ++ List.replicate (ops.size - L) false).toArray := by
      apply Array.ext
      · simp; omega
      · intro i h1 h2
        have h3 : listed.getD i false = listed[i] := by simp [Array.getD, h1]
        by_cases hi : i < L
        · have h4 := hall i hi
          rw [h3] at h4
          rw [h4]
          simp only [List.getElem_toArray]
          rw [List.getElem_append_left (by simpa using hi)]
          simp
        · have h4 : listed[i] = false := by
            cases hx : listed[i] with
            | false => rfl
            | true => exact absurd (hc.front i (by rw [h3]; exact hx)) hi
          rw [h4]
          simp only [List.getElem_toArray]
          rw [List.getElem_append_right (by simp; omega)]
          simp
    have hf : fuel = ops.size - L := by
      rw [← hn, hl]
      simp
    have : a = ⟨fillT f 0 (ops.toList.take L) a0.tmps, a0.defers⟩ := by
      obtain ⟨t, d⟩ := a
      have h1 := hc.defers
      have h2 := hc.size
      simp only at h1 h2
      subst h1
      congr 1
      refine Array.ext_getElem? fun s => ?_
      have hto : ∀ (k : Nat) (o : Oper), (ops.toList.take L)[k]? = some o → k < L ∧ ops[k]? = some o := fun k o hk => by
        have hkl := (List.getElem?_eq_some_iff.1 hk).1
        simp only [List.length_take] at hkl
        rw [List.getElem?_take_of_lt (by omega), Array.getElem?_toList] at hk
        exact ⟨by omega, hk⟩
      by_cases hs : s < a0.tmps.size
      · have hg := fillT_get f s (ops.toList.take L) 0 a0.tmps hs
        by_cases he : ∃ k, k < L ∧ dstOf ops k = some s
        · obtain ⟨k, hkL, hk⟩ := he
          have hkl := dstOf_lt hk
          have e1 := (hc.new k hkL (hall k hkL)).2 s hk
          simp only at e1
          rw [e1]
          have hko : ops[k]? = some ops[k] := Array.getElem?_eq_getElem hkl
          have hkd : ops[k].dst = some s := by unfold dstOf at hk; rw [hko] at hk; simpa using hk
          rw [hg.2 k ops[k] (by rw [List.getElem?_take_of_lt hkL, Array.getElem?_toList]; exact hko) hkd (fun j o' hj hd' => by
            obtain ⟨hjL, hj'⟩ := hto j o' hj
            exact huniq j k s hjL hkL hk (by unfold dstOf; rw [hj']; simpa using hd'))]
          simp
        · rw [hg.1 (fun k o hk hd' => by
            obtain ⟨hkL, hk'⟩ := hto k o hk
            exact he ⟨k, hkL, by unfold dstOf; rw [hk']; simpa using hd'⟩)]
          exact hc.old s (fun k hkl hk => he ⟨k, hc.front k hkl, hk⟩)
      · rw [Array.getElem?_eq_none (by omega), Array.getElem?_eq_none (by rw [fillT_size]; omega)]
    rw [this, hl, hf]
    exact hend f w hw fun i hi => (hc.new i hi (hall i hi)).1
  intro fuel
  induction fuel with
  | zero =>
    intro f listed a w hls hn hw hc
    refine close 0 f listed a w hls hn hw hc fun k hk => ?_
    have h0 : listed.toList.filter (· == false) = [] := List.length_eq_zero_iff.1 hn
    rw [List.filter_eq_nil_iff] at h0
    have h1 : k < listed.size := by omega
    have h3 := h0 listed[k] (by simp)
    simp [Array.getD, h1]
    simpa using h3
  | succ fuel ih =>
    intro f listed a w hls hn hw hc
    by_cases hall : ∀ k, k < L → listed.getD k false = true
    · exact close _ f listed a w hls hn hw hc hall
    have hex : ∃ k0, k0 < L ∧ listed.getD k0 false = false := by
      refine Classical.byContradiction fun hne => hall fun k hk => ?_
      cases hx : listed.getD k false with
      | true => rfl
      | false => exact absurd ⟨k, hk, hx⟩ hne
    obtain ⟨k0, hk0, hun0⟩ := hex
    refine ⟨fun hr => ?_, fun i hi => ?_⟩
    · have := backs_all hbk listed hls hr k0 (by omega)
      rw [hun0] at this; cases this
    obtain ⟨hiun, oi, hoi, hdep⟩ := mem_ready.1 hi
    have hil : i < ops.size := (Array.getElem?_eq_some_iff.1 hoi).1
    have hw1 : ∀ k, waits ops i k = true → listed.getD k false = true := fun k hk => by
      simp only [waits, hoi, Option.map_some, Option.getD_some] at hk
      obtain ⟨e, he, hb⟩ := Array.any_eq_true'.1 hk
      simp only [Bool.and_eq_true, beq_iff_eq] at hb
      rw [← hb.2]; exact hdep e he hb.1
    have hiL : i < L := by
      refine Classical.byContradiction fun hge => ?_
      rcases htail i hil with h1 | h1
      · exact hge h1
      · have := hw1 k0 (h1 k0 hk0)
        rw [hun0] at this; cases this
    have hif : listed.getD i false = false := by
      have : i < listed.size := by omega
      simp only [Array.getD, this, dif_pos] at hiun ⊢
      exact hiun
    refine wpOp_mono ?_ (hop i hiL f a w hw (fun k hk => (hc.new k (hc.front k (hw1 k hk)) (hw1 k hk)).1) (fun k s hk hs => (hc.new k (hc.front k (hw1 k hk)) (hw1 k hk)).2 s hs)
      (fun s hs => hc.old s fun k hk => ?_))
    · rintro a' w' ⟨v, rfl, hp, hr⟩
      have hset : ∀ k, (listed.setIfInBounds i true).getD k false = true → k = i ∨ (k ≠ i ∧ listed.getD k false = true) := fun k hk => by
        by_cases hki : k = i
        · exact .inl hki
        · refine .inr ⟨hki, ?_⟩
          rwa [getD_set_ne false (Ne.symm hki)] at hk
      refine ih (fun k => if k = i then v else f k) _ _ _ (by simpa using hls) ?_ (hinv _ _ hw hr) ⟨?_, ?_, fun s hs => ?_, fun k hk hl => ?_, fun k hk => ?_⟩
      · have h2 : listed.toList[i]? = some false := by
          have h3 : i < listed.size := by omega
          simp only [Array.getD, h3, dif_pos] at hif
          rw [Array.getElem?_toList, Array.getElem?_eq_getElem h3]
          exact congrArg some hif
        have h4 : ∀ (l : List Bool) (i : Nat), l[i]? = some false → ((l.set i true).filter (· == false)).length + 1 = (l.filter (· == false)).length := by
          intro l
          induction l with
          | nil => intro i h; simp at h
          | cons b r ihr =>
            intro i h
            cases i with
            | zero => simp only [List.getElem?_cons_zero, Option.some.injEq] at h; subst h; simp
            | succ i => have := ihr i (by simpa using h); cases b <;> simp_all
        have h5 := h4 _ _ h2
        rw [Array.toList_setIfInBounds]
        omega
      · unfold Act.put; split <;> exact hc.defers
      · unfold Act.put; split <;> simp [hc.size]
      · have h1 : dstOf ops i ≠ some s := hs i (by rw [Array.getD_eq_getD_getElem?, Array.getElem?_setIfInBounds_self_of_lt (by omega)]; rfl)
        rw [show (a.put (dstOf ops i) v).tmps[s]? = a.tmps[s]? by
          unfold Act.put
          cases hdi : dstOf ops i with
          | none => rfl
          | some d => simp only; rw [Array.getElem?_setIfInBounds_ne (by rintro rfl; exact h1 hdi)]]
        refine hc.old s fun k hk => hs k ?_
        by_cases hki : i = k
        · subst hki; rw [hif] at hk; cases hk
        · rwa [getD_set_ne false hki]
      · rcases hset k hl with rfl | ⟨hki, hk2⟩
        · simp only [if_true]
          refine ⟨hp, fun s hs => ?_⟩
          unfold Act.put
          rw [hs]
          simp only
          rw [Array.getElem?_setIfInBounds_self_of_lt (by rw [hc.size]; exact hlt k s hk hs)]
        · simp only [if_neg hki]
          obtain ⟨h1, h2⟩ := hc.new k hk hk2
          refine ⟨hst _ _ _ _ h1 hr, fun s hs => ?_⟩
          unfold Act.put
          cases hdi : dstOf ops i with
          | none => exact h2 s hs
          | some d => simp only; rw [Array.getElem?_setIfInBounds_ne (by rintro rfl; exact hki (huniq k i _ hk hiL hdi hs))]; exact h2 s hs
      · rcases hset k hk with rfl | ⟨_, hk2⟩
        · exact hiL
        · exact hc.front k hk2
    · intro hks
      unfold noDstL at hs
      simp only [List.all_eq_true, List.mem_range, bne_iff_ne] at hs
      exact hs k (hc.front k hk) hks
theorem wpAny_only {i : Nat} {fuel : Nat} {listed : Array Bool} {a : Act} {w : World} (hr : Region.ready .any ops listed = [i])
    (h : wpOp P ops Q i (wpAny P .any ops Q fuel (listed.setIfInBounds i true)) a w) : wpAny P .any ops Q (fuel + 1) listed a w :=
  ⟨fun h0 => (by rw [hr] at h0; cases h0), fun j hj => (by rw [hr] at hj; simp only [List.mem_singleton] at hj; subst hj; exact h)⟩
theorem wpAny_all {listed : Array Bool} {a : Act} {w : World} (hr : Region.ready .any ops listed = []) (h : Q .normal a w) :
    ∀ fuel, wpAny P .any ops Q fuel listed a w
  | 0 => ⟨hr, h⟩
  | _ + 1 => ⟨fun _ => h, by rw [hr]; simp⟩
theorem wp_region_front {id : Nat} (L : Nat) {a0 : Act} {w0 : World} {Inv : World → Prop} {Po : Nat → Value → World → Prop} {Rl : World → World → Prop} (hm : P.follows .mixedOrders = true)
    (ht : tailOK ops L = true) (hd : dstsOKL ops L a0.tmps.size = true) (hbk : backs ops = true) (h0 : Inv w0.drew) (hst : ∀ i v w w', Po i v w → Rl w w' → Po i v w') (hinv : ∀ w w', Inv w → Rl w w' → Inv w')
    (hop : ∀ i o, (ops.toList.take L)[i]? = some o → ∀ (f : Nat → Value) (a : Act) (w : World), Inv w → (∀ k, waits ops i k = true → Po k (f k) w) →
      (∀ k s, waits ops i k = true → dstOf ops k = some s → a.tmps[s]? = some (f k)) → (∀ s, noDstL ops L s = true → a.tmps[s]? = a0.tmps[s]?) →
      (Region.wanted o (yielded ops a.tmps) = true ∧ Ans P a.eval o w (fun v w' => Po i v w' ∧ Rl w w')) ∨ (Region.wanted o (yielded ops a.tmps) = false ∧ Po i undef w ∧ Rl w w))
    (hend : ∀ (f : Nat → Value) (w : World), Inv w → (∀ i, i < L → Po i (f i) w) →
      wpAny P .any ops Q (ops.size - L) (List.replicate L true ++ List.replicate (ops.size - L) false).toArray ⟨fillT f 0 (ops.toList.take L) a0.tmps, a0.defers⟩ w) :
    (Code.region id ops true).wp P Q a0 w0 := by
  have hno : ∀ k, (Array.replicate ops.size false).getD k false = false := fun k => by
    simp only [Array.getD_eq_getD_getElem?, Array.getElem?_replicate]
    split <;> rfl
  have hL : L ≤ ops.size := by
    unfold tailOK at ht
    simp only [Bool.and_eq_true, decide_eq_true_eq] at ht
    exact ht.1
  refine wp_region_any hm (wpAny_front ht hd hst hinv (fun i hi f a w h1 h2 h3 h4 => ?_) hend hbk ops.size (fun _ => undef) (Array.replicate ops.size false) a0 w0.drew (by simp) ?_ h0 ⟨rfl, rfl, fun _ _ => rfl, fun k _ hk => ?_, fun k hk => ?_⟩)
  · have hil : i < ops.size := by omega
    exact wpOp_ans (Array.getElem?_eq_getElem hil) (hop i _ (by rw [List.getElem?_take_of_lt hi, Array.getElem?_toList, Array.getElem?_eq_getElem hil]) f a w h1 h2 h3 h4)
  · simp
  · rw [hno] at hk; cases hk
  · rw [hno] at hk; cases hk
end
end Go.Proofs.YtlpmfkpefoegeabDoor
