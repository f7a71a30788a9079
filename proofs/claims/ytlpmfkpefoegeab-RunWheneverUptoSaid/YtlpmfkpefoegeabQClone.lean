/-
  Copies of slices and of heaps.
-/
import Derived.Test.YtlpmfkpefoegeabQAny
import Derived.Test.YtlpmfkpefoegeabQRen
import Derived.Test.YtlpmfkpefoegeabQNamed
namespace Go.Proofs.Ytlpmfkpefoegeab
set_option linter.unusedVariables false
set_option linter.unusedSimpArgs false
open Go.RowKit
section
variable {P : Program} {ops : Array Oper} {Q : Exit → Act → World → Prop}
def tailOK (ops : Array Oper) (L : Nat) : Bool := decide (L ≤ ops.size) && (List.range ops.size).all fun i => decide (i < L) || (List.range L).all fun k => waits ops i k
def noDstL (ops : Array Oper) (L s : Nat) : Bool := (List.range L).all fun k => dstOf ops k != some s
def dstsOKL (ops : Array Oper) (L n : Nat) : Bool :=
  (List.range L).all fun k => (match dstOf ops k with | some s => decide (s < n) | none => true) && (List.range L).all fun j => j == k || dstOf ops j == none || dstOf ops j != dstOf ops k
theorem dstsOKL_spec {L n : Nat} (h : dstsOKL ops L n = true) : (∀ k s, k < L → dstOf ops k = some s → s < n) ∧ ∀ j k s, j < L → k < L → dstOf ops k = some s → dstOf ops j = some s → j = k := by
  unfold dstsOKL at h
  simp only [List.all_eq_true, List.mem_range, Bool.and_eq_true, Bool.or_eq_true, beq_iff_eq, bne_iff_ne] at h
  refine ⟨fun k s hkL hk => ?_, fun j k s hjL hkL hk hj => ?_⟩
  · have := (h k hkL).1
    rw [hk] at this
    simpa using this
  · have := (h k hkL).2 j hjL
    rcases this with (h1 | h1) | h1
    · exact h1
    · rw [hj] at h1; cases h1
    · rw [hj, hk] at h1; exact absurd rfl h1
structure ComeL (ops : Array Oper) (L : Nat) (Po : Nat → Value → World → Prop) (a0 : Act) (f : Nat → Value) (listed : Array Bool) (a : Act) (w : World) : Prop where
  defers : a.defers = a0.defers
  size : a.tmps.size = a0.tmps.size
  old : ∀ s, (∀ k, listed.getD k false = true → dstOf ops k ≠ some s) → a.tmps[s]? = a0.tmps[s]?
  new : ∀ k, k < L → listed.getD k false = true → Po k (f k) w ∧ ∀ s, dstOf ops k = some s → a.tmps[s]? = some (f k)
  front : ∀ k, listed.getD k false = true → k < L
theorem wpAny_front {L : Nat} {a0 : Act} {Inv : World → Prop} {Po : Nat → Value → World → Prop} {Rl : World → World → Prop}
    (ht : tailOK ops L = true) (hd : dstsOKL ops L a0.tmps.size = true) (hst : ∀ i v w w', Po i v w → Rl w w' → Po i v w') (hinv : ∀ w w', Inv w → Rl w w' → Inv w')
    (hop : ∀ i, i < L → ∀ (f : Nat → Value) (a : Act) (w : World), Inv w → (∀ k, waits ops i k = true → Po k (f k) w) →
      (∀ k s, waits ops i k = true → dstOf ops k = some s → a.tmps[s]? = some (f k)) → (∀ s, noDstL ops L s = true → a.tmps[s]? = a0.tmps[s]?) →
      wpOp P ops Q i (fun a' w' => ∃ v, a' = a.put (dstOf ops i) v ∧ Po i v w' ∧ Rl w w') a w)
    (hend : ∀ (f : Nat → Value) (w : World), Inv w → (∀ i, i < L → Po i (f i) w) →
      wpAny P .any ops Q (ops.size - L) (List.replicate L true ++ List.replicate (ops.size - L) false).toArray ⟨fillT f 0 (ops.toList.take L) a0.tmps, a0.defers⟩ w)
    (hbk : backs ops = true) :
    ∀ (fuel : Nat) (f : Nat → Value) (listed : Array Bool) (a : Act) (w : World), listed.size = ops.size → (listed.toList.filter (· == false)).length = fuel → Inv w → ComeL ops L Po a0 f listed a w →
      wpAny P .any ops Q fuel listed a w := by
  obtain ⟨hlt, huniq⟩ := dstsOKL_spec hd
  unfold tailOK at ht
  simp only [Bool.and_eq_true, decide_eq_true_eq, List.all_eq_true, List.mem_range, Bool.or_eq_true] at ht
  obtain ⟨hL, htail⟩ := ht
  -- all of the first have come up
  have close : ∀ (fuel : Nat) (f : Nat → Value) (listed : Array Bool) (a : Act) (w : World), listed.size = ops.size → (listed.toList.filter (· == false)).length = fuel → Inv w → ComeL ops L Po a0 f listed a w →
      (∀ k, k < L → listed.getD k false = true) → wpAny P .any ops Q fuel listed a w := by
    intro fuel f listed a w hls hn hw hc hall
    have hl : listed = (List.replicate L true ++ List.replicate (ops.size - L) false).toArray := by
      apply Array.ext
      · simp; omega
      · intro i h1 h2
        have h3 : listed.getD i false = listed[i] := by simp [Array.getD, h1]
        by_cases hi : i < L
        · have h4 := hall i hi
          rw [h3] at h4
          rw [h4]
          simp only [List.getElem_toArray]
          rw [List.getElem_append_left (by simpa using hi)]
          simp
        · have h4 : listed[i] = false := by
            cases hx : listed[i] with
            | false => rfl
            | true => exact absurd (hc.front i (by rw [h3]; exact hx)) hi
          rw [h4]
          simp only [List.getElem_toArray]
          rw [List.getElem_append_right (by simp; omega)]
          simp
    have hf : fuel = ops.size - L := by
      rw [← hn, hl]
      simp
    have : a = ⟨fillT f 0 (ops.toList.take L) a0.tmps, a0.defers⟩ := by
      obtain ⟨t, d⟩ := a
      have h1 := hc.defers
      have h2 := hc.size
      simp only at h1 h2
      subst h1
      congr 1
      refine Array.ext_getElem? fun s => ?_
      have hto : ∀ (k : Nat) (o : Oper), (ops.toList.take L)[k]? = some o → k < L ∧ ops[k]? = some o := fun k o hk => by
        have hkl := (List.getElem?_eq_some_iff.1 hk).1
        simp only [List.length_take] at hkl
        rw [List.getElem?_take_of_lt (by omega), Array.getElem?_toList] at hk
        exact ⟨by omega, hk⟩
      by_cases hs : s < a0.tmps.size
      · have hg := fillT_get f s (ops.toList.take L) 0 a0.tmps hs
        by_cases he : ∃ k, k < L ∧ dstOf ops k = some s
        · obtain ⟨k, hkL, hk⟩ := he
          have hkl := dstOf_lt hk
          have e1 := (hc.new k hkL (hall k hkL)).2 s hk
          simp only at e1
          rw [e1]
          have hko : ops[k]? = some ops[k] := Array.getElem?_eq_getElem hkl
          have hkd : ops[k].dst = some s := by unfold dstOf at hk; rw [hko] at hk; simpa using hk
          rw [hg.2 k ops[k] (by rw [List.getElem?_take_of_lt hkL, Array.getElem?_toList]; exact hko) hkd (fun j o' hj hd' => by
            obtain ⟨hjL, hj'⟩ := hto j o' hj
            exact huniq j k s hjL hkL hk (by unfold dstOf; rw [hj']; simpa using hd'))]
          simp
        · rw [hg.1 (fun k o hk hd' => by
            obtain ⟨hkL, hk'⟩ := hto k o hk
            exact he ⟨k, hkL, by unfold dstOf; rw [hk']; simpa using hd'⟩)]
          exact hc.old s (fun k hkl hk => he ⟨k, hc.front k hkl, hk⟩)
      · rw [Array.getElem?_eq_none (by omega), Array.getElem?_eq_none (by rw [fillT_size]; omega)]
    rw [this, hl, hf]
    exact hend f w hw fun i hi => (hc.new i hi (hall i hi)).1
  intro fuel
  induction fuel with
  | zero =>
    intro f listed a w hls hn hw hc
    refine close 0 f listed a w hls hn hw hc fun k hk => ?_
    have h0 : listed.toList.filter (· == false) = [] := List.length_eq_zero_iff.1 hn
    rw [List.filter_eq_nil_iff] at h0
    have h1 : k < listed.size := by omega
    have h3 := h0 listed[k] (by simp)
    simp [Array.getD, h1]
    simpa using h3
  | succ fuel ih =>
    intro f listed a w hls hn hw hc
    by_cases hall : ∀ k, k < L → listed.getD k false = true
    · exact close _ f listed a w hls hn hw hc hall
    have hex : ∃ k0, k0 < L ∧ listed.getD k0 false = false := by
      refine Classical.byContradiction fun hne => hall fun k hk => ?_
      cases hx : listed.getD k false with
      | true => rfl
      | false => exact absurd ⟨k, hk, hx⟩ hne
    obtain ⟨k0, hk0, hun0⟩ := hex
    refine ⟨fun hr => ?_, fun i hi => ?_⟩
    · have := backs_all hbk listed hls hr k0 (by omega)
      rw [hun0] at this; cases this
    obtain ⟨hiun, oi, hoi, hdep⟩ := mem_ready.1 hi
    have hil : i < ops.size := (Array.getElem?_eq_some_iff.1 hoi).1
    have hw1 : ∀ k, waits ops i k = true → listed.getD k false = true := fun k hk => by
      simp only [waits, hoi, Option.map_some, Option.getD_some] at hk
      obtain ⟨e, he, hb⟩ := Array.any_eq_true'.1 hk
      simp only [Bool.and_eq_true, beq_iff_eq] at hb
      rw [← hb.2]; exact hdep e he hb.1
    have hiL : i < L := by
      refine Classical.byContradiction fun hge => ?_
      rcases htail i hil with h1 | h1
      · exact hge h1
      · have := hw1 k0 (h1 k0 hk0)
        rw [hun0] at this; cases this
    have hif : listed.getD i false = false := by
      have : i < listed.size := by omega
      simp only [Array.getD, this, dif_pos] at hiun ⊢
      exact hiun
    refine wpOp_mono ?_ (hop i hiL f a w hw (fun k hk => (hc.new k (hc.front k (hw1 k hk)) (hw1 k hk)).1) (fun k s hk hs => (hc.new k (hc.front k (hw1 k hk)) (hw1 k hk)).2 s hs)
      (fun s hs => hc.old s fun k hk => ?_))
    · rintro a' w' ⟨v, rfl, hp, hr⟩
      have hset : ∀ k, (listed.setIfInBounds i true).getD k false = true → k = i ∨ (k ≠ i ∧ listed.getD k false = true) := fun k hk => by
        by_cases hki : k = i
        · exact .inl hki
        · refine .inr ⟨hki, ?_⟩
          rwa [getD_set_ne false (Ne.symm hki)] at hk
      refine ih (fun k => if k = i then v else f k) _ _ _ (by simpa using hls) ?_ (hinv _ _ hw hr) ⟨?_, ?_, fun s hs => ?_, fun k hk hl => ?_, fun k hk => ?_⟩
      · have h2 : listed.toList[i]? = some false := by
          have h3 : i < listed.size := by omega
          simp only [Array.getD, h3, dif_pos] at hif
          rw [Array.getElem?_toList, Array.getElem?_eq_getElem h3]
          exact congrArg some hif
        have h4 : ∀ (l : List Bool) (i : Nat), l[i]? = some false → ((l.set i true).filter (· == false)).length + 1 = (l.filter (· == false)).length := by
          intro l
          induction l with
          | nil => intro i h; simp at h
          | cons b r ihr =>
            intro i h
            cases i with
            | zero => simp only [List.getElem?_cons_zero, Option.some.injEq] at h; subst h; simp
            | succ i => have := ihr i (by simpa using h); cases b <;> simp_all
        have h5 := h4 _ _ h2
        rw [Array.toList_setIfInBounds]
        omega
      · unfold Act.put; split <;> exact hc.defers
      · unfold Act.put; split <;> simp [hc.size]
      · have h1 : dstOf ops i ≠ some s := hs i (by rw [Array.getD_eq_getD_getElem?, Array.getElem?_setIfInBounds_self_of_lt (by omega)]; rfl)
        rw [show (a.put (dstOf ops i) v).tmps[s]? = a.tmps[s]? by
          unfold Act.put
          cases hdi : dstOf ops i with
          | none => rfl
          | some d => simp only; rw [Array.getElem?_setIfInBounds_ne (by rintro rfl; exact h1 hdi)]]
        refine hc.old s fun k hk => hs k ?_
        by_cases hki : i = k
        · subst hki; rw [hif] at hk; cases hk
        · rwa [getD_set_ne false hki]
      · rcases hset k hl with rfl | ⟨hki, hk2⟩
        · simp only [if_true]
          refine ⟨hp, fun s hs => ?_⟩
          unfold Act.put
          rw [hs]
          simp only
          rw [Array.getElem?_setIfInBounds_self_of_lt (by rw [hc.size]; exact hlt k s hk hs)]
        · simp only [if_neg hki]
          obtain ⟨h1, h2⟩ := hc.new k hk hk2
          refine ⟨hst _ _ _ _ h1 hr, fun s hs => ?_⟩
          unfold Act.put
          cases hdi : dstOf ops i with
          | none => exact h2 s hs
          | some d => simp only; rw [Array.getElem?_setIfInBounds_ne (by rintro rfl; exact hki (huniq k i _ hk hiL hdi hs))]; exact h2 s hs
      · rcases hset k hk with rfl | ⟨_, hk2⟩
        · exact hiL
        · exact hc.front k hk2
    · intro hks
      unfold noDstL at hs
      simp only [List.all_eq_true, List.mem_range, bne_iff_ne] at hs
      exact hs k (hc.front k hk) hks
theorem wpAny_only {i : Nat} {fuel : Nat} {listed : Array Bool} {a : Act} {w : World} (hr : Region.ready .any ops listed = [i])
    (h : wpOp P ops Q i (wpAny P .any ops Q fuel (listed.setIfInBounds i true)) a w) : wpAny P .any ops Q (fuel + 1) listed a w :=
  ⟨fun h0 => (by rw [hr] at h0; cases h0), fun j hj => (by rw [hr] at hj; simp only [List.mem_singleton] at hj; subst hj; exact h)⟩
theorem wpAny_all {listed : Array Bool} {a : Act} {w : World} (hr : Region.ready .any ops listed = []) (h : Q .normal a w) :
    ∀ fuel, wpAny P .any ops Q fuel listed a w
  | 0 => ⟨hr, h⟩
  | _ + 1 => ⟨fun _ => h, by rw [hr]; simp⟩
theorem wp_region_front {id : Nat} (L : Nat) {a0 : Act} {w0 : World} {Inv : World → Prop} {Po : Nat → Value → World → Prop} {Rl : World → World → Prop} (hm : P.follows .mixedOrders = true)
    (ht : tailOK ops L = true) (hd : dstsOKL ops L a0.tmps.size = true) (hbk : backs ops = true) (h0 : Inv w0.drew) (hst : ∀ i v w w', Po i v w → Rl w w' → Po i v w') (hinv : ∀ w w', Inv w → Rl w w' → Inv w')
    (hop : ∀ i o, (ops.toList.take L)[i]? = some o → ∀ (f : Nat → Value) (a : Act) (w : World), Inv w → (∀ k, waits ops i k = true → Po k (f k) w) →
      (∀ k s, waits ops i k = true → dstOf ops k = some s → a.tmps[s]? = some (f k)) → (∀ s, noDstL ops L s = true → a.tmps[s]? = a0.tmps[s]?) →
      (Region.wanted o (yielded ops a.tmps) = true ∧ Ans P a.eval o w (fun v w' => Po i v w' ∧ Rl w w')) ∨ (Region.wanted o (yielded ops a.tmps) = false ∧ Po i undef w ∧ Rl w w))
    (hend : ∀ (f : Nat → Value) (w : World), Inv w → (∀ i, i < L → Po i (f i) w) →
      wpAny P .any ops Q (ops.size - L) (List.replicate L true ++ List.replicate (ops.size - L) false).toArray ⟨fillT f 0 (ops.toList.take L) a0.tmps, a0.defers⟩ w) :
    (Code.region id ops true).wp P Q a0 w0 := by
  have hno : ∀ k, (Array.replicate ops.size false).getD k false = false := fun k => by
    simp only [Array.getD_eq_getD_getElem?, Array.getElem?_replicate]
    split <;> rfl
  have hL : L ≤ ops.size := by
    unfold tailOK at ht
    simp only [Bool.and_eq_true, decide_eq_true_eq] at ht
    exact ht.1
  refine wp_region_any hm (wpAny_front ht hd hst hinv (fun i hi f a w h1 h2 h3 h4 => ?_) hend hbk ops.size (fun _ => undef) (Array.replicate ops.size false) a0 w0.drew (by simp) ?_ h0 ⟨rfl, rfl, fun _ _ => rfl, fun k _ hk => ?_, fun k hk => ?_⟩)
  · have hil : i < ops.size := by omega
    exact wpOp_ans (Array.getElem?_eq_getElem hil) (hop i _ (by rw [List.getElem?_take_of_lt hi, Array.getElem?_toList, Array.getElem?_eq_getElem hil]) f a w h1 h2 h3 h4)
  · simp
  · rw [hno] at hk; cases hk
  · rw [hno] at hk; cases hk
end
theorem tyCells : ElemTy Try.prog 27 71 3 32 :=
  .mk' (z := .agg #[.int .i64 0, .int .i64 0, .string ByteArray.empty]) Try.underlying27 (by kernel_rfl) rfl (by omega) (by omega)
theorem tyNums : ElemTy Try.prog 28 3 1 8 := .mk' (z := .int .i64 0) Try.underlying28 (by kernel_rfl) rfl (by omega) (by omega)
theorem run_app_none {P : Program} (w : World) (t ty e : TypeId) (i : TypeInfo) (ht : P.underlying t = some (.slice e)) (hi : P.info? e = some i) (a b : Option Addr) (n cap c : Nat) (hn : n ≤ cap) :
    (Builtin.append_ #[t, t] ty #[.slice a n cap, .slice b 0 c]).run P w = .ok (.slice a n cap) w := by
  cases a <;> cases b <;> simp [Builtin.append_, run_underlying ht, sizeOf, typeInfo, hi, Builtin.lenOf, Builtin.firstCells, loadCells, loadCellsFrom, storeCells, hn]
section
variable {α : Type}
theorem grownBy_refl (w : World) (row : Option Nat) : w.grownBy w row := ⟨rfl, rfl, rfl, Nat.le_refl _, fun _ _ _ => rfl⟩
theorem run_appS {P : Program} (w : World) (base : Nat) (t ty e : TypeId) (size bytes : Nat) (hty : ElemTy P t e size bytes) {R : (Nat → Prop) → World → α → List Value → Prop} (hR : Lasts R) {A : Nat → Prop}
    (v : Value) (xs : List α) (hown : OwnR w base e size R A xs v) (x : Value) (ys : List α) (hx : SlR size R (fun b => A b ∧ ownB v ≠ some b) w ys x)
    (hlen : xs.length + ys.length ≤ 4194304) (hbase : base ≤ w.heap.size) :
    ∃ v' w', (Builtin.append_ #[t, t] ty #[v, x]).run P w = .ok v' w' ∧ OwnR w' base e size R A (xs ++ ys) v' ∧ Grew w w' v v' := by
  obtain ⟨⟨i, z, ht, hi, hz, h1, h2, h3⟩, h0, hb⟩ := hty
  obtain ⟨a, cap, b, off, rfl, hl1, hl2, hl3, ha, he⟩ := hx.at
  by_cases hy : ys = []
  · subst hy
    obtain ⟨va, vc, rfl, hvm⟩ := hown.val
    have hvc : xs.length ≤ vc := by
      obtain ⟨vals, _, ho, _⟩ := hown
      rcases ho.2 with ⟨h4, _, h5⟩ | ⟨g, c, cur, h4, h5, h6, h7, h8, _⟩
      · omega
      · simp only [Value.slice.injEq, true_and] at h4; omega
    refine ⟨_, w, run_app_none w t ty e i ht hi va a xs.length vc cap hvc, by simpa using hown, grownBy_refl _ _, .inl rfl⟩
  · have hpos : 0 < ys.length := List.length_pos_iff.2 hy
    obtain ⟨rfl, hA⟩ := ha hpos
    have hmul : (xs.length + ys.length) * bytes ≤ (xs.length + ys.length) * 256 := Nat.mul_le_mul_left _ hb
    obtain ⟨v', w', hr, k1, k2, k3⟩ := run_appR (P := P) w base t ty e i z size bytes ht hi hz h1 h2 h3 h0 hR v xs hown b off cap ys he
      (by simp only [maxLen]; omega) (by omega) hbase
    exact ⟨v', w', hr, k1, k2, k3⟩
theorem wpList_appS {P : Program} {w : World} {ops : Array Oper} {rest : List Oper} {o : Oper} {a : Act} {Q : Exit → Act → World → Prop} (hgd : o.guard = none) (s x : Operand) (t : TypeId)
    (ho : o.op = .call { callee := .builtin .append, args := #[s, x], argTypes := #[t, t] })
    (base : Nat) (e : TypeId) (size bytes : Nat) (hty : ElemTy P t e size bytes) {R : (Nat → Prop) → World → α → List Value → Prop} (hR : Lasts R) {A : Nat → Prop}
    (v : Value) (xs : List α) (hs : a.eval s = v) (hown : OwnR w base e size R A xs v) (xv : Value) (hxv : a.eval x = xv) (ys : List α) (hx : SlR size R (fun b => A b ∧ ownB v ≠ some b) w ys xv)
    (hlen : xs.length + ys.length ≤ 4194304) (hbase : base ≤ w.heap.size)
    (h : ∀ v' w', OwnR w' base e size R A (xs ++ ys) v' → Grew w w' v v' → wpList P ops Q rest (a.put o.dst v') w') : wpList P ops Q (o :: rest) a w := by
  refine wpList_plain hgd fun _ hK => ?_
  obtain ⟨v', w', hr, k1, k2⟩ := run_appS (P := P) w base t o.type e size bytes hty hR v xs hown xv ys hx hlen hbase
  unfold Oper.wp execOp
  simp only [ho, resolve, invoke, builtin, Sem.run_bind, Sem.run_pure, Result.andThen_ok, List.map_toArray, List.map_cons, List.map_nil, hs, hxv, hr]
  exact hK _ _ (h v' w' k1 k2)
end
/-! ### slices of one's own, of elements that lead nowhere -/
section
variable {α : Type}
theorem flatMap_len {f : α → List Value} {size : Nat} (hf : ∀ x, (f x).length = size) (l : List α) : (l.flatMap f).length = l.length * size := by
  induction l with
  | nil => simp
  | cons x r ih => rw [List.flatMap_cons, List.length_append, hf, ih, List.length_cons, Nat.add_mul]; omega
theorem flatMap_get {f : α → List Value} {size : Nat} (hf : ∀ x, (f x).length = size) : ∀ (l : List α) (i j : Nat) (hi : i < l.length), j < size → (l.flatMap f)[i * size + j]? = (f l[i])[j]?
  | x :: l, 0, j, hi, hj => by rw [List.flatMap_cons, Nat.zero_mul, Nat.zero_add, List.getElem?_append_left (by rw [hf]; exact hj)]; rfl
  | x :: l, i + 1, j, hi, hj => by
    rw [List.flatMap_cons, List.getElem?_append_right (by rw [hf, Nat.add_mul]; omega), hf, show (i + 1) * size + j - size = i * size + j by rw [Nat.add_mul]; omega]
    exact flatMap_get hf l i j (by simpa using hi) hj
theorem flatMap_set {f : α → List Value} {size : Nat} (hf : ∀ x, (f x).length = size) (y : α) (u : Value) : ∀ (l : List α) (i j : Nat) (hi : i < l.length), j < size → f y = (f l[i]).set j u → (l.flatMap f).set (i * size + j) u = (l.set i y).flatMap f
  | x :: l, 0, j, hi, hj, hy => by
    rw [List.flatMap_cons, Nat.zero_mul, Nat.zero_add, List.set_append_left _ _ (by rw [hf]; exact hj)]
    simp only [List.getElem_cons_zero] at hy
    rw [List.set_cons_zero, List.flatMap_cons, hy]
  | x :: l, i + 1, j, hi, hj, hy => by
    rw [List.flatMap_cons, List.set_append_right _ _ (by rw [hf, Nat.add_mul]; omega), hf, show (i + 1) * size + j - size = i * size + j by rw [Nat.add_mul]; omega, List.set_cons_succ, List.flatMap_cons]
    rw [flatMap_set hf y u l i j (by simpa using hi) hj (by simpa using hy)]
theorem flatMap_take {f : α → List Value} {size : Nat} (hf : ∀ x, (f x).length = size) : ∀ (l : List α) (k : Nat), k ≤ l.length → (l.flatMap f).take (k * size) = (l.take k).flatMap f
  | l, 0, _ => by simp
  | x :: l, k + 1, h => by
    rw [List.flatMap_cons, List.take_succ_cons, List.flatMap_cons, List.take_append, hf, List.take_of_length_le (by rw [hf, Nat.add_mul]; omega), show (k + 1) * size - size = k * size by rw [Nat.add_mul]; omega]
    rw [flatMap_take hf l k (by simpa using h)]
def OwnF (f : α → List Value) (ok : α → Prop) (E : TypeId) (size : Nat) (w : World) (base : Nat) (l : List α) (v : Value) : Prop :=
  Own w base E size v l.length (l.flatMap f) ∧ ∀ x ∈ l, ok x
variable {f : α → List Value} {ok : α → Prop} {E : TypeId} {size : Nat} {w : World} {base : Nat} {l : List α} {v : Value}
theorem OwnF.nil : OwnF f ok E size w base [] (.slice none 0 0) := ⟨Own.nil w base E size, fun x h => by simp at h⟩
theorem OwnF.lt (h : OwnF f ok E size w base l v) : ∀ k, ownB v = some k → base ≤ k ∧ k < w.heap.size := h.1.lt
theorem OwnF.kept (h : OwnF f ok E size w base l v) {w' : World} (hk : ∀ k, ownB v = some k → w'.heap[k]? = w.heap[k]?) : OwnF f ok E size w' base l v := ⟨h.1.kept hk, h.2⟩
theorem OwnF.below (h : OwnF f ok E size w base l v) {w' : World} (hk : Below w.heap.size w w') : OwnF f ok E size w' base l v := ⟨h.1.below hk, h.2⟩
theorem OwnF.rebase (h : OwnF f ok E size w base l v) {base' : Nat} (hb : ∀ k, ownB v = some k → base' ≤ k) : OwnF f ok E size w base' l v := by
  refine ⟨⟨h.1.1, ?_⟩, h.2⟩
  rcases h.1.2 with h1 | ⟨g, cap, cur, rfl, hc, hbg, rest⟩
  · exact .inl h1
  · exact .inr ⟨g, cap, cur, rfl, hc, hb g (by simp [ownB, Nat.pos_iff_ne_zero.1 hc]), rest⟩
theorem OwnF.ownR (hf : ∀ x, (f x).length = size) (h : OwnF f ok E size w base l v) (A : Nat → Prop) : OwnR w base E size (flatR f ok) A l v := by
  refine ⟨l.map f, by simp, by rw [← List.flatMap_def]; exact h.1, fun i x vs hx hv => ?_⟩
  rw [List.getElem?_map, hx] at hv
  simp only [Option.map_some, Option.some.injEq] at hv
  subst hv
  exact ⟨hf x, h.2 x (List.mem_of_getElem? hx), rfl⟩
theorem OwnF.of_ownR {A : Nat → Prop} (h : OwnR w base E size (flatR f ok) A l v) : OwnF f ok E size w base l v := by
  obtain ⟨vals, hl, ho, he⟩ := h
  have e : vals = l.map f := by
    apply List.ext_getElem (by simp [hl])
    intro i h1 h2
    obtain ⟨_, _, h3⟩ := he i _ _ (List.getElem?_eq_getElem (by omega)) (List.getElem?_eq_getElem h1)
    rw [h3, List.getElem_map]
  subst e
  refine ⟨by rw [List.flatMap_def]; exact ho, fun x hx => ?_⟩
  obtain ⟨i, hi, rfl⟩ := List.mem_iff_getElem.1 hx
  exact (he i _ _ (List.getElem?_eq_getElem hi) (List.getElem?_eq_getElem (by simpa using hi))).2.1
theorem OwnF.val (h : OwnF f ok E size w base l v) : ∃ a cap, v = .slice a l.length cap ∧ l.length ≤ cap ∧ cap ≤ maxLen := by
  rcases h.1.2 with ⟨h0, a, rfl⟩ | ⟨g, cap, cur, rfl, hc, hb, hg, hnc, hcm, _⟩
  · exact ⟨a, 0, by rw [h0], by omega, by simp [maxLen]⟩
  · exact ⟨_, cap, rfl, hnc, hcm⟩
theorem OwnF.at (hf : ∀ x, (f x).length = size) (h : OwnF f ok E size w base l v) (h0 : 0 < l.length) :
    ∃ g cap, v = .slice (some ⟨g, 0, none⟩) l.length cap ∧ 0 < cap ∧ l.length ≤ cap ∧ cap ≤ maxLen ∧ ownB v = some g ∧ (∀ o, w.frozen? ⟨g, o, none⟩ = false) ∧ g < w.heap.size ∧ base ≤ g ∧
      ∀ i (hi : i < l.length) j u, (f l[i])[j]? = some u → w.cell? ⟨g, i * size + j, none⟩ = some u := by
  have hcl := @Own.cells w base E size v l.length (l.flatMap f) h.1
  rcases h.1.2 with ⟨h1, a, rfl⟩ | ⟨g, cap, cur, rfl, hc, hb, hg, hnc, hcm, hcs, htake⟩
  · omega
  · refine ⟨g, cap, rfl, hc, hnc, hcm, by simp [ownB, Nat.pos_iff_ne_zero.1 hc], fun o => by simp [World.frozen?, hg], blk_lt hg, hb, fun i hi j u hu => ?_⟩
    have hj : j < size := by have := (List.getElem?_eq_some_iff.1 hu).1; rw [hf] at this; exact this
    exact hcl rfl hc _ u (by rw [flatMap_get hf l i j hi hj]; exact hu)
theorem OwnF.set (hf : ∀ x, (f x).length = size) (h : OwnF f ok E size w base l v) {g : Nat} (hg : ownB v = some g) {i j : Nat} (hi : i < l.length) (hj : j < size) {y : α} {u : Value} (hy : f y = (f l[i]).set j u) (hok : ok y) :
    OwnF f ok E size (w.setCell ⟨g, i * size + j, none⟩ u) base (l.set i y) v := by
  refine ⟨⟨flatMap_len hf _, ?_⟩, fun x hx => ?_⟩
  · rw [List.length_set]
    rcases h.1.2 with ⟨h1, a, rfl⟩ | ⟨g', cap, cur, rfl, hc, hb, hgg, hnc, hcm, hcs, htake⟩
    · omega
    · simp only [ownB, Nat.pos_iff_ne_zero.1 hc, if_false, Option.some.injEq] at hg
      subst hg
      refine .inr ⟨g', cap, _, rfl, hc, hb, blk_set hgg _ u, hnc, hcm, by simpa using hcs, ?_⟩
      rw [← flatMap_set hf y u l i j hi hj hy, ← htake, Array.toList_setIfInBounds, List.take_set]
  · rcases List.mem_or_eq_of_mem_set hx with h1 | rfl
    · exact h.2 x h1
    · exact hok
theorem OwnF.take (hf : ∀ x, (f x).length = size) {a : Option Addr} {cap : Nat} (h : OwnF f ok E size w base l (.slice a l.length cap)) {k : Nat} (hk : k ≤ l.length) : OwnF f ok E size w base (l.take k) (.slice a k cap) := by
  have hl : (l.take k).length = k := by rw [List.length_take]; omega
  refine ⟨⟨by rw [flatMap_len hf], ?_⟩, fun x hx => h.2 x (List.mem_of_mem_take hx)⟩
  rw [hl]
  rcases h.1.2 with ⟨h1, a', h2⟩ | ⟨g, c, cur, h2, hc, hb, hgg, hnc, hcm, hcs, htake⟩
  · simp only [Value.slice.injEq] at h2
    obtain ⟨rfl, -, rfl⟩ := h2
    exact .inl ⟨by omega, a, by rw [show k = 0 by omega]⟩
  · simp only [Value.slice.injEq, true_and] at h2
    obtain ⟨rfl, rfl⟩ := h2
    refine .inr ⟨g, cap, cur, rfl, hc, hb, hgg, by omega, hcm, hcs, ?_⟩
    rw [← flatMap_take hf l k hk, ← htake, List.take_take, Nat.min_eq_left (Nat.mul_le_mul_right _ hk)]
theorem OwnF.sl (hf : ∀ x, (f x).length = size) (h1 : ∀ x, ∀ u ∈ f x, u.oneCell' = true) (h : OwnF f ok E size w base l v) (hl : l.length ≤ 1048576) {A : Nat → Prop} (hA : ∀ b, ownB v = some b → A b) : SlR size (flatR f ok) A w l v :=
  OwnR.sl' (flatR_lasts h1) (h.ownR hf A) hl hA
end
theorem Ce.vals_len (c : Ce) : c.vals.length = 3 := rfl
theorem Ce.vals_one (c : Ce) : ∀ u ∈ c.vals, u.oneCell' = true := by simp [Ce.vals, Value.oneCell']
theorem numV_len (c : Int) : (numV c).length = 1 := rfl
theorem numV_one (c : Int) : ∀ u ∈ numV c, u.oneCell' = true := by simp [numV, Value.oneCell']
theorem boolV_len (c : Bool) : (boolV c).length = 1 := rfl
abbrev OwnC (w : World) (base : Nat) (l : List Ce) (v : Value) : Prop := OwnF Ce.vals Ce.Ok 71 3 w base l v
abbrev OwnN (w : World) (base : Nat) (l : List Int) (v : Value) : Prop := OwnF numV I64 3 1 w base l v
abbrev OwnB (w : World) (base : Nat) (l : List Bool) (v : Value) : Prop := OwnF boolV (fun _ => True) 4 1 w base l v
theorem OwnN.sl {w : World} {base : Nat} {l : List Int} {v : Value} (h : OwnN w base l v) (hl : l.length ≤ 1048576) {A : Nat → Prop} (hA : ∀ b, ownB v = some b → A b) : NumsR A w l v := OwnF.sl numV_len numV_one h hl hA
def OwnP {α : Type} (f : α → List Value) (ok : α → Prop) (E : TypeId) (size : Nat) (base : Nat) (l : List α) (r : Value) (w' : World) : Prop := OwnF f ok E size w' base l r
set_option maxHeartbeats 1000000 in
theorem cloneC_ok (l : List Ce) (A : Nat → Prop) (w : World) (v : Value) (hv : SlR 3 Ce.rep A w l v) :
    Calls Try.prog 31 #[v] w (Pure w (OwnP Ce.vals Ce.Ok 71 3 w.heap.size l)) := by
  obtain ⟨a, cap, b, off, rfl, hlc, hcm, hlb, ha, he⟩ := hv.at
  have HV := hid hv
  clear hv he
  have qT : ∀ (w : World) (a : Option Addr) (n c : Nat), (binOp .eql 27 (.slice a n c) (.slice none 0 0)).run Try.prog w = .ok (.bool a.isNone) w := fun w a n c => Lib.run_eql_slice_nil w _ _ a n c _ _ Try.underlying27
  cases a with
  | none =>
    have h0 : l = [] := by
      cases l with
      | nil => rfl
      | cons x r => have := (ha (by simp)).1; cases this
    subst h0
    go_enter Try.func31, Try.ntmps31
    go_wp2_with fail
    go_ret
    exact ⟨_, rfl, Below.refl _ _, OwnF.nil⟩
  | some p =>
    have HA := hid ha
    clear ha
    have HSL : Hid (∀ w', Below w.heap.size w w' → ∀ g, w.heap.size ≤ g → SlR 3 Ce.rep (fun b => True ∧ ownB (.slice (some ⟨g, 0, none⟩) 0 0) ≠ some b) w' l (.slice (some p) l.length cap)) := fun w' hb g hg =>
      SlR.mono Ce.rep_lasts (by omega) (SlR.keeps Ce.rep_lasts HV.out (Keeps.of_below hb)) (fun b _ _ => ⟨trivial, by simp [ownB]⟩)
    go_enter Try.func31, Try.ntmps31
    go_wp2_with (at_builtin; refine wpList_appS rfl (.tmp 5) (.tmp 6) 27 rfl w.heap.size 71 3 32 tyCells Ce.rep_lasts (A := fun _ => True) (.slice (some ⟨w.heap.size, 0, none⟩) 0 0) [] rfl ((OwnF.ownR Ce.vals_len (ok := Ce.Ok) (l := []) ⟨⟨by simp, .inl ⟨rfl, _, rfl⟩⟩, fun x h => by simp at h⟩ _)) _ rfl l (HSL.out _ ((Below.refl _ _).alloc (Nat.le_refl _) _) _ (Nat.le_refl _)) (by simp; omega) (by simp) ?_; intro v2 w2 hown hgrew)
    go_ret
    exact ⟨_, rfl, hgrew.below ((Below.refl _ _).alloc (Nat.le_refl _) _) (by simp) (fun k h => by simp [ownB] at h), OwnF.of_ownR hown⟩
set_option maxHeartbeats 1000000 in
theorem cloneN_ok (l : List Int) (A : Nat → Prop) (w : World) (v : Value) (hv : SlR 1 numR A w l v) :
    Calls Try.prog 57 #[v] w (Pure w (OwnP numV I64 3 1 w.heap.size l)) := by
  obtain ⟨a, cap, b, off, rfl, hlc, hcm, hlb, ha, he⟩ := hv.at
  have HV := hid hv
  clear hv he
  have qT : ∀ (w : World) (a : Option Addr) (n c : Nat), (binOp .eql 28 (.slice a n c) (.slice none 0 0)).run Try.prog w = .ok (.bool a.isNone) w := fun w a n c => Lib.run_eql_slice_nil w _ _ a n c _ _ Try.underlying28
  cases a with
  | none =>
    have h0 : l = [] := by
      cases l with
      | nil => rfl
      | cons x r => have := (ha (by simp)).1; cases this
    subst h0
    go_enter Try.func57, Try.ntmps57
    go_wp2_with fail
    go_ret
    exact ⟨_, rfl, Below.refl _ _, OwnF.nil⟩
  | some p =>
    have HA := hid ha
    clear ha
    have HSL : Hid (∀ w', Below w.heap.size w w' → ∀ g, w.heap.size ≤ g → SlR 1 numR (fun b => True ∧ ownB (.slice (some ⟨g, 0, none⟩) 0 0) ≠ some b) w' l (.slice (some p) l.length cap)) := fun w' hb g hg =>
      SlR.mono numR_lasts (by omega) (SlR.keeps numR_lasts HV.out (Keeps.of_below hb)) (fun b _ _ => ⟨trivial, by simp [ownB]⟩)
    go_enter Try.func57, Try.ntmps57
    go_wp2_with (at_builtin; refine wpList_appS rfl (.tmp 5) (.tmp 6) 28 rfl w.heap.size 3 1 8 tyNums numR_lasts (A := fun _ => True) (.slice (some ⟨w.heap.size, 0, none⟩) 0 0) [] rfl ((OwnF.ownR numV_len (ok := I64) (l := []) ⟨⟨by simp, .inl ⟨rfl, _, rfl⟩⟩, fun x h => by simp at h⟩ _)) _ rfl l (HSL.out _ ((Below.refl _ _).alloc (Nat.le_refl _) _) _ (Nat.le_refl _)) (by simp; omega) (by simp) ?_; intro v2 w2 hown hgrew)
    go_ret
    exact ⟨_, rfl, hgrew.below ((Below.refl _ _).alloc (Nat.le_refl _) _) (by simp) (fun k h => by simp [ownB] at h), OwnF.of_ownR hown⟩
end Go.Proofs.Ytlpmfkpefoegeab
