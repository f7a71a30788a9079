/-
  From a reading of an argument to what lies in memory: clauses.
  Maps keyed by integers, as lists of pairs.
  queristref.Tidied: a map keeps which numbers were met.
  Plain laws of tidying: what is tidy is tidy; it does not matter which numbers there were.
-/
import Derived.Test.YtlpmfkpefoegeabQNamed
import Derived.Test.YtlpmfkpefoegeabQClause2
import Derived.Test.YtlpmfkpefoegeabQLib
import Derived.Carry
import Derived.Test.YtlpmfkpefoegeabROpen
import Derived.Test.YtlpmfkpefoegeabQGood
namespace Go.Proofs.Ytlpmfkpefoegeab
set_option linter.unusedVariables false
set_option linter.unusedSimpArgs false
set_option maxRecDepth 100000
open Go.RowKit Go.WideShapes Go.ChangeShapes

section
variable {H : Type} {enc : TypeId × Value → H} {W : World} {base : Nat} {sp : Nat → Bool} {held : Bool}

instance : Inhabited Cl := ⟨⟨default, [], 0⟩⟩
theorem cells_clause : Program.cellsOf Try.prog 26 = 6 := by kernel_rfl

theorem Tm.rep_vals {A : Nat → Prop} {t : Tm} {cs : List Value} (h : Tm.rep A W t cs) : ∃ a ac, cs = [.int .i64 t.kind, .int .i64 t.n, .string t.s, .slice a t.args.length ac] := by
  obtain ⟨a, ac, rfl, -⟩ := Tm.rep4 h
  exact ⟨a, ac, rfl⟩

/-- a clause that reads -/
theorem open_cl {n : Nat} {cs : List Value} {y : DataW H × List MemPlace} (h : DataW.trod enc Try.prog W base sp held n 26 cs = some y) (hb : Rows.uptoBulk y.1 ≤ 1048576) :
    ∃ c : Cl, Cl.rep (fun _ => True) W c cs ∧ c.nodes + 1 ≤ Rows.uptoBulk y.1 := by
  obtain ⟨y0, y1, y2, n', rfl, hl, h0, h1, h2⟩ := Deep.trod_struct3 Try.underlying26 h
  simp only [cells_clause, cells_term, cells_ts, cells_i] at hl h0 h1 h2
  match cs, hl with
  | [c0, c1, c2, c3, c4, c5], _ =>
    simp only [List.drop_zero, List.drop_succ_cons, List.take_succ_cons, List.take_zero] at h0 h1 h2
    simp only [Rows.uptoBulk, Rows.uptoBulkAll] at hb ⊢
    obtain ⟨t, ht, hn0⟩ := open_tm h0 (by omega)
    obtain ⟨a, ac, e0⟩ := Tm.rep_vals ht
    obtain ⟨l, v, e1, hv, hn1, _⟩ := open_sl Try.underlying22 cells_term (by omega) (R := Tm.rep) (A := fun _ => True) (fun _ => trivial) Tm.nodes (B := Rows.uptoBulk y1.1) (by omega)
        (fun n cs' y hy hlt => open_tm hy (by omega)) (Nat.le_refl _) h1
    obtain ⟨m, e2, rfl, m64⟩ := DataW.trod_int Try.underlying3 h2
    obtain ⟨b, bc, -, -, rfl, -⟩ := SlR.at hv
    simp only [List.cons.injEq, and_true] at e0 e1 e2
    obtain ⟨rfl, rfl, rfl, rfl⟩ := e0
    subst e1 e2
    refine ⟨⟨t, l, m⟩, ⟨a, ac, b, bc, rfl, ht, hv, I64.of_wf m64⟩, ?_⟩
    simp only [Cl.nodes, Tm.nodesL_sum] at hn1 ⊢
    simp only [Rows.uptoBulk] at hn1 ⊢
    omega

/-- an argument that is a clause -/
theorem open_clause {r : Go.Reach} {b0 : Nat} {v : Value} {d : DataW H} {ps : List MemPlace} (hval : Value.okWide Try.prog W r b0 26 v) (h : DataW.Trod enc Try.prog W base sp held 26 v d ps)
    (hb : Rows.uptoBulk d ≤ 1048576) : ∃ (c : Cl) (us : List Value), v = .agg us.toArray ∧ Cl.rep (fun _ => True) W c us ∧ c.nodes + 1 ≤ Rows.uptoBulk d := by
  unfold Value.okWide at hval
  rw [Try.underlying26] at hval
  obtain ⟨cs, rfl, -, -⟩ := hval
  obtain ⟨fuel, hf⟩ := h
  obtain ⟨c, h1, h2⟩ := open_cl hf hb
  exact ⟨c, cs.toList, by simp, by simpa [Value.cells] using h1, h2⟩

/-- an argument that is a slice of clauses -/
theorem open_clauses {r : Go.Reach} {b0 : Nat} {v : Value} {d : DataW H} {ps : List MemPlace} (hval : Value.okWide Try.prog W r b0 50 v) (h : DataW.Trod enc Try.prog W base sp held 50 v d ps)
    (hb : Rows.uptoBulk d ≤ 1048576) : ∃ l : List Cl, ClsR (fun _ => True) W l v ∧ (l.map Cl.nodes).sum + 1 ≤ Rows.uptoBulk d := by
  obtain ⟨a, len, cap, rfl⟩ := okWide_slice Try.underlying50 hval
  obtain ⟨fuel, hf⟩ := h
  obtain ⟨l, v, e3, hv, hn, _⟩ := open_sl Try.underlying50 cells_clause (by omega) (R := Cl.rep) (A := fun _ => True) (fun _ => trivial) Cl.nodes (B := Rows.uptoBulk d) hb
    (fun n cs' y hy hlt => by obtain ⟨c, h1, h2⟩ := open_cl hy (by omega); exact ⟨c, h1, by omega⟩) (Nat.le_refl _) hf
  simp only [Value.cells, List.cons.injEq, and_true] at e3
  subst e3
  exact ⟨l, hv, hn⟩
end
end Go.Proofs.Ytlpmfkpefoegeab

namespace Go.Proofs.Ytlpmfkpefoegeab
set_option linter.unusedVariables false
set_option linter.unusedSimpArgs false
open Go.RowKit

/-- block r is a map that holds just these, in the order in which they were put -/
def MapIs (w : World) (r : Nat) (L : List (Int × Value)) : Prop :=
  ∃ es clock, w.heap[r]? = some (.map es clock) ∧ es.toList.map (fun e => (e.key, e.val)) = L.map (fun p => (Value.int .i64 p.1, p.2))

theorem MapIs.lt {w : World} {r : Nat} {L : List (Int × Value)} (h : MapIs w r L) : r < w.heap.size := by
  obtain ⟨es, clock, h, _⟩ := h
  exact blk_lt h
theorem MapIs.keeps {A : Nat → Prop} {w w' : World} {r : Nat} {L : List (Int × Value)} (h : MapIs w r L) (hk : Keeps A w w') (hA : A r) : MapIs w' r L := by
  obtain ⟨es, clock, h1, h2⟩ := h
  exact ⟨es, clock, blk_keeps h1 hk hA, h2⟩
theorem MapIs.made (w : World) : MapIs (w.alloc (.map #[] 0)) w.heap.size [] := ⟨#[], 0, blk_new _ _, rfl⟩

/-- what a map holds at a key -/
def mget (L : List (Int × Value)) (n : Int) : Option Value := (L.find? (fun p => p.1 == n)).map (·.2)

theorem findNow_int (n : Int) : ∀ (es : List MapEntry) (L : List (Int × Value)) (i : Nat), es.map (fun e => (e.key, e.val)) = L.map (fun p => (Value.int .i64 p.1, p.2)) →
    ∃ r, Instr.findNow (.int .i64) (.int .i64 n) es i = some r ∧ r.map (·.2) = mget L n ∧ (∀ k x, r = some (k, x) → i ≤ k ∧ (∃ e, es[k - i]? = some e ∧ e.key = .int .i64 n) ∧ ∀ j, j < k - i → ∀ p, L[j]? = some p → p.1 ≠ n)
  | [], L, i, h => by
    have : L = [] := by simpa using h.symm
    subst this
    exact ⟨none, rfl, rfl, fun k x h => by cases h⟩
  | e :: es, [], i, h => by simp at h
  | e :: es, p :: L, i, h => by
    simp only [List.map_cons, List.cons.injEq, Prod.mk.injEq] at h
    obtain ⟨⟨hk, hv⟩, hr⟩ := h
    by_cases hn : n = p.1
    · subst hn
      refine ⟨some (i, e.val), ?_, ?_, ?_⟩
      · simp [Instr.findNow, Instr.sameNow, hk]
      · simp [mget, hv]
      · intro k x h
        simp only [Option.some.injEq, Prod.mk.injEq] at h
        obtain ⟨rfl, rfl⟩ := h
        exact ⟨Nat.le_refl _, ⟨e, by simp, hk⟩, fun j hj => by omega⟩
    · obtain ⟨r, h1, h2, h3⟩ := findNow_int n es L (i + 1) hr
      refine ⟨r, ?_, ?_, ?_⟩
      · rw [Instr.findNow, hk]
        have hb : (n == p.1) = false := by simpa using hn
        simp [Instr.sameNow, hb, h1]
      · rw [h2]
        have : (p.1 == n) = false := by simp; omega
        simp [mget, this]
      · intro k x h
        obtain ⟨h4, ⟨e', h5, h6⟩, h7⟩ := h3 k x h
        refine ⟨by omega, ⟨e', ?_, h6⟩, fun j hj q hq => ?_⟩
        · rw [show k - i = (k - (i + 1)) + 1 by omega]; simpa using h5
        · cases j with
          | zero => simp at hq; subst hq; omega
          | succ j => exact h7 j (by omega) q (by simpa using hq)

/-- the types of a map keyed by int -/
def IntMapTy (P : Program) (t e : TypeId) (z : Value) : Prop :=
  ∃ k, P.underlying t = some (.map k e) ∧ P.underlying k = some (.int .i64) ∧ ∀ w, (zeroValue e).run P w = .ok z w

section
variable {P : Program} {t e : TypeId} {z : Value} {w : World} {r : Nat} {L : List (Int × Value)} {n : Int}

theorem run_findKey (k : TypeId) (hk : P.underlying k = some (.int .i64)) (es : List MapEntry) (x : Option (Nat × Value)) (h : Instr.findNow (.int .i64) (.int .i64 n) es 0 = some x) :
    (Instr.findKey k (.int .i64 n) es).run P w = .ok x w := by
  simp [Instr.findKey, run_underlying hk, h]

theorem run_checkKey (k : TypeId) (hk : P.underlying k = some (.int .i64)) (b : Bool) : (Instr.checkKey b 10000 k (.int .i64 n)).run P w = .ok () w := by
  rw [show (10000 : Nat) = 9999 + 1 from rfl, Instr.checkKey]
  simp [run_underlying hk]

theorem run_mlookup_ok (hty : IntMapTy P t e z) (h : MapIs w r L) :
    (Instr.lookup t (.map (some r)) (.int .i64 n) true).run P w = .ok (.tuple #[(mget L n).getD z, .bool (mget L n).isSome]) w := by
  obtain ⟨k, ht, hk, hz⟩ := hty
  obtain ⟨es, clock, h1, h2⟩ := h
  obtain ⟨x, h3, h4, -⟩ := findNow_int n es.toList L 0 h2
  have h5 := run_findKey (P := P) (w := w) k hk es.toList x h3
  have h6 := run_checkKey (P := P) (w := w) (n := n) k hk es.isEmpty
  rw [← h4]
  cases x with
  | none => simp [Instr.lookup, run_underlying ht, getObj, Sem.run, h1, h5, h6, hz]
  | some p => simp [Instr.lookup, run_underlying ht, getObj, Sem.run, h1, h5, h6]

theorem run_mlookup (hty : IntMapTy P t e z) (h : MapIs w r L) :
    (Instr.lookup t (.map (some r)) (.int .i64 n) false).run P w = .ok ((mget L n).getD z) w := by
  obtain ⟨k, ht, hk, hz⟩ := hty
  obtain ⟨es, clock, h1, h2⟩ := h
  obtain ⟨x, h3, h4, -⟩ := findNow_int n es.toList L 0 h2
  have h5 := run_findKey (P := P) (w := w) k hk es.toList x h3
  have h6 := run_checkKey (P := P) (w := w) (n := n) k hk es.isEmpty
  rw [← h4]
  cases x with
  | none => simp [Instr.lookup, run_underlying ht, getObj, Sem.run, h1, h5, h6, hz]
  | some p => simp [Instr.lookup, run_underlying ht, getObj, Sem.run, h1, h5, h6]

theorem run_mlen (hty : IntMapTy P t e z) (h : MapIs w r L) (ty : TypeId) :
    (Builtin.len_ #[t] ty #[.map (some r)]).run P w = .ok (.int .i64 L.length) w := by
  obtain ⟨k, ht, hk, hz⟩ := hty
  obtain ⟨es, clock, h1, h2⟩ := h
  have h3 : es.size = L.length := by have := congrArg List.length h2; simpa using this
  simp [Builtin.len_, run_underlying ht, getObj, Sem.run, h1, goInt, h3]

/-- a new key -/
theorem run_mput_new (hty : IntMapTy P t e z) (h : MapIs w r L) (hn : mget L n = none) (v : Value) :
    ∃ w', (Instr.mapUpdate t (.map (some r)) (.int .i64 n) v).run P w = .ok () w' ∧ MapIs w' r (L ++ [(n, v)]) ∧ Ch (fun b => b = r) w w' ∧ w'.heap.size = w.heap.size := by
  obtain ⟨k, ht, hk, hz⟩ := hty
  obtain ⟨es, clock, h1, h2⟩ := h
  obtain ⟨x, h3, h4, -⟩ := findNow_int n es.toList L 0 h2
  rw [hn] at h4
  have hx : x = none := by cases x <;> simp_all
  subst hx
  have h5 := run_findKey (P := P) (w := w) k hk es.toList none h3
  have h6 := run_checkKey (P := P) (w := w) (n := n) k hk false
  have hlt := blk_lt h1
  refine ⟨{ w with heap := w.heap.setIfInBounds r (.map (es.push { key := .int .i64 n, val := v, born := clock }) (clock + 1)) }, ?_, ⟨es.push { key := .int .i64 n, val := v, born := clock }, clock + 1, ?_, ?_⟩, ⟨rfl, rfl, rfl, by simp, fun b hb hne => ?_⟩, by simp⟩
  · simp [Instr.mapUpdate, run_underlying ht, getObj, setObj, Sem.run, h1, h5, h6]
  · simp [hlt]
  · simp [h2]
  · rw [Array.getElem?_setIfInBounds_ne (Ne.symm hne)]
end
end Go.Proofs.Ytlpmfkpefoegeab

namespace Go.Proofs.Ytlpmfkpefoegeab
set_option linter.unusedVariables false
set_option linter.unusedSimpArgs false
open Go.RowKit

/-- a variable's new number, and which were met -/
def seenF (st : List Int) (n : Int) : Int × List Int := if n ∈ st then ((st.idxOf n : Nat), st) else ((st.length : Nat), st ++ [n])

theorem seenF_sz (st : List Int) (n : Int) : (seenF st n).2.length ≤ st.length + 1 := by
  unfold seenF; split <;> simp

/-- what the map holds -/
def seenL (st : List Int) : List (Int × Value) := st.zipIdx.map fun p => (p.1, .int .i64 (p.2 : Nat))

theorem seenL_snoc (st : List Int) (n : Int) : seenL (st ++ [n]) = seenL st ++ [(n, .int .i64 (st.length : Nat))] := by
  simp [seenL, List.zipIdx_append]

theorem seenL_get (n : Int) : ∀ (st : List Int) (k : Nat), mget (st.zipIdx k |>.map fun p => (p.1, Value.int .i64 (p.2 : Nat))) n = if n ∈ st then some (.int .i64 ((k + st.idxOf n : Nat) : Int)) else none
  | [], k => by simp [mget]
  | x :: st, k => by
    have ih := seenL_get n st (k + 1)
    by_cases h : x = n
    · subst h
      simp [mget]
    · have h' : (x == n) = false := by simpa using h
      have hn : ¬ n = x := fun e => h e.symm
      have h1 : mget (((x :: st).zipIdx k).map fun p => (p.1, Value.int .i64 (p.2 : Nat))) n = mget ((st.zipIdx (k + 1)).map fun p => (p.1, Value.int .i64 (p.2 : Nat))) n := by
        simp [mget, List.zipIdx_cons, h']
      rw [h1, ih]
      simp only [List.mem_cons, hn, false_or, List.idxOf_cons, h', cond_false]
      split
      · congr 3; omega
      · rfl

theorem seenL_at (st : List Int) (n : Int) : mget (seenL st) n = if n ∈ st then some (.int .i64 ((st.idxOf n : Nat) : Int)) else none := by
  have := seenL_get n st 0
  simpa [seenL] using this

theorem seenL_length (st : List Int) : (seenL st).length = st.length := by simp [seenL]

/-- the closure's state -/
def TiInv (p3 : Addr) (st : List Int) (M : Nat → Prop) (w : World) : Prop :=
  ∃ r, (∀ b, M b ↔ (b = p3.block ∨ b = r)) ∧ r ≠ p3.block ∧ w.cell? p3 = some (.map (some r)) ∧ MapIs w r (seenL st)

theorem tiInv_law (p3 : Addr) : StLaw (TiInv p3) := by
  refine ⟨fun st M w h b hb => ?_, fun st M w w' h hk => ?_⟩
  · obtain ⟨r, h1, h2, h3, h4⟩ := h
    rcases (h1 b).1 hb with rfl | rfl
    · exact World.block_lt_of_cell? w _ h3
    · exact h4.lt
  · obtain ⟨r, h1, h2, h3, h4⟩ := h
    refine ⟨r, h1, h2, ?_, h4.keeps hk ((h1 _).2 (.inr rfl))⟩
    rw [← h3]; exact World.cell?_of_block (hk.block _ (World.block_lt_of_cell? w _ h3) ((h1 _).2 (.inl rfl)))

theorem i64_nat {k : Nat} (h : k ≤ 4194304) : I64 (k : Int) := by unfold I64; omega

end Go.Proofs.Ytlpmfkpefoegeab

namespace Go.Proofs.Ytlpmfkpefoegeab
set_option linter.unusedVariables false
set_option linter.unusedSimpArgs false

/-- Tidy -/
def tidy (l : List Tm) : List Tm := (Tm.renSL seenF [] l).1

/-- 0 to k - 1 -/
def upTo (k : Nat) : List Int := (List.range k).map fun (i : Nat) => (i : Int)
theorem upTo_length (k : Nat) : (upTo k).length = k := by simp [upTo]
theorem upTo_succ (k : Nat) : upTo (k + 1) = upTo k ++ [(k : Int)] := by simp [upTo, List.range_succ]
theorem mem_upTo {k : Nat} {i : Int} : i ∈ upTo k ↔ 0 ≤ i ∧ i < k := by
  simp only [upTo, List.mem_map, List.mem_range]
  constructor
  · rintro ⟨j, hj, rfl⟩; omega
  · rintro ⟨h0, h1⟩; exact ⟨i.toNat, by omega, by omega⟩
theorem idxOf_upTo {k i : Nat} (h : i < k) : (upTo k).idxOf (i : Int) = i := by
  have hl : i < (upTo k).length := by rw [upTo_length]; exact h
  have hnd : (upTo k).Nodup := by
    unfold upTo
    rw [List.nodup_iff_pairwise_ne] at *
    exact List.Pairwise.map _ (fun a b (hab : a ≠ b) => fun e => hab (Int.ofNat_inj.1 e)) List.nodup_range
  have he : (upTo k)[i] = (i : Int) := by simp [upTo]
  have := hnd.idxOf_getElem i hl
  rw [he] at this
  exact this

theorem seenF_again (st : List Int) (n : Int) : seenF (upTo st.length) (seenF st n).1 = ((seenF st n).1, upTo (seenF st n).2.length) := by
  by_cases h : n ∈ st
  · have h1 := List.idxOf_lt_length_of_mem h
    have h2 : ((st.idxOf n : Nat) : Int) ∈ upTo st.length := mem_upTo.2 ⟨by omega, by omega⟩
    simp only [seenF, h, if_true, h2, idxOf_upTo h1]
  · have h2 : ¬ ((st.length : Nat) : Int) ∈ upTo st.length := fun h => by have := mem_upTo.1 h; omega
    simp only [seenF, h, if_false, h2, upTo_length, List.length_append, List.length_singleton, upTo_succ]

theorem renS_again : ∀ (t : Tm) (st : List Int), (t.renS seenF st).1.renS seenF (upTo st.length) = ((t.renS seenF st).1, upTo (t.renS seenF st).2.length) := by
  intro t
  induction t using Tm.induct with
  | h k n s l ih =>
    intro st
    have hL : ∀ (r : List Tm), (∀ t ∈ r, t ∈ l) → ∀ st : List Int, Tm.renSL seenF (upTo st.length) (Tm.renSL seenF st r).1 = ((Tm.renSL seenF st r).1, upTo (Tm.renSL seenF st r).2.length) := by
      intro r
      induction r with
      | nil => intro _ st; rfl
      | cons x r ihr =>
        intro hm st
        have h1 := ih x (hm x (List.mem_cons_self ..)) st
        have h2 := ihr (fun t ht => hm t (List.mem_cons_of_mem _ ht)) (x.renS seenF st).2
        simp only [Tm.renSL, h1, h2]
    have hn : Tm.num seenF (upTo st.length) k (Tm.num seenF st k n).1 = ((Tm.num seenF st k n).1, upTo (Tm.num seenF st k n).2.length) := by
      unfold Tm.num
      by_cases e : k = 0
      · simp only [e, if_true]; exact seenF_again st n
      · simp only [e, if_false]
    simp only [Tm.renS, hn, hL l (fun _ h => h)]

theorem renSL_again (l : List Tm) : ∀ (st : List Int), Tm.renSL seenF (upTo st.length) (Tm.renSL seenF st l).1 = ((Tm.renSL seenF st l).1, upTo (Tm.renSL seenF st l).2.length) := by
  induction l with
  | nil => intro st; rfl
  | cons x r ihr =>
    intro st
    simp only [Tm.renSL, renS_again x st, ihr (x.renS seenF st).2]

/-- what is tidy is tidy -/
theorem tidy_tidy (l : List Tm) : tidy (tidy l) = tidy l := by
  have := renSL_again l []
  simp only [List.length_nil, upTo, List.range_zero, List.map_nil] at this
  unfold tidy
  rw [this]

namespace Tm
/-- every variable's number meets p -/
inductive Vars (p : Int → Prop) : Tm → Prop where
  | mk (k n : Int) (s : ByteArray) (l : List Tm) (h : k = 0 → p n) (hl : ∀ t ∈ l, Vars p t) : Vars p (mk k n s l)

theorem Good.vars {v : Int} : ∀ {t : Tm}, t.Good v → t.Vars (fun n => 0 ≤ n ∧ n < v) := by
  intro t
  induction t using induct with
  | h k n s l ih =>
    intro h
    cases h with
    | var _ h0 h1 => exact .mk _ _ _ _ (fun _ => ⟨h0, h1⟩) (fun t ht => by cases ht)
    | atom _ _ => exact .mk _ _ _ _ (fun h => by cases h) (fun t ht => by cases ht)
    | int _ _ _ => exact .mk _ _ _ _ (fun h => by cases h) (fun t ht => by cases ht)
    | comp _ _ _ _ _ _ h4 => exact .mk _ _ _ _ (fun h => by cases h) (fun t ht => ih t ht (h4 t ht))
end Tm

section
variable {p : Int → Prop} {g : Int → Int}
theorem mem_map_inj (hg : ∀ a b, p a → p b → g a = g b → a = b) {st : List Int} (hst : ∀ x ∈ st, p x) {n : Int} (hn : p n) : g n ∈ st.map g ↔ n ∈ st := by
  constructor
  · intro h
    obtain ⟨x, hx, he⟩ := List.mem_map.1 h
    rw [hg n x hn (hst x hx) he.symm]; exact hx
  · exact fun h => List.mem_map.2 ⟨n, h, rfl⟩
theorem idxOf_map_inj (hg : ∀ a b, p a → p b → g a = g b → a = b) {n : Int} (hn : p n) : ∀ {st : List Int}, (∀ x ∈ st, p x) → (st.map g).idxOf (g n) = st.idxOf n
  | [], _ => rfl
  | x :: st, hst => by
    have ih := idxOf_map_inj hg hn (st := st) (fun y hy => hst y (List.mem_cons_of_mem _ hy))
    by_cases h : x = n
    · subst h; simp
    · have h1 : ¬ g x = g n := fun e => h (hg x n (hst x (List.mem_cons_self ..)) hn e)
      simp only [List.map_cons, List.idxOf_cons, ih]
      have h2 : (x == n) = false := by simpa using h
      have h3 : (g x == g n) = false := by simpa using h1
      rw [h2, h3]

theorem seenF_map (hg : ∀ a b, p a → p b → g a = g b → a = b) {st : List Int} (hst : ∀ x ∈ st, p x) {n : Int} (hn : p n) :
    seenF (st.map g) (g n) = ((seenF st n).1, (seenF st n).2.map g) ∧ ∀ x ∈ (seenF st n).2, p x := by
  by_cases h : n ∈ st
  · have h1 := (mem_map_inj hg hst hn).2 h
    simp only [seenF, h, if_true, h1, idxOf_map_inj hg hn hst]
    exact ⟨trivial, hst⟩
  · have h1 : ¬ g n ∈ st.map g := fun e => h ((mem_map_inj hg hst hn).1 e)
    simp only [seenF, h, if_false, h1, List.length_map, List.map_append, List.map_cons, List.map_nil]
    refine ⟨trivial, fun x hx => ?_⟩
    rcases List.mem_append.1 hx with hx | hx
    · exact hst x hx
    · simp only [List.mem_singleton] at hx; subst hx; exact hn

theorem renS_map (hg : ∀ a b, p a → p b → g a = g b → a = b) : ∀ (t : Tm) (st : List Int), t.Vars p → (∀ x ∈ st, p x) →
    (t.ren g).renS seenF (st.map g) = ((t.renS seenF st).1, (t.renS seenF st).2.map g) ∧ ∀ x ∈ (t.renS seenF st).2, p x := by
  intro t
  induction t using Tm.induct with
  | h k n s l ih =>
    intro st hv hst
    obtain ⟨_, _, _, _, hp, hl⟩ := hv
    have hn : Tm.num seenF (st.map g) k (if k = 0 then g n else n) = ((Tm.num seenF st k n).1, (Tm.num seenF st k n).2.map g) ∧ ∀ x ∈ (Tm.num seenF st k n).2, p x := by
      unfold Tm.num
      by_cases e : k = 0
      · simp only [e, if_true]; exact seenF_map hg hst (hp e)
      · simp only [e, if_false]; exact ⟨trivial, hst⟩
    have hL : ∀ (r : List Tm), (∀ t ∈ r, t ∈ l) → ∀ st : List Int, (∀ x ∈ st, p x) → Tm.renSL seenF (st.map g) (Tm.renL g r) = ((Tm.renSL seenF st r).1, (Tm.renSL seenF st r).2.map g) ∧ ∀ x ∈ (Tm.renSL seenF st r).2, p x := by
      intro r
      induction r with
      | nil => intro _ st hst; exact ⟨rfl, hst⟩
      | cons x r ihr =>
        intro hm st hst
        obtain ⟨h1, h2⟩ := ih x (hm x (List.mem_cons_self ..)) st (hl x (hm x (List.mem_cons_self ..))) hst
        obtain ⟨h3, h4⟩ := ihr (fun t ht => hm t (List.mem_cons_of_mem _ ht)) (x.renS seenF st).2 h2
        simp only [Tm.renL, Tm.renSL, h1, h3]
        exact ⟨trivial, h4⟩
    obtain ⟨h1, h2⟩ := hn
    obtain ⟨h3, h4⟩ := hL l (fun _ h => h) _ h2
    simp only [Tm.ren, Tm.renS, h1, h3]
    exact ⟨trivial, h4⟩

theorem renSL_map (hg : ∀ a b, p a → p b → g a = g b → a = b) (l : List Tm) : ∀ (st : List Int), (∀ t ∈ l, t.Vars p) → (∀ x ∈ st, p x) →
    Tm.renSL seenF (st.map g) (l.map (Tm.ren g)) = ((Tm.renSL seenF st l).1, (Tm.renSL seenF st l).2.map g) := by
  induction l with
  | nil => intro st _ _; rfl
  | cons x r ihr =>
    intro st hv hst
    obtain ⟨h1, h2⟩ := renS_map hg x st (hv x (List.mem_cons_self ..)) hst
    simp only [List.map_cons, Tm.renSL, h1, ihr _ (fun t ht => hv t (List.mem_cons_of_mem _ ht)) h2]

/-- it does not matter which numbers there were -/
theorem tidy_map (hg : ∀ a b, p a → p b → g a = g b → a = b) (l : List Tm) (hv : ∀ t ∈ l, t.Vars p) : tidy (l.map (Tm.ren g)) = tidy l := by
  unfold tidy
  rw [show ([] : List Int) = ([] : List Int).map g from rfl, renSL_map hg l [] hv (fun x hx => by cases hx)]
  rfl
end
end Go.Proofs.Ytlpmfkpefoegeab
