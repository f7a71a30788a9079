/-
  Variables renumbered, with a state that goes along.
  From a reading of an argument to what lies in memory: slices, terms.
  Cells and heaps: how they lie in memory.
  Names, and numbers brought into a range.
-/
import Derived.Test.YtlpmfkpefoegeabDoorQShift
import Derived.Test.YtlpmfkpefoegeabDoorRows
import Derived.Deep.Slices
import Derived.Lib.SmallJoins
import Derived.Below
import Derived.ChangeSame
import Derived.Test.YtlpmfkpefoegeabDoorQLib
import Derived.Test.YtlpmfkpefoegeabDoorQReg
import Derived.Test.YtlpmfkpefoegeabDoorProg
namespace Go.Proofs.YtlpmfkpefoegeabDoor
set_option linter.unusedVariables false
set_option linter.unusedSimpArgs false
open Go.RowKit
namespace Tm
mutual
/-- how many terms there are in one -/
def nodes : Tm → Nat
  | mk _ _ _ l => nodesL l + 1
def nodesL : List Tm → Nat
  | [] => 0
  | t :: r => nodes t + nodesL r
end
theorem nodes_pos (t : Tm) : 0 < t.nodes := by cases t; simp [nodes]
theorem nodesL_append (l r : List Tm) : nodesL (l ++ r) = nodesL l + nodesL r := by
  induction l with
  | nil => simp [nodesL]
  | cons t l ih => simp only [List.cons_append, nodesL, ih]; omega
theorem nodesL_take (l : List Tm) (j : Nat) (h : j < l.length) : nodesL (l.take j) + nodes l[j] ≤ nodesL l := by
  have h1 := nodesL_append (l.take (j + 1)) (l.drop (j + 1))
  rw [List.take_append_drop, List.take_succ_eq_append_getElem h, nodesL_append] at h1
  simp only [nodesL] at h1
  omega
variable {σ : Type}
def num (f : σ → Int → Int × σ) (st : σ) (k n : Int) : Int × σ := if k = 0 then f st n else (n, st)
mutual
/-- each variable's number as a function says that has a state, each term before its arguments -/
def renS (f : σ → Int → Int × σ) : σ → Tm → Tm × σ
  | st, mk k n s l => (mk k (num f st k n).1 s (renSL f (num f st k n).2 l).1, (renSL f (num f st k n).2 l).2)
def renSL (f : σ → Int → Int × σ) : σ → List Tm → List Tm × σ
  | st, [] => ([], st)
  | st, t :: r => ((renS f st t).1 :: (renSL f (renS f st t).2 r).1, (renSL f (renS f st t).2 r).2)
end
theorem renSL_snoc (f : σ → Int → Int × σ) (l : List Tm) : ∀ (st : σ) (t : Tm), renSL f st (l ++ [t]) = ((renSL f st l).1 ++ [(renS f (renSL f st l).2 t).1], (renS f (renSL f st l).2 t).2) := by
  induction l with
  | nil => intro st t; simp [renSL]
  | cons x r ih => intro st t; simp [renSL, ih]
theorem renSL_length (f : σ → Int → Int × σ) (l : List Tm) : ∀ st : σ, (renSL f st l).1.length = l.length := by
  induction l with
  | nil => intro st; simp [renSL]
  | cons x r ih => intro st; simp [renSL, ih]
theorem renSL_sz {sz : σ → Nat} {f : σ → Int → Int × σ} (hf : ∀ st n, sz (f st n).2 ≤ sz st + 1) :
    ∀ (t : Tm) (st : σ), sz (renS f st t).2 ≤ sz st + t.nodes := by
  intro t
  induction t using induct with
  | h k n s l ih =>
    intro st
    have hL : ∀ (r : List Tm), (∀ t ∈ r, t ∈ l) → ∀ st : σ, sz (renSL f st r).2 ≤ sz st + nodesL r := by
      intro r
      induction r with
      | nil => intro _ st; simp [renSL, nodesL]
      | cons x r ihr =>
        intro hm st
        simp only [renSL, nodesL]
        have h1 := ih x (hm x (List.mem_cons_self ..)) st
        have h2 := ihr (fun t ht => hm t (List.mem_cons_of_mem _ ht)) (renS f st x).2
        omega
    simp only [renS, nodes]
    have h1 := hL l (fun _ h => h) (num f st k n).2
    have h2 : sz (num f st k n).2 ≤ sz st + 1 := by
      unfold num
      split
      · exact hf st n
      · simp
    omega
theorem renSL_szL {sz : σ → Nat} {f : σ → Int → Int × σ} (hf : ∀ st n, sz (f st n).2 ≤ sz st + 1) (l : List Tm) : ∀ (st : σ), sz (renSL f st l).2 ≤ sz st + nodesL l := by
  induction l with
  | nil => intro st; simp [renSL, nodesL]
  | cons x r ih =>
    intro st
    simp only [renSL, nodesL]
    have h1 := renSL_sz hf x st
    have h2 := ih (renS f st x).2
    omega
end Tm
structure StLaw {σ : Type} (I : σ → (Nat → Prop) → World → Prop) : Prop where
  lt : ∀ st M w, I st M w → ∀ b, M b → b < w.heap.size
  keeps : ∀ st M w w', I st M w → Keeps M w w' → I st M w'
def RenPost {σ : Type} (I : σ → (Nat → Prop) → World → Prop) (M : Nat → Prop) (w : World) (r : Tm × σ) (e : Ending) (w' : World) : Prop :=
  ∃ us M', e = .returned (.agg us.toArray) ∧ Ch M w w' ∧ (∀ b, M' b → M b ∨ w.heap.size ≤ b) ∧ I r.2 M' w' ∧ Tm.rep (fun b => w.heap.size ≤ b ∧ ¬ M' b) w' r.1 us
def NumPost {σ : Type} (I : σ → (Nat → Prop) → World → Prop) (M : Nat → Prop) (w : World) (r : Int × σ) (e : Ending) (w' : World) : Prop :=
  e = .returned (.int .i64 r.1) ∧ I64 r.1 ∧ ∃ M', Ch M w w' ∧ (∀ b, M' b → M b ∨ w.heap.size ≤ b) ∧ I r.2 M' w'
end Go.Proofs.YtlpmfkpefoegeabDoor

namespace Go.Proofs.YtlpmfkpefoegeabDoor
set_option linter.unusedVariables false
set_option linter.unusedSimpArgs false
set_option maxRecDepth 100000
open Go.RowKit Go.WideShapes Go.ChangeShapes
theorem part_le {H : Type} {d : DataW H} {l : List (DataW H)} (h : d ∈ l) : Rows.uptoBulk d ≤ Rows.uptoBulkAll l := by
  induction l with
  | nil => cases h
  | cons x r ih =>
    simp only [Rows.uptoBulkAll]
    cases List.mem_cons.1 h with
    | inl e => subst e; omega
    | inr e => have := ih e; omega
theorem addr_form {w : World} {a : Addr} {v : Value} (h : w.cell? a = some v) : a = ⟨a.block, a.off, none⟩ := by
  obtain ⟨b, o, s⟩ := a
  cases s with
  | none => rfl
  | some k =>
    simp only [World.cell?] at h
    split at h <;> simp at h
theorem sum_le {H α : Type} (sz : α → Nat) (f : Nat → α) (D : Nat → DataW H) (L : List Nat) (h : ∀ i ∈ L, sz (f i) ≤ Rows.uptoBulk (D i)) :
    ((L.map f).map sz).sum ≤ Rows.uptoBulkAll (L.map D) := by
  induction L with
  | nil => simp [Rows.uptoBulkAll]
  | cons i r ih =>
    have h1 := h i (List.mem_cons_self ..)
    have h2 := ih (fun j hj => h j (List.mem_cons_of_mem _ hj))
    simp only [List.map_cons, List.sum_cons, Rows.uptoBulkAll]
    omega
theorem len_le {H : Type} (l : List (DataW H)) : l.length ≤ Rows.uptoBulkAll l := by
  induction l with
  | nil => simp [Rows.uptoBulkAll]
  | cons x r ih =>
    have : 1 ≤ Rows.uptoBulk x := by
      cases x with
      | lit l => cases l <;> simp [Rows.uptoBulk]
      | _ => simp [Rows.uptoBulk]
    simp only [Rows.uptoBulkAll, List.length_cons]
    omega
section
variable {H : Type} {enc : TypeId × Value → H} {P : Program} {W : World} {base : Nat} {sp : Nat → Bool} {held : Bool}
theorem open_sl {t e : TypeId} (ht : P.underlying t = some (.slice e)) {c : Nat} (hc : P.cellsOf e = c) (h0 : 0 < c) {α : Type} [Inhabited α] {R : (Nat → Prop) → World → α → List Value → Prop}
    {A : Nat → Prop} (hA : ∀ b, A b) (sz : α → Nat) {B : Nat} (hB : B ≤ 1048576) {fuel : Nat} {cs : List Value} {x : DataW H × List MemPlace}
    (hR : ∀ n cs' y, DataW.trod enc P W base sp held n e cs' = some y → Rows.uptoBulk y.1 < B → ∃ a, R A W a cs' ∧ sz a ≤ Rows.uptoBulk y.1)
    (hb : Rows.uptoBulk x.1 ≤ B) (h : DataW.trod enc P W base sp held fuel t cs = some x) :
    ∃ l v, cs = [v] ∧ SlR c R A W l v ∧ (l.map sz).sum + 1 ≤ Rows.uptoBulk x.1 ∧ l.length + 1 ≤ Rows.uptoBulk x.1 := by
  subst hc
  rcases Go.Deep.open_slice ht h with ⟨rfl, rfl⟩ | ⟨a, len, cap, m, n, D, Pl, rfl, _, hl, hm, hmm, rfl, hx⟩
  · refine ⟨[], _, rfl, ⟨0, 0, ⟨by simp, .inl ⟨rfl, none, 0, rfl, Nat.zero_le _⟩⟩, fun i x hx => by simp at hx⟩, by simp [Rows.uptoBulk], by simp [Rows.uptoBulk]⟩
  · have hbk : Rows.uptoBulkAll ((List.range len).map D) + 1 ≤ Rows.uptoBulk (DataW.slice ((List.range len).map D) ((List.range (m - len)).map fun j => D (len + j))) := by
      simp only [Rows.uptoBulk]; omega
    have hln := len_le ((List.range len).map D)
    simp only [List.length_map, List.length_range] at hln
    simp only at hb
    have hle : len ≤ m := by rw [hmm]; split <;> omega
    have key : ∀ i, i < len → ∃ y : α, (∃ cs', W.cells? base (a.add (i * P.cellsOf e)) (P.cellsOf e) = some cs' ∧ R A W y cs') ∧ sz y ≤ Rows.uptoBulk (D i) := fun i hi => by
      obtain ⟨cs', h1, h2⟩ := hx i (by omega)
      have h3 : Rows.uptoBulk (D i) ≤ Rows.uptoBulkAll ((List.range len).map D) := part_le (List.mem_map.2 ⟨i, List.mem_range.2 hi, rfl⟩)
      obtain ⟨y, h4, h5⟩ := hR n cs' _ h2 (by simp only; omega)
      exact ⟨y, ⟨cs', h1, h4⟩, h5⟩
    obtain ⟨f, hf⟩ := Go.Deep.choose_lt key
    have hsum := sum_le sz f D (List.range len) (fun i hi => (hf i (List.mem_range.1 hi)).2)
    refine ⟨(List.range len).map f, _, rfl, ?_, by simp only; omega, by simp only [List.length_map, List.length_range]; omega⟩
    by_cases hz : len = 0
    · subst hz
      exact ⟨0, 0, ⟨by simp, .inl ⟨by simp, some a, cap, rfl, hm⟩⟩, fun i x hx => by simp at hx⟩
    · have ha : a = ⟨a.block, a.off, none⟩ := by
        obtain ⟨⟨cs', h1, _⟩, _⟩ := hf 0 (by omega)
        obtain ⟨_, h6, h7⟩ := World.cells?_some h1
        have h8 := h7 0 (by omega)
        rw [List.getElem?_eq_getElem (by omega)] at h8
        have h9 : (a.add (0 * P.cellsOf e)).add 0 = a := by simp [Addr.add]
        rw [h9] at h8
        exact addr_form h8
      refine ⟨a.block, a.off, ⟨by simp only [List.length_map, List.length_range]; omega, .inr ⟨by simp only [List.length_map, List.length_range]; omega, hA _, cap, ?_, by simpa using hl, hm⟩⟩, fun i x hx => ?_⟩
      · simp only [List.length_map, List.length_range]; rw [← ha]
      · have hi : i < len := by have := (List.getElem?_eq_some_iff.1 hx).1; simpa using this
        simp only [List.getElem?_map, List.getElem?_range hi, Option.map_some, Option.some.injEq] at hx
        subst hx
        obtain ⟨⟨cs', h1, h2⟩, _⟩ := hf i hi
        obtain ⟨_, h6, h7⟩ := World.cells?_some h1
        refine ⟨cs', h6, h2, fun j v hj => ?_⟩
        have h8 := h7 j (by have := (List.getElem?_eq_some_iff.1 hj).1; omega)
        rw [hj] at h8
        rw [Go.Deep.add_add] at h8
        rw [← h8]
        congr 1
        rw [ha]
        unfold Addr.add
        split
        · simp; omega
        · simp
end
section
variable {H : Type} {enc : TypeId × Value → H} {W : World} {base : Nat} {sp : Nat → Bool} {held : Bool}
theorem Tm.nodesL_sum (l : List Tm) : Tm.nodesL l = (l.map Tm.nodes).sum := by
  induction l with
  | nil => rfl
  | cons t r ih => simp only [Tm.nodesL, List.map_cons, List.sum_cons, ih]
theorem cells_term : Program.cellsOf Tryd.prog 31 = 4 := by kernel_rfl
theorem cells_i : Program.cellsOf Tryd.prog 3 = 1 := by kernel_rfl
theorem cells_s : Program.cellsOf Tryd.prog 9 = 1 := by kernel_rfl
theorem cells_ts : Program.cellsOf Tryd.prog 29 = 1 := by kernel_rfl
theorem open_tm_B : ∀ (B : Nat), B ≤ 1048576 → ∀ (n : Nat) (cs : List Value) (y : DataW H × List MemPlace), DataW.trod enc Tryd.prog W base sp held n 31 cs = some y → Rows.uptoBulk y.1 ≤ B →
    ∃ t : Tm, Tm.rep (fun _ => True) W t cs ∧ t.nodes ≤ Rows.uptoBulk y.1 := by
  intro B
  induction B using Nat.strongRecOn with
  | _ B ih =>
    intro hB n cs y h hb
    obtain ⟨y0, y1, y2, y3, n', rfl, hl, h0, h1, h2, h3⟩ := Joins.trod_struct4 Tryd.underlying31 h
    simp only [cells_term, cells_i, cells_s, cells_ts] at hl h0 h1 h2 h3
    match cs, hl with
    | [c0, c1, c2, c3], _ =>
      simp only [List.drop_zero, List.drop_succ_cons, List.take_succ_cons, List.take_zero] at h0 h1 h2 h3
      obtain ⟨k, e0, rfl, k64⟩ := DataW.trod_int Tryd.underlying3 h0
      obtain ⟨m, e1, rfl, m64⟩ := DataW.trod_int Tryd.underlying3 h1
      obtain ⟨s, e2, rfl, hs⟩ := DataW.trod_string Tryd.underlying9 h2
      simp only [Rows.uptoBulk, Rows.uptoBulkAll] at hb ⊢
      have hs' : s.size = s.data.toList.length := by rfl
      obtain ⟨l, v, e3, hv, hn, _⟩ := open_sl Tryd.underlying29 cells_term (by omega) (R := Tm.rep) (A := fun _ => True) (fun _ => trivial) Tm.nodes (B := Rows.uptoBulk y3.1) (by omega)
        (fun n cs' y hy hlt => ih _ (by omega) (by omega) n cs' y hy (Nat.le_refl _)) (Nat.le_refl _) h3
      simp only [List.cons.injEq, and_true] at e0 e1 e2 e3
      subst e0 e1 e2 e3
      refine ⟨.mk k m s l, Tm.rep_iff.2 ⟨I64.of_wf k64, I64.of_wf m64, by omega, _, rfl, hv⟩, ?_⟩
      simp only [Tm.nodes, Tm.nodesL_sum]
      omega
theorem open_tm {n : Nat} {cs : List Value} {y : DataW H × List MemPlace} (h : DataW.trod enc Tryd.prog W base sp held n 31 cs = some y) (hb : Rows.uptoBulk y.1 ≤ 1048576) :
    ∃ t : Tm, Tm.rep (fun _ => True) W t cs ∧ t.nodes ≤ Rows.uptoBulk y.1 := open_tm_B 1048576 (Nat.le_refl _) n cs y h hb
theorem open_tms {r : Reach} {b0 : Nat} {v : Value} {d : DataW H} {ps : List MemPlace} (hval : Value.okWide Tryd.prog W r b0 29 v) (h : DataW.Trod enc Tryd.prog W base sp held 29 v d ps)
    (hb : Rows.uptoBulk d ≤ 1048576) : ∃ l : List Tm, TmsR (fun _ => True) W l v ∧ Tm.nodesL l + 1 ≤ Rows.uptoBulk d := by
  obtain ⟨a, len, cap, rfl⟩ := okWide_slice Tryd.underlying29 hval
  obtain ⟨fuel, hf⟩ := h
  obtain ⟨l, v, e3, hv, hn, _⟩ := open_sl Tryd.underlying29 cells_term (by omega) (R := Tm.rep) (A := fun _ => True) (fun _ => trivial) Tm.nodes (B := Rows.uptoBulk d) hb
        (fun n cs' y hy hlt => open_tm hy (by omega)) (Nat.le_refl _) hf
  simp only [Value.cells, List.cons.injEq, and_true] at e3
  subst e3
  exact ⟨l, hv, by rw [Tm.nodesL_sum]; exact hn⟩
end
section
variable {H : Type} {enc : TypeId × Value → H} {P : Program}
theorem post_of_below {f : Func} {s : ChangeSpec} {apart fresh handsOn again : Bool} {W W' : World} {args : Array Value} {v : Value} {ds gs : List (DataW H)} {before pa pv : List MemPlace}
    (hW : DataW.Whole enc P f.params.toList s.vars apart W args.toList ds gs before)
    (hres : ∀ (b : Nat) (sp : Nat → Bool) (hd : Bool), DataW.TrodAll enc P W' b sp hd f.resultTypes.toList (v.resultList f.resultTypes.size) (s.fn H (ds ++ gs)).results [])
    (hargs : ∀ sp : Nat → Bool, (∀ p ∈ before, sp p.block = true) → DataW.TrodAll enc P W' 0 sp true f.params.toList args.toList (s.fn H (ds ++ gs)).args pa)
    (hvars : ∀ sp : Nat → Bool, (∀ p ∈ before, sp p.block = true) → DataW.TrodVars enc P W' sp s.vars (s.fn H (ds ++ gs)).vars pv)
    (hps : before = pa ++ pv) (hb : Below W.heap.size W W')
    (hok : ∀ (j : Nat) (t : TypeId) (r : Value), f.resultTypes[j]? = some t → (v.resultList f.resultTypes.size)[j]? = some r → Value.okWide P W' .any 0 t r) :
    s.post enc P f apart fresh handsOn again W args v W' := by
  have hlt : ∀ p ∈ before, p.block < W.heap.size := fun p hp => hW.lt p hp
  have hold : ∀ p ∈ before, (fun b => decide (b < W.heap.size)) p.block = true := fun p hp => by simpa using hlt p hp
  refine ⟨ds, gs, before, [], pa, pv, hW, hres _ _ _, hargs _ hold, hvars _ hold, World.keptBut_mono (fun p hp => ⟨hp, ?_⟩) (hb.frame (· ∈ before)), fun _ => ?_⟩
  · rw [hps, List.mem_append] at hp
    exact Or.inr hp
  · obtain ⟨_, _, _, _, _, hz, hn⟩ := hW
    refine ⟨hok, _, _, ([] ++ pa) ++ pv, ⟨[] ++ pa, pv, trodAll_append (hargs _ (fun _ _ => rfl)) (hres _ _ _), hvars _ (fun _ _ => rfl), rfl, ?_, ?_⟩, ?_⟩
    · intro b off hp
      have hin : MemPlace.cell b off ∈ before := by rw [hps]; simpa using hp
      rw [hb.frozen (hlt _ hin)]
      exact hz b off hin
    · intro ha
      have := hn ha
      rw [hps] at this
      simpa using this
    · intro p hp _
      rw [hps]
      simpa using hp
end
end Go.Proofs.YtlpmfkpefoegeabDoor

namespace Go.Proofs.YtlpmfkpefoegeabDoor
set_option linter.unusedVariables false
set_option linter.unusedSimpArgs false
open Go.RowKit
structure Ce where
  kind : Int
  n : Int
  s : ByteArray
  deriving DecidableEq, Inhabited
def flatR {α : Type} (f : α → List Value) (ok : α → Prop) (_ : Nat → Prop) (_ : World) (x : α) (vs : List Value) : Prop := ok x ∧ vs = f x
theorem flatR_lasts {α : Type} {f : α → List Value} {ok : α → Prop} (h1 : ∀ x, ∀ u ∈ f x, u.oneCell' = true) : Lasts (flatR f ok) :=
  ⟨fun A w w' x vs h _ => h, fun A A' w x vs h _ => h, fun A w x vs h => by obtain ⟨_, rfl⟩ := h; exact h1 x⟩
def Ce.vals (c : Ce) : List Value := [.int .i64 c.kind, .int .i64 c.n, .string c.s]
def Ce.Ok (c : Ce) : Prop := I64 c.kind ∧ I64 c.n ∧ c.s.size ≤ 1048576
def Ce.rep : (Nat → Prop) → World → Ce → List Value → Prop := flatR Ce.vals Ce.Ok
theorem Ce.rep_lasts : Lasts Ce.rep := flatR_lasts fun x => by simp [Ce.vals, Value.oneCell']
def numV (n : Int) : List Value := [.int .i64 n]
def numR : (Nat → Prop) → World → Int → List Value → Prop := flatR numV I64
theorem numR_lasts : Lasts numR := flatR_lasts fun x => by simp [numV, Value.oneCell']
def boolV (b : Bool) : List Value := [.bool b]
def boolR : (Nat → Prop) → World → Bool → List Value → Prop := flatR boolV fun _ => True
theorem boolR_lasts : Lasts boolR := flatR_lasts fun x => by simp [boolV, Value.oneCell']
abbrev CesR := SlR 3 Ce.rep
abbrev NumsR := SlR 1 numR
abbrev BoolsR := SlR 1 boolR
structure Hp where
  cells : List Ce
  trail : List Int
  deriving DecidableEq, Inhabited
def Hp.rep (A : Nat → Prop) (w : World) (h : Hp) (vs : List Value) : Prop := ∃ c t, vs = [c, t] ∧ CesR A w h.cells c ∧ NumsR A w h.trail t
theorem Hp.rep_lasts : Lasts Hp.rep := by
  refine ⟨fun A w w' x vs h hk => ?_, fun A A' w x vs h hA => ?_, fun A w x vs h => ?_⟩
  · obtain ⟨c, t, rfl, hc, ht⟩ := h
    exact ⟨c, t, rfl, hc.keeps Ce.rep_lasts hk, ht.keeps numR_lasts hk⟩
  · obtain ⟨c, t, rfl, hc, ht⟩ := h
    exact ⟨c, t, rfl, hc.mono Ce.rep_lasts (by omega) hA, ht.mono numR_lasts (by omega) hA⟩
  · obtain ⟨c, t, rfl, hc, ht⟩ := h
    obtain ⟨_, _, _, _, rfl, _⟩ := hc.at
    obtain ⟨_, _, _, _, rfl, _⟩ := ht.at
    simp [Value.oneCell']
theorem Hp.rep.keeps {A : Nat → Prop} {w w' : World} {h : Hp} {vs : List Value} (hh : Hp.rep A w h vs) (hk : Keeps A w w') : Hp.rep A w' h vs := Hp.rep_lasts.1 _ _ _ _ _ hh hk
theorem Hp.rep.below {A : Nat → Prop} {w w' : World} {h : Hp} {vs : List Value} (hh : Hp.rep A w h vs) (hk : Below w.heap.size w w') : Hp.rep A w' h vs := hh.keeps (Keeps.of_below hk)
theorem Hp.rep.mono {A A' : Nat → Prop} {w : World} {h : Hp} {vs : List Value} (hh : Hp.rep A w h vs) (hA : ∀ b, b < w.heap.size → A b → A' b) : Hp.rep A' w h vs := Hp.rep_lasts.2.1 _ _ _ _ _ hh hA
end Go.Proofs.YtlpmfkpefoegeabDoor

namespace Go.Proofs.YtlpmfkpefoegeabDoor
set_option linter.unusedVariables false
set_option linter.unusedSimpArgs false
open Go.RowKit
def Tells (w : World) (p : Prop) (e : Ending) (w' : World) : Prop := ∃ r, e = .returned (.bool r) ∧ (r = true ↔ p) ∧ w = w'
def IsName (s : ByteArray) : Prop := s = ⟨#[33]⟩ ∨ (1 ≤ s.size ∧ s.size ≤ 8 ∧ ∀ i (h : i < s.size), 97 ≤ (s[i].toNat : Int) ∧ (s[i].toNat : Int) ≤ 122)
theorem toList_inj' {s s' : ByteArray} (h : s.toList = s'.toList) : s = s' := by
  rw [ByteArray.toList_eq, ByteArray.toList_eq] at h
  cases s; cases s'
  congr 1
  exact Array.toList_inj.1 h
set_option maxHeartbeats 400000 in
theorem named_ok (s : ByteArray) (w : World) (hs : s.size ≤ 1048576) :
    Calls Tryd.prog 13 #[.string s] w (Tells w (IsName s)) := by
  have hc : (⟨#[33]⟩ : ByteArray).toList = [33] := by decide +kernel
  by_cases h1 : s.toList = (⟨#[33]⟩ : ByteArray).toList
  · have h1b : (s.toList == [33]) = true := by rw [h1, hc]; rfl
    have hn : IsName s := .inl (toList_inj' h1)
    have HN := hid hn
    clear hn h1 hc
    go_enter Tryd.func13, Tryd.ntmps13
    go_wp2_with fail
    go_ret
    exact ⟨true, rfl, by simp [HN.out], rfl⟩
  · have h1' : ¬ s = ⟨#[33]⟩ := fun e => h1 (by rw [e])
    have h1b : (s.toList == [33]) = false := by rw [hc] at h1; simpa using h1
    have HN := hid h1'
    clear h1' h1 hc
    go_enter Tryd.func13, Tryd.ntmps13
    go_wp2_with fail
    go_loop [8] (fun i => ∃ k : Nat, k ≤ s.size ∧ i = .int .i64 k ∧ ∀ j (h : j < s.size), j < k → 97 ≤ (s[j].toNat : Int) ∧ (s[j].toNat : Int) ≤ 122) (fun i => s.size - (intOf i).toNat)
    case atStart => exact ⟨0, Nat.zero_le _, rfl, fun j _ h => by omega⟩
    case round =>
      obtain ⟨k, hk, rfl, hp⟩ := hrel
      have HP := hid hp
      clear hp
      by_cases hlt : k < s.size
      · by_cases g1 : (s[k].toNat : Int) < 97
        · go_wp2_with fail
          go_ret
          refine ⟨false, rfl, ?_, rfl⟩
          simp only [Bool.false_eq_true, false_iff]
          rintro (h | ⟨_, _, h⟩)
          · exact HN.out h
          · have := h k hlt; omega
        · by_cases g2 : 122 < (s[k].toNat : Int)
          · go_wp2_with fail
            go_ret
            refine ⟨false, rfl, ?_, rfl⟩
            simp only [Bool.false_eq_true, false_iff]
            rintro (h | ⟨_, _, h⟩)
            · exact HN.out h
            · have := h k hlt; omega
          · go_wp2_with fail
            go_round
            case rel =>
              refine ⟨k + 1, by omega, by go_num, fun j h hj => ?_⟩
              by_cases hjk : j = k
              · subst hjk; omega
              · exact HP.out j h (by omega)
            case measure => simp [intOf]; omega
      · have : k = s.size := by omega
        subst this
        by_cases g1 : 1 ≤ s.size
        · go_wp2_with fail
          go_ret
          refine ⟨decide ((s.size : Int) ≤ 8), by simp, ?_, rfl⟩
          rw [decide_eq_true_iff]
          constructor
          · exact fun h => .inr ⟨g1, by omega, fun i hi => HP.out i hi hi⟩
          · rintro (h | ⟨_, h, _⟩)
            · exact absurd h HN.out
            · omega
        · have g1' : decide ((1 : Int) ≤ (s.size : Int)) = false := by simp; omega
          go_wp2_with fail
          go_ret
          refine ⟨false, by simp, ?_, rfl⟩
          simp only [Bool.false_eq_true, false_iff]
          rintro (h | ⟨h, _, _⟩)
          · exact HN.out h
          · omega
end Go.Proofs.YtlpmfkpefoegeabDoor
