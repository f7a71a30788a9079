/-
  Cells and heaps: how they lie in memory.
  From a reading of an argument to what lies in memory: heaps, slices of cells and of numbers.
  Names, and numbers brought into a range.
-/
import Derived.Test.YtlpmfkpefoegeabQLib
import Derived.Test.YtlpmfkpefoegeabROpen
import Derived.Deep.Strs
import Derived.Test.YtlpmfkpefoegeabQReg
import Derived.Test.YtlpmfkpefoegeabProg
namespace Go.Proofs.Ytlpmfkpefoegeab
set_option linter.unusedVariables false
set_option linter.unusedSimpArgs false
open Go.RowKit

/-- a cell -/
structure Ce where
  kind : Int
  n : Int
  s : ByteArray
  deriving DecidableEq, Inhabited

/-- how an element reads that leads nowhere: its cells are f's -/
def flatR {α : Type} (f : α → List Value) (ok : α → Prop) (_ : Nat → Prop) (_ : World) (x : α) (vs : List Value) : Prop := ok x ∧ vs = f x
theorem flatR_lasts {α : Type} {f : α → List Value} {ok : α → Prop} (h1 : ∀ x, ∀ u ∈ f x, u.oneCell' = true) : Lasts (flatR f ok) :=
  ⟨fun A w w' x vs h _ => h, fun A A' w x vs h _ => h, fun A w x vs h => by obtain ⟨_, rfl⟩ := h; exact h1 x⟩

/-- a cell's three cells -/
def Ce.vals (c : Ce) : List Value := [.int .i64 c.kind, .int .i64 c.n, .string c.s]
def Ce.Ok (c : Ce) : Prop := I64 c.kind ∧ I64 c.n ∧ c.s.size ≤ 1048576
/-- how a cell's three cells read -/
def Ce.rep : (Nat → Prop) → World → Ce → List Value → Prop := flatR Ce.vals Ce.Ok
theorem Ce.rep_lasts : Lasts Ce.rep := flatR_lasts fun x => by simp [Ce.vals, Value.oneCell']

/-- a number's cell -/
def numV (n : Int) : List Value := [.int .i64 n]
/-- how a number's cell reads -/
def numR : (Nat → Prop) → World → Int → List Value → Prop := flatR numV I64
theorem numR_lasts : Lasts numR := flatR_lasts fun x => by simp [numV, Value.oneCell']

/-- a truth value's cell -/
def boolV (b : Bool) : List Value := [.bool b]
/-- how a truth value's cell reads -/
def boolR : (Nat → Prop) → World → Bool → List Value → Prop := flatR boolV fun _ => True
theorem boolR_lasts : Lasts boolR := flatR_lasts fun x => by simp [boolV, Value.oneCell']

abbrev CesR := SlR 3 Ce.rep
abbrev NumsR := SlR 1 numR
abbrev BoolsR := SlR 1 boolR

/-- a heap -/
structure Hp where
  cells : List Ce
  trail : List Int
  deriving DecidableEq, Inhabited

/-- how a heap's two cells read -/
def Hp.rep (A : Nat → Prop) (w : World) (h : Hp) (vs : List Value) : Prop := ∃ c t, vs = [c, t] ∧ CesR A w h.cells c ∧ NumsR A w h.trail t

theorem Hp.rep_lasts : Lasts Hp.rep := by
  refine ⟨fun A w w' x vs h hk => ?_, fun A A' w x vs h hA => ?_, fun A w x vs h => ?_⟩
  · obtain ⟨c, t, rfl, hc, ht⟩ := h
    exact ⟨c, t, rfl, hc.keeps Ce.rep_lasts hk, ht.keeps numR_lasts hk⟩
  · obtain ⟨c, t, rfl, hc, ht⟩ := h
    exact ⟨c, t, rfl, hc.mono Ce.rep_lasts (by omega) hA, ht.mono numR_lasts (by omega) hA⟩
  · obtain ⟨c, t, rfl, hc, ht⟩ := h
    obtain ⟨_, _, _, _, rfl, _⟩ := hc.at
    obtain ⟨_, _, _, _, rfl, _⟩ := ht.at
    simp [Value.oneCell']

theorem Hp.rep.keeps {A : Nat → Prop} {w w' : World} {h : Hp} {vs : List Value} (hh : Hp.rep A w h vs) (hk : Keeps A w w') : Hp.rep A w' h vs := Hp.rep_lasts.1 _ _ _ _ _ hh hk
theorem Hp.rep.below {A : Nat → Prop} {w w' : World} {h : Hp} {vs : List Value} (hh : Hp.rep A w h vs) (hk : Below w.heap.size w w') : Hp.rep A w' h vs := hh.keeps (Keeps.of_below hk)
theorem Hp.rep.mono {A A' : Nat → Prop} {w : World} {h : Hp} {vs : List Value} (hh : Hp.rep A w h vs) (hA : ∀ b, b < w.heap.size → A b → A' b) : Hp.rep A' w h vs := Hp.rep_lasts.2.1 _ _ _ _ _ hh hA

/-- a heap's two cells, as values -/
theorem Hp.rep2 {A : Nat → Prop} {w : World} {h : Hp} {vs : List Value} (hh : Hp.rep A w h vs) :
    ∃ a cap b tap, vs = [.slice a h.cells.length cap, .slice b h.trail.length tap] ∧ h.cells.length ≤ cap ∧ cap ≤ maxLen ∧ h.cells.length ≤ 1048576 ∧ h.trail.length ≤ tap ∧ tap ≤ maxLen ∧ h.trail.length ≤ 1048576 ∧
      CesR A w h.cells (.slice a h.cells.length cap) ∧ NumsR A w h.trail (.slice b h.trail.length tap) := by
  obtain ⟨c, t, rfl, hc, ht⟩ := hh
  obtain ⟨a, cap, _, _, rfl, h1, h2, h3, -⟩ := hc.at
  obtain ⟨b, tap, _, _, rfl, h4, h5, h6, -⟩ := ht.at
  exact ⟨a, cap, b, tap, rfl, h1, h2, h3, h4, h5, h6, hc, ht⟩

theorem rowAt3 {w : World} {b off : Nat} {v0 v1 v2 : Value} (h : RowAt w b off [v0, v1, v2]) :
    w.cell? ⟨b, off, none⟩ = some v0 ∧ w.cell? ⟨b, off + 1, none⟩ = some v1 ∧ w.cell? ⟨b, off + 2, none⟩ = some v2 := ⟨h 0 _ rfl, h 1 _ rfl, h 2 _ rfl⟩

/-- a cell among others, as it is later on -/
theorem ce_cells {A : Nat → Prop} {w wr : World} {l : List Ce} {b off : Nat} (he : Elems A w 3 Ce.rep l b off) (hA : A b) (hk : Keeps A w wr) {k : Nat} (hlt : k < l.length) :
    wr.cell? ⟨b, off + k * 3, none⟩ = some (.int .i64 l[k].kind) ∧ wr.cell? ⟨b, off + k * 3 + 1, none⟩ = some (.int .i64 l[k].n) ∧ wr.cell? ⟨b, off + k * 3 + 2, none⟩ = some (.string l[k].s) ∧ I64 l[k].kind ∧ I64 l[k].n ∧ l[k].s.size ≤ 1048576 := by
  obtain ⟨vs, hvl, ⟨⟨h1, h2, h3⟩, rfl⟩, hrow⟩ := he k _ (List.getElem?_eq_getElem hlt)
  obtain ⟨c0, c1, c2⟩ := rowAt3 (RowAt.keeps hA hrow hk)
  exact ⟨c0, c1, c2, h1, h2, h3⟩

/-- a number among others, as it is later on -/
theorem num_cell {A : Nat → Prop} {w wr : World} {l : List Int} {b off : Nat} (he : Elems A w 1 numR l b off) (hA : A b) (hk : Keeps A w wr) {k : Nat} (hlt : k < l.length) :
    wr.cell? ⟨b, off + k, none⟩ = some (.int .i64 l[k]) ∧ I64 l[k] := by
  obtain ⟨vs, hvl, ⟨h1, rfl⟩, hrow⟩ := he k _ (List.getElem?_eq_getElem hlt)
  have := (RowAt.keeps hA hrow hk) 0 _ rfl
  exact ⟨by simpa using this, h1⟩

end Go.Proofs.Ytlpmfkpefoegeab

namespace Go.Proofs.Ytlpmfkpefoegeab
set_option linter.unusedVariables false
set_option linter.unusedSimpArgs false
set_option maxRecDepth 100000
open Go.RowKit Go.WideShapes Go.ChangeShapes

section
variable {H : Type} {enc : TypeId × Value → H} {W : World} {base : Nat} {sp : Nat → Bool} {held : Bool}

theorem cells_cell : Program.cellsOf Try.prog 71 = 3 := by kernel_rfl
theorem cells_cs : Program.cellsOf Try.prog 27 = 1 := by kernel_rfl
theorem cells_ns : Program.cellsOf Try.prog 28 = 1 := by kernel_rfl
theorem cells_heap : Program.cellsOf Try.prog 30 = 2 := by kernel_rfl

/-- a cell that reads -/
theorem open_ce {n : Nat} {cs : List Value} {y : DataW H × List MemPlace} (h : DataW.trod enc Try.prog W base sp held n 71 cs = some y) (hb : Rows.uptoBulk y.1 ≤ 1048576) :
    ∃ c : Ce, Ce.rep (fun _ => True) W c cs ∧ 0 ≤ Rows.uptoBulk y.1 := by
  obtain ⟨y0, y1, y2, n', rfl, hl, h0, h1, h2⟩ := Deep.trod_struct3 Try.underlying71 h
  simp only [cells_cell, cells_i, cells_s] at hl h0 h1 h2
  match cs, hl with
  | [c0, c1, c2], _ =>
    simp only [List.drop_zero, List.drop_succ_cons, List.take_succ_cons, List.take_zero] at h0 h1 h2
    obtain ⟨k, e0, rfl, k64⟩ := DataW.trod_int Try.underlying3 h0
    obtain ⟨m, e1, rfl, m64⟩ := DataW.trod_int Try.underlying3 h1
    obtain ⟨s, e2, rfl, hs⟩ := DataW.trod_string Try.underlying9 h2
    simp only [Rows.uptoBulk, Rows.uptoBulkAll] at hb ⊢
    have hs' : s.size = s.data.toList.length := by rfl
    simp only [List.cons.injEq, and_true] at e0 e1 e2
    subst e0 e1 e2
    exact ⟨⟨k, m, s⟩, ⟨⟨I64.of_wf k64, I64.of_wf m64, by simp only; omega⟩, rfl⟩, by omega⟩

/-- a slice of cells that reads -/
theorem open_cs {n : Nat} {cs : List Value} {y : DataW H × List MemPlace} (h : DataW.trod enc Try.prog W base sp held n 27 cs = some y) (hb : Rows.uptoBulk y.1 ≤ 1048576) :
    ∃ (l : List Ce) (v : Value), cs = [v] ∧ CesR (fun _ => True) W l v ∧ l.length + 1 ≤ Rows.uptoBulk y.1 := by
  obtain ⟨l, v, e3, hv, -, hn⟩ := open_sl Try.underlying27 cells_cell (by omega) (R := Ce.rep) (A := fun _ => True) (fun _ => trivial) (fun _ => 0) (B := Rows.uptoBulk y.1) hb
    (fun n cs' y hy hlt => open_ce hy (by omega)) (Nat.le_refl _) h
  exact ⟨l, v, e3, hv, hn⟩

/-- a slice of numbers that reads -/
theorem open_ns {n : Nat} {cs : List Value} {y : DataW H × List MemPlace} (h : DataW.trod enc Try.prog W base sp held n 28 cs = some y) (hb : Rows.uptoBulk y.1 ≤ 1048576) :
    ∃ (l : List Int) (v : Value), cs = [v] ∧ NumsR (fun _ => True) W l v ∧ l.length + 1 ≤ Rows.uptoBulk y.1 := by
  obtain ⟨l, v, e3, hv, -, hn⟩ := open_sl Try.underlying28 cells_i (by omega) (R := numR) (A := fun _ => True) (fun _ => trivial) (fun _ => 0) (B := Rows.uptoBulk y.1) hb
    (fun n cs' y hy hlt => by
      obtain ⟨k, e0, h1, k64⟩ := DataW.trod_int Try.underlying3 hy
      exact ⟨k, ⟨I64.of_wf k64, e0⟩, Nat.zero_le _⟩) (Nat.le_refl _) h
  exact ⟨l, v, e3, hv, hn⟩

/-- an argument that is a slice of cells -/
theorem open_cells {r : Reach} {b0 : Nat} {v : Value} {d : DataW H} {ps : List MemPlace} (hval : Value.okWide Try.prog W r b0 27 v) (h : DataW.Trod enc Try.prog W base sp held 27 v d ps)
    (hb : Rows.uptoBulk d ≤ 1048576) : ∃ l : List Ce, CesR (fun _ => True) W l v ∧ l.length + 1 ≤ Rows.uptoBulk d := by
  obtain ⟨a, len, cap, rfl⟩ := okWide_slice Try.underlying27 hval
  obtain ⟨fuel, hf⟩ := h
  obtain ⟨l, v, e3, hv, hn⟩ := open_cs hf hb
  simp only [Value.cells, List.cons.injEq, and_true] at e3
  subst e3
  exact ⟨l, hv, hn⟩

/-- an argument that is a slice of numbers -/
theorem open_nums {r : Reach} {b0 : Nat} {v : Value} {d : DataW H} {ps : List MemPlace} (hval : Value.okWide Try.prog W r b0 28 v) (h : DataW.Trod enc Try.prog W base sp held 28 v d ps)
    (hb : Rows.uptoBulk d ≤ 1048576) : ∃ l : List Int, NumsR (fun _ => True) W l v ∧ l.length + 1 ≤ Rows.uptoBulk d := by
  obtain ⟨a, len, cap, rfl⟩ := okWide_slice Try.underlying28 hval
  obtain ⟨fuel, hf⟩ := h
  obtain ⟨l, v, e3, hv, hn⟩ := open_ns hf hb
  simp only [Value.cells, List.cons.injEq, and_true] at e3
  subst e3
  exact ⟨l, hv, hn⟩

/-- an argument that is a heap -/
theorem open_heap {r : Reach} {b0 : Nat} {v : Value} {d : DataW H} {ps : List MemPlace} (hval : Value.okWide Try.prog W r b0 30 v) (h : DataW.Trod enc Try.prog W base sp held 30 v d ps)
    (hb : Rows.uptoBulk d ≤ 1048576) : ∃ (t : Hp) (us : List Value), v = .agg us.toArray ∧ Hp.rep (fun _ => True) W t us ∧ t.cells.length + t.trail.length + 1 ≤ Rows.uptoBulk d := by
  unfold Value.okWide at hval
  rw [Try.underlying30] at hval
  obtain ⟨cs, rfl, -, -⟩ := hval
  obtain ⟨fuel, hf⟩ := h
  obtain ⟨y0, y1, n', e, hl, h0, h1⟩ := trod_struct2 Try.underlying30 hf
  simp only [Prod.mk.injEq] at e
  obtain ⟨rfl, rfl⟩ := e
  simp only [cells_heap, cells_cs, cells_ns] at hl h0 h1
  simp only [Rows.uptoBulk, Rows.uptoBulkAll] at hb ⊢
  have e : (Value.agg cs).cells.toList = cs.toList := by simp [Value.cells]
  obtain ⟨c0, c1, rfl⟩ : ∃ c0 c1, cs = #[c0, c1] := by
    obtain ⟨l⟩ := cs
    match l, hl with
    | [c0, c1], _ => exact ⟨c0, c1, rfl⟩
  simp only [Value.cells, List.drop_zero, List.drop_succ_cons, List.take_succ_cons, List.take_zero] at h0 h1
  obtain ⟨l, u, e0, hu, hn0⟩ := open_cs h0 (by omega)
  obtain ⟨t, u', e1, hu', hn1⟩ := open_ns h1 (by omega)
  simp only [List.cons.injEq, and_true] at e0 e1
  subst e0 e1
  exact ⟨⟨l, t⟩, [_, _], rfl, ⟨_, _, rfl, hu, hu'⟩, by simp only; omega⟩
end
end Go.Proofs.Ytlpmfkpefoegeab

namespace Go.Proofs.Ytlpmfkpefoegeab
set_option linter.unusedVariables false
set_option linter.unusedSimpArgs false
open Go.RowKit

/-- a call tells whether something holds, and does nothing else -/
def Tells (w : World) (p : Prop) (e : Ending) (w' : World) : Prop := ∃ r, e = .returned (.bool r) ∧ (r = true ↔ p) ∧ w = w'

/-- a name -/
def IsName (s : ByteArray) : Prop := s = ⟨#[33]⟩ ∨ (1 ≤ s.size ∧ s.size ≤ 8 ∧ ∀ i (h : i < s.size), 97 ≤ (s[i].toNat : Int) ∧ (s[i].toNat : Int) ≤ 122)

theorem toList_inj' {s s' : ByteArray} (h : s.toList = s'.toList) : s = s' := by
  rw [ByteArray.toList_eq, ByteArray.toList_eq] at h
  cases s; cases s'
  congr 1
  exact Array.toList_inj.1 h

set_option maxHeartbeats 400000 in
theorem named_ok (s : ByteArray) (w : World) (hs : s.size ≤ 1048576) :
    Calls Try.prog 46 #[.string s] w (Tells w (IsName s)) := by
  have hc : (⟨#[33]⟩ : ByteArray).toList = [33] := by decide +kernel
  by_cases h1 : s.toList = (⟨#[33]⟩ : ByteArray).toList
  · have h1b : (s.toList == [33]) = true := by rw [h1, hc]; rfl
    have hn : IsName s := .inl (toList_inj' h1)
    have HN := hid hn
    clear hn h1 hc
    go_enter Try.func46, Try.ntmps46
    go_wp2_with fail
    go_ret
    exact ⟨true, rfl, by simp [HN.out], rfl⟩
  · have h1' : ¬ s = ⟨#[33]⟩ := fun e => h1 (by rw [e])
    have h1b : (s.toList == [33]) = false := by rw [hc] at h1; simpa using h1
    have HN := hid h1'
    clear h1' h1 hc
    go_enter Try.func46, Try.ntmps46
    go_wp2_with fail
    go_loop [8] (fun i => ∃ k : Nat, k ≤ s.size ∧ i = .int .i64 k ∧ ∀ j (h : j < s.size), j < k → 97 ≤ (s[j].toNat : Int) ∧ (s[j].toNat : Int) ≤ 122) (fun i => s.size - (intOf i).toNat)
    case atStart => exact ⟨0, Nat.zero_le _, rfl, fun j _ h => by omega⟩
    case round =>
      obtain ⟨k, hk, rfl, hp⟩ := hrel
      have HP := hid hp
      clear hp
      by_cases hlt : k < s.size
      · by_cases g1 : (s[k].toNat : Int) < 97
        · go_wp2_with fail
          go_ret
          refine ⟨false, rfl, ?_, rfl⟩
          simp only [Bool.false_eq_true, false_iff]
          rintro (h | ⟨_, _, h⟩)
          · exact HN.out h
          · have := h k hlt; omega
        · by_cases g2 : 122 < (s[k].toNat : Int)
          · go_wp2_with fail
            go_ret
            refine ⟨false, rfl, ?_, rfl⟩
            simp only [Bool.false_eq_true, false_iff]
            rintro (h | ⟨_, _, h⟩)
            · exact HN.out h
            · have := h k hlt; omega
          · go_wp2_with fail
            go_round
            case rel =>
              refine ⟨k + 1, by omega, by go_num, fun j h hj => ?_⟩
              by_cases hjk : j = k
              · subst hjk; omega
              · exact HP.out j h (by omega)
            case measure => simp [intOf]; omega
      · have : k = s.size := by omega
        subst this
        by_cases g1 : 1 ≤ s.size
        · go_wp2_with fail
          go_ret
          refine ⟨decide ((s.size : Int) ≤ 8), by simp, ?_, rfl⟩
          rw [decide_eq_true_iff]
          constructor
          · exact fun h => .inr ⟨g1, by omega, fun i hi => HP.out i hi hi⟩
          · rintro (h | ⟨_, h, _⟩)
            · exact absurd h HN.out
            · omega
        · have g1' : decide ((1 : Int) ≤ (s.size : Int)) = false := by simp; omega
          go_wp2_with fail
          go_ret
          refine ⟨false, by simp, ?_, rfl⟩
          simp only [Bool.false_eq_true, false_iff]
          rintro (h | ⟨h, _, _⟩)
          · exact HN.out h
          · omega

theorem pick_math (k n : Int) (hn : 0 < n) : (k.tmod n < 0 → k.tmod n + n = k % n) ∧ (¬ k.tmod n < 0 → k.tmod n = k % n) := by
  have h1 := Int.emod_nonneg k (Int.ne_of_gt hn)
  have h2 := Int.emod_lt_of_pos k hn
  rcases Int.le_total 0 k with h | h
  · rw [Int.tmod_eq_emod_of_nonneg h]; omega
  · obtain ⟨m, rfl⟩ : ∃ m, k = -m := ⟨-k, by omega⟩
    rw [Int.neg_tmod, Int.tmod_eq_emod_of_nonneg (by omega)]
    have h3 := Int.emod_nonneg m (Int.ne_of_gt hn)
    have h4 := Int.emod_lt_of_pos m hn
    have h5 : (-m) % n = (-(m % n)) % n := by
      conv => lhs; rw [← Int.emod_add_mul_ediv m n, Int.neg_add, ← Int.mul_neg, Int.add_mul_emod_self_left]
    by_cases h6 : m % n = 0
    · rw [h5, h6]; simp
    · have h7 : (-(m % n)) % n = n - m % n := by
        rw [show -(m % n) = (n - m % n) + n * (-1) by rw [Int.mul_neg, Int.mul_one]; omega, Int.add_mul_emod_self_left]
        exact Int.emod_eq_of_lt (by omega) (by omega)
      rw [h5, h7]; omega

set_option maxHeartbeats 400000 in
theorem pick_ok (k n : Int) (hk : I64 k) (hn : 0 < n) (hn2 : n ≤ 1048576) (w : World) :
    Calls Try.prog 19 #[.int .i64 k, .int .i64 n] w fun e w' => e = .returned (.int .i64 (k % n)) ∧ w = w' := by
  obtain ⟨p1, p2⟩ := pick_math k n hn
  have b1 := Int.emod_nonneg k (Int.ne_of_gt hn)
  have b2 := Int.emod_lt_of_pos k hn
  have hkb : -9223372036854775808 ≤ k ∧ k ≤ 9223372036854775807 := hk
  have H1 := hid p1
  have H2 := hid p2
  have hb : -n ≤ k.tmod n ∧ k.tmod n < n := by
    by_cases h : k.tmod n < 0
    · have := p1 h; omega
    · have := p2 h; omega
  clear p1 p2 hk
  by_cases hneg : k.tmod n < 0
  · go_enter Try.func19, Try.ntmps19
    go_wp2_with fail
    go_ret
    exact ⟨by rw [← H1.out hneg]; rfl, rfl⟩
  · go_enter Try.func19, Try.ntmps19
    go_wp2_with fail
    go_ret
    exact ⟨by rw [← H2.out hneg]; rfl, rfl⟩
end Go.Proofs.Ytlpmfkpefoegeab
