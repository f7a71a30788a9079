/-
  Names, and numbers brought into a range.
-/
import Derived.Test.YtlpmfkpefoegeabRows
import Derived.Test.YtlpmfkpefoegeabQRen
import Derived.Deep.Slices
import Derived.Lib.SmallJoins
import Derived.Below
import Derived.ChangeSame
import Derived.Test.YtlpmfkpefoegeabQLib
import Derived.Test.YtlpmfkpefoegeabProg
namespace Go.Proofs.Ytlpmfkpefoegeab
set_option linter.unusedVariables false
set_option linter.unusedSimpArgs false
set_option maxRecDepth 100000
open Go.RowKit Go.WideShapes Go.ChangeShapes
theorem part_le {H : Type} {d : DataW H} {l : List (DataW H)} (h : d ∈ l) : Rows.uptoBulk d ≤ Rows.uptoBulkAll l := by
  induction l with
  | nil => cases h
  | cons x r ih =>
    simp only [Rows.uptoBulkAll]
    cases List.mem_cons.1 h with
    | inl e => subst e; omega
    | inr e => have := ih e; omega
theorem addr_form {w : World} {a : Addr} {v : Value} (h : w.cell? a = some v) : a = ⟨a.block, a.off, none⟩ := by
  obtain ⟨b, o, s⟩ := a
  cases s with
  | none => rfl
  | some k =>
    simp only [World.cell?] at h
    split at h <;> simp at h
theorem sum_le {H α : Type} (sz : α → Nat) (f : Nat → α) (D : Nat → DataW H) (L : List Nat) (h : ∀ i ∈ L, sz (f i) ≤ Rows.uptoBulk (D i)) :
    ((L.map f).map sz).sum ≤ Rows.uptoBulkAll (L.map D) := by
  induction L with
  | nil => simp [Rows.uptoBulkAll]
  | cons i r ih =>
    have h1 := h i (List.mem_cons_self ..)
    have h2 := ih (fun j hj => h j (List.mem_cons_of_mem _ hj))
    simp only [List.map_cons, List.sum_cons, Rows.uptoBulkAll]
    omega
theorem len_le {H : Type} (l : List (DataW H)) : l.length ≤ Rows.uptoBulkAll l := by
  induction l with
  | nil => simp [Rows.uptoBulkAll]
  | cons x r ih =>
    have : 1 ≤ Rows.uptoBulk x := by
      cases x with
      | lit l => cases l <;> simp [Rows.uptoBulk]
      | _ => simp [Rows.uptoBulk]
    simp only [Rows.uptoBulkAll, List.length_cons]
    omega
section
variable {H : Type} {enc : TypeId × Value → H} {P : Program} {W : World} {base : Nat} {sp : Nat → Bool} {held : Bool}
theorem open_sl {t e : TypeId} (ht : P.underlying t = some (.slice e)) {c : Nat} (hc : P.cellsOf e = c) (h0 : 0 < c) {α : Type} [Inhabited α] {R : (Nat → Prop) → World → α → List Value → Prop}
    {A : Nat → Prop} (hA : ∀ b, A b) (sz : α → Nat) {B : Nat} (hB : B ≤ 1048576) {fuel : Nat} {cs : List Value} {x : DataW H × List MemPlace}
    (hR : ∀ n cs' y, DataW.trod enc P W base sp held n e cs' = some y → Rows.uptoBulk y.1 < B → ∃ a, R A W a cs' ∧ sz a ≤ Rows.uptoBulk y.1)
    (hb : Rows.uptoBulk x.1 ≤ B) (h : DataW.trod enc P W base sp held fuel t cs = some x) :
    ∃ l v, cs = [v] ∧ SlR c R A W l v ∧ (l.map sz).sum + 1 ≤ Rows.uptoBulk x.1 ∧ l.length + 1 ≤ Rows.uptoBulk x.1 := by
  subst hc
  rcases Go.Deep.open_slice ht h with ⟨rfl, rfl⟩ | ⟨a, len, cap, m, n, D, Pl, rfl, _, hl, hm, hmm, rfl, hx⟩
  · refine ⟨[], _, rfl, ⟨0, 0, ⟨by simp, .inl ⟨rfl, none, 0, rfl, Nat.zero_le _⟩⟩, fun i x hx => by simp at hx⟩, by simp [Rows.uptoBulk], by simp [Rows.uptoBulk]⟩
  · have hbk : Rows.uptoBulkAll ((List.range len).map D) + 1 ≤ Rows.uptoBulk (DataW.slice ((List.range len).map D) ((List.range (m - len)).map fun j => D (len + j))) := by
      simp only [Rows.uptoBulk]; omega
    have hln := len_le ((List.range len).map D)
    simp only [List.length_map, List.length_range] at hln
    simp only at hb
    have hle : len ≤ m := by rw [hmm]; split <;> omega
    have key : ∀ i, i < len → ∃ y : α, (∃ cs', W.cells? base (a.add (i * P.cellsOf e)) (P.cellsOf e) = some cs' ∧ R A W y cs') ∧ sz y ≤ Rows.uptoBulk (D i) := fun i hi => by
      obtain ⟨cs', h1, h2⟩ := hx i (by omega)
      have h3 : Rows.uptoBulk (D i) ≤ Rows.uptoBulkAll ((List.range len).map D) := part_le (List.mem_map.2 ⟨i, List.mem_range.2 hi, rfl⟩)
      obtain ⟨y, h4, h5⟩ := hR n cs' _ h2 (by simp only; omega)
      exact ⟨y, ⟨cs', h1, h4⟩, h5⟩
    obtain ⟨f, hf⟩ := Go.Deep.choose_lt key
    have hsum := sum_le sz f D (List.range len) (fun i hi => (hf i (List.mem_range.1 hi)).2)
    refine ⟨(List.range len).map f, _, rfl, ?_, by simp only; omega, by simp only [List.length_map, List.length_range]; omega⟩
    by_cases hz : len = 0
    · subst hz
      exact ⟨0, 0, ⟨by simp, .inl ⟨by simp, some a, cap, rfl, hm⟩⟩, fun i x hx => by simp at hx⟩
    · have ha : a = ⟨a.block, a.off, none⟩ := by
        obtain ⟨⟨cs', h1, _⟩, _⟩ := hf 0 (by omega)
        obtain ⟨_, h6, h7⟩ := World.cells?_some h1
        have h8 := h7 0 (by omega)
        rw [List.getElem?_eq_getElem (by omega)] at h8
        have h9 : (a.add (0 * P.cellsOf e)).add 0 = a := by simp [Addr.add]
        rw [h9] at h8
        exact addr_form h8
      refine ⟨a.block, a.off, ⟨by simp only [List.length_map, List.length_range]; omega, .inr ⟨by simp only [List.length_map, List.length_range]; omega, hA _, cap, ?_, by simpa using hl, hm⟩⟩, fun i x hx => ?_⟩
      · simp only [List.length_map, List.length_range]; rw [← ha]
      · have hi : i < len := by have := (List.getElem?_eq_some_iff.1 hx).1; simpa using this
        simp only [List.getElem?_map, List.getElem?_range hi, Option.map_some, Option.some.injEq] at hx
        subst hx
        obtain ⟨⟨cs', h1, h2⟩, _⟩ := hf i hi
        obtain ⟨_, h6, h7⟩ := World.cells?_some h1
        refine ⟨cs', h6, h2, fun j v hj => ?_⟩
        have h8 := h7 j (by have := (List.getElem?_eq_some_iff.1 hj).1; omega)
        rw [hj] at h8
        rw [Go.Deep.add_add] at h8
        rw [← h8]
        congr 1
        rw [ha]
        unfold Addr.add
        split
        · simp; omega
        · simp
end
section
variable {H : Type} {enc : TypeId × Value → H} {W : World} {base : Nat} {sp : Nat → Bool} {held : Bool}
theorem Tm.nodesL_sum (l : List Tm) : Tm.nodesL l = (l.map Tm.nodes).sum := by
  induction l with
  | nil => rfl
  | cons t r ih => simp only [Tm.nodesL, List.map_cons, List.sum_cons, ih]
theorem cells_term : Program.cellsOf Try.prog 24 = 4 := by kernel_rfl
theorem cells_i : Program.cellsOf Try.prog 3 = 1 := by kernel_rfl
theorem cells_s : Program.cellsOf Try.prog 9 = 1 := by kernel_rfl
theorem cells_ts : Program.cellsOf Try.prog 22 = 1 := by kernel_rfl
theorem open_tm_B : ∀ (B : Nat), B ≤ 1048576 → ∀ (n : Nat) (cs : List Value) (y : DataW H × List MemPlace), DataW.trod enc Try.prog W base sp held n 24 cs = some y → Rows.uptoBulk y.1 ≤ B →
    ∃ t : Tm, Tm.rep (fun _ => True) W t cs ∧ t.nodes ≤ Rows.uptoBulk y.1 := by
  intro B
  induction B using Nat.strongRecOn with
  | _ B ih =>
    intro hB n cs y h hb
    obtain ⟨y0, y1, y2, y3, n', rfl, hl, h0, h1, h2, h3⟩ := Joins.trod_struct4 Try.underlying24 h
    simp only [cells_term, cells_i, cells_s, cells_ts] at hl h0 h1 h2 h3
    match cs, hl with
    | [c0, c1, c2, c3], _ =>
      simp only [List.drop_zero, List.drop_succ_cons, List.take_succ_cons, List.take_zero] at h0 h1 h2 h3
      obtain ⟨k, e0, rfl, k64⟩ := DataW.trod_int Try.underlying3 h0
      obtain ⟨m, e1, rfl, m64⟩ := DataW.trod_int Try.underlying3 h1
      obtain ⟨s, e2, rfl, hs⟩ := DataW.trod_string Try.underlying9 h2
      simp only [Rows.uptoBulk, Rows.uptoBulkAll] at hb ⊢
      have hs' : s.size = s.data.toList.length := by rfl
      obtain ⟨l, v, e3, hv, hn, _⟩ := open_sl Try.underlying22 cells_term (by omega) (R := Tm.rep) (A := fun _ => True) (fun _ => trivial) Tm.nodes (B := Rows.uptoBulk y3.1) (by omega)
        (fun n cs' y hy hlt => ih _ (by omega) (by omega) n cs' y hy (Nat.le_refl _)) (Nat.le_refl _) h3
      simp only [List.cons.injEq, and_true] at e0 e1 e2 e3
      subst e0 e1 e2 e3
      refine ⟨.mk k m s l, Tm.rep_iff.2 ⟨I64.of_wf k64, I64.of_wf m64, by omega, _, rfl, hv⟩, ?_⟩
      simp only [Tm.nodes, Tm.nodesL_sum]
      omega
theorem open_tm {n : Nat} {cs : List Value} {y : DataW H × List MemPlace} (h : DataW.trod enc Try.prog W base sp held n 24 cs = some y) (hb : Rows.uptoBulk y.1 ≤ 1048576) :
    ∃ t : Tm, Tm.rep (fun _ => True) W t cs ∧ t.nodes ≤ Rows.uptoBulk y.1 := open_tm_B 1048576 (Nat.le_refl _) n cs y h hb
theorem open_tms {r : Reach} {b0 : Nat} {v : Value} {d : DataW H} {ps : List MemPlace} (hval : Value.okWide Try.prog W r b0 22 v) (h : DataW.Trod enc Try.prog W base sp held 22 v d ps)
    (hb : Rows.uptoBulk d ≤ 1048576) : ∃ l : List Tm, TmsR (fun _ => True) W l v ∧ Tm.nodesL l + 1 ≤ Rows.uptoBulk d := by
  obtain ⟨a, len, cap, rfl⟩ := okWide_slice Try.underlying22 hval
  obtain ⟨fuel, hf⟩ := h
  obtain ⟨l, v, e3, hv, hn, _⟩ := open_sl Try.underlying22 cells_term (by omega) (R := Tm.rep) (A := fun _ => True) (fun _ => trivial) Tm.nodes (B := Rows.uptoBulk d) hb
        (fun n cs' y hy hlt => open_tm hy (by omega)) (Nat.le_refl _) hf
  simp only [Value.cells, List.cons.injEq, and_true] at e3
  subst e3
  exact ⟨l, hv, by rw [Tm.nodesL_sum]; exact hn⟩
end
section
variable {H : Type} {enc : TypeId × Value → H} {P : Program}
theorem post_of_below {f : Func} {s : ChangeSpec} {apart fresh handsOn again : Bool} {W W' : World} {args : Array Value} {v : Value} {ds gs : List (DataW H)} {before pa pv : List MemPlace}
    (hW : DataW.Whole enc P f.params.toList s.vars apart W args.toList ds gs before)
    (hres : ∀ (b : Nat) (sp : Nat → Bool) (hd : Bool), DataW.TrodAll enc P W' b sp hd f.resultTypes.toList (v.resultList f.resultTypes.size) (s.fn H (ds ++ gs)).results [])
    (hargs : ∀ sp : Nat → Bool, (∀ p ∈ before, sp p.block = true) → DataW.TrodAll enc P W' 0 sp true f.params.toList args.toList (s.fn H (ds ++ gs)).args pa)
    (hvars : ∀ sp : Nat → Bool, (∀ p ∈ before, sp p.block = true) → DataW.TrodVars enc P W' sp s.vars (s.fn H (ds ++ gs)).vars pv)
    (hps : before = pa ++ pv) (hb : Below W.heap.size W W')
    (hok : ∀ (j : Nat) (t : TypeId) (r : Value), f.resultTypes[j]? = some t → (v.resultList f.resultTypes.size)[j]? = some r → Value.okWide P W' .any 0 t r) :
    s.post enc P f apart fresh handsOn again W args v W' := by
  have hlt : ∀ p ∈ before, p.block < W.heap.size := fun p hp => hW.lt p hp
  have hold : ∀ p ∈ before, (fun b => decide (b < W.heap.size)) p.block = true := fun p hp => by simpa using hlt p hp
  refine ⟨ds, gs, before, [], pa, pv, hW, hres _ _ _, hargs _ hold, hvars _ hold, World.keptBut_mono (fun p hp => ⟨hp, ?_⟩) (hb.frame (· ∈ before)), fun _ => ?_⟩
  · rw [hps, List.mem_append] at hp
    exact Or.inr hp
  · obtain ⟨_, _, _, _, _, hz, hn⟩ := hW
    refine ⟨hok, _, _, ([] ++ pa) ++ pv, ⟨[] ++ pa, pv, trodAll_append (hargs _ (fun _ _ => rfl)) (hres _ _ _), hvars _ (fun _ _ => rfl), rfl, ?_, ?_⟩, ?_⟩
    · intro b off hp
      have hin : MemPlace.cell b off ∈ before := by rw [hps]; simpa using hp
      rw [hb.frozen (hlt _ hin)]
      exact hz b off hin
    · intro ha
      have := hn ha
      rw [hps] at this
      simpa using this
    · intro p hp _
      rw [hps]
      simpa using hp
end
end Go.Proofs.Ytlpmfkpefoegeab
namespace Go.Proofs.Ytlpmfkpefoegeab
set_option linter.unusedVariables false
set_option linter.unusedSimpArgs false
open Go.RowKit
structure Ce where
  kind : Int
  n : Int
  s : ByteArray
  deriving DecidableEq, Inhabited
def flatR {α : Type} (f : α → List Value) (ok : α → Prop) (_ : Nat → Prop) (_ : World) (x : α) (vs : List Value) : Prop := ok x ∧ vs = f x
theorem flatR_lasts {α : Type} {f : α → List Value} {ok : α → Prop} (h1 : ∀ x, ∀ u ∈ f x, u.oneCell' = true) : Lasts (flatR f ok) :=
  ⟨fun A w w' x vs h _ => h, fun A A' w x vs h _ => h, fun A w x vs h => by obtain ⟨_, rfl⟩ := h; exact h1 x⟩
def Ce.vals (c : Ce) : List Value := [.int .i64 c.kind, .int .i64 c.n, .string c.s]
def Ce.Ok (c : Ce) : Prop := I64 c.kind ∧ I64 c.n ∧ c.s.size ≤ 1048576
def Ce.rep : (Nat → Prop) → World → Ce → List Value → Prop := flatR Ce.vals Ce.Ok
theorem Ce.rep_lasts : Lasts Ce.rep := flatR_lasts fun x => by simp [Ce.vals, Value.oneCell']
def numV (n : Int) : List Value := [.int .i64 n]
def numR : (Nat → Prop) → World → Int → List Value → Prop := flatR numV I64
theorem numR_lasts : Lasts numR := flatR_lasts fun x => by simp [numV, Value.oneCell']
def boolV (b : Bool) : List Value := [.bool b]
abbrev CesR := SlR 3 Ce.rep
abbrev NumsR := SlR 1 numR
structure Hp where
  cells : List Ce
  trail : List Int
  deriving DecidableEq, Inhabited
def Hp.rep (A : Nat → Prop) (w : World) (h : Hp) (vs : List Value) : Prop := ∃ c t, vs = [c, t] ∧ CesR A w h.cells c ∧ NumsR A w h.trail t
theorem Hp.rep_lasts : Lasts Hp.rep := by
  refine ⟨fun A w w' x vs h hk => ?_, fun A A' w x vs h hA => ?_, fun A w x vs h => ?_⟩
  · obtain ⟨c, t, rfl, hc, ht⟩ := h
    exact ⟨c, t, rfl, hc.keeps Ce.rep_lasts hk, ht.keeps numR_lasts hk⟩
  · obtain ⟨c, t, rfl, hc, ht⟩ := h
    exact ⟨c, t, rfl, hc.mono Ce.rep_lasts (by omega) hA, ht.mono numR_lasts (by omega) hA⟩
  · obtain ⟨c, t, rfl, hc, ht⟩ := h
    obtain ⟨_, _, _, _, rfl, _⟩ := hc.at
    obtain ⟨_, _, _, _, rfl, _⟩ := ht.at
    simp [Value.oneCell']
theorem Hp.rep.keeps {A : Nat → Prop} {w w' : World} {h : Hp} {vs : List Value} (hh : Hp.rep A w h vs) (hk : Keeps A w w') : Hp.rep A w' h vs := Hp.rep_lasts.1 _ _ _ _ _ hh hk
theorem Hp.rep.below {A : Nat → Prop} {w w' : World} {h : Hp} {vs : List Value} (hh : Hp.rep A w h vs) (hk : Below w.heap.size w w') : Hp.rep A w' h vs := hh.keeps (Keeps.of_below hk)
theorem Hp.rep.mono {A A' : Nat → Prop} {w : World} {h : Hp} {vs : List Value} (hh : Hp.rep A w h vs) (hA : ∀ b, b < w.heap.size → A b → A' b) : Hp.rep A' w h vs := Hp.rep_lasts.2.1 _ _ _ _ _ hh hA
theorem Hp.rep2 {A : Nat → Prop} {w : World} {h : Hp} {vs : List Value} (hh : Hp.rep A w h vs) :
    ∃ a cap b tap, vs = [.slice a h.cells.length cap, .slice b h.trail.length tap] ∧ h.cells.length ≤ cap ∧ cap ≤ maxLen ∧ h.cells.length ≤ 1048576 ∧ h.trail.length ≤ tap ∧ tap ≤ maxLen ∧ h.trail.length ≤ 1048576 ∧
      CesR A w h.cells (.slice a h.cells.length cap) ∧ NumsR A w h.trail (.slice b h.trail.length tap) := by
  obtain ⟨c, t, rfl, hc, ht⟩ := hh
  obtain ⟨a, cap, _, _, rfl, h1, h2, h3, -⟩ := hc.at
  obtain ⟨b, tap, _, _, rfl, h4, h5, h6, -⟩ := ht.at
  exact ⟨a, cap, b, tap, rfl, h1, h2, h3, h4, h5, h6, hc, ht⟩
theorem rowAt3 {w : World} {b off : Nat} {v0 v1 v2 : Value} (h : RowAt w b off [v0, v1, v2]) :
    w.cell? ⟨b, off, none⟩ = some v0 ∧ w.cell? ⟨b, off + 1, none⟩ = some v1 ∧ w.cell? ⟨b, off + 2, none⟩ = some v2 := ⟨h 0 _ rfl, h 1 _ rfl, h 2 _ rfl⟩
theorem ce_cells {A : Nat → Prop} {w wr : World} {l : List Ce} {b off : Nat} (he : Elems A w 3 Ce.rep l b off) (hA : A b) (hk : Keeps A w wr) {k : Nat} (hlt : k < l.length) :
    wr.cell? ⟨b, off + k * 3, none⟩ = some (.int .i64 l[k].kind) ∧ wr.cell? ⟨b, off + k * 3 + 1, none⟩ = some (.int .i64 l[k].n) ∧ wr.cell? ⟨b, off + k * 3 + 2, none⟩ = some (.string l[k].s) ∧ I64 l[k].kind ∧ I64 l[k].n ∧ l[k].s.size ≤ 1048576 := by
  obtain ⟨vs, hvl, ⟨⟨h1, h2, h3⟩, rfl⟩, hrow⟩ := he k _ (List.getElem?_eq_getElem hlt)
  obtain ⟨c0, c1, c2⟩ := rowAt3 (RowAt.keeps hA hrow hk)
  exact ⟨c0, c1, c2, h1, h2, h3⟩
theorem num_cell {A : Nat → Prop} {w wr : World} {l : List Int} {b off : Nat} (he : Elems A w 1 numR l b off) (hA : A b) (hk : Keeps A w wr) {k : Nat} (hlt : k < l.length) :
    wr.cell? ⟨b, off + k, none⟩ = some (.int .i64 l[k]) ∧ I64 l[k] := by
  obtain ⟨vs, hvl, ⟨h1, rfl⟩, hrow⟩ := he k _ (List.getElem?_eq_getElem hlt)
  have := (RowAt.keeps hA hrow hk) 0 _ rfl
  exact ⟨by simpa using this, h1⟩
def Tells (w : World) (p : Prop) (e : Ending) (w' : World) : Prop := ∃ r, e = .returned (.bool r) ∧ (r = true ↔ p) ∧ w = w'
def IsName (s : ByteArray) : Prop := s = ⟨#[33]⟩ ∨ (1 ≤ s.size ∧ s.size ≤ 8 ∧ ∀ i (h : i < s.size), 97 ≤ (s[i].toNat : Int) ∧ (s[i].toNat : Int) ≤ 122)
theorem toList_inj' {s s' : ByteArray} (h : s.toList = s'.toList) : s = s' := by
  rw [ByteArray.toList_eq, ByteArray.toList_eq] at h
  cases s; cases s'
  congr 1
  exact Array.toList_inj.1 h
set_option maxHeartbeats 400000 in
theorem named_ok (s : ByteArray) (w : World) (hs : s.size ≤ 1048576) :
    Calls Try.prog 46 #[.string s] w (Tells w (IsName s)) := by
  have hc : (⟨#[33]⟩ : ByteArray).toList = [33] := by decide +kernel
  by_cases h1 : s.toList = (⟨#[33]⟩ : ByteArray).toList
  · have h1b : (s.toList == [33]) = true := by rw [h1, hc]; rfl
    have hn : IsName s := .inl (toList_inj' h1)
    have HN := hid hn
    clear hn h1 hc
    go_enter Try.func46, Try.ntmps46
    go_wp2_with fail
    go_ret
    exact ⟨true, rfl, by simp [HN.out], rfl⟩
  · have h1' : ¬ s = ⟨#[33]⟩ := fun e => h1 (by rw [e])
    have h1b : (s.toList == [33]) = false := by rw [hc] at h1; simpa using h1
    have HN := hid h1'
    clear h1' h1 hc
    go_enter Try.func46, Try.ntmps46
    go_wp2_with fail
    go_loop [8] (fun i => ∃ k : Nat, k ≤ s.size ∧ i = .int .i64 k ∧ ∀ j (h : j < s.size), j < k → 97 ≤ (s[j].toNat : Int) ∧ (s[j].toNat : Int) ≤ 122) (fun i => s.size - (intOf i).toNat)
    case atStart => exact ⟨0, Nat.zero_le _, rfl, fun j _ h => by omega⟩
    case round =>
      obtain ⟨k, hk, rfl, hp⟩ := hrel
      have HP := hid hp
      clear hp
      by_cases hlt : k < s.size
      · by_cases g1 : (s[k].toNat : Int) < 97
        · go_wp2_with fail
          go_ret
          refine ⟨false, rfl, ?_, rfl⟩
          simp only [Bool.false_eq_true, false_iff]
          rintro (h | ⟨_, _, h⟩)
          · exact HN.out h
          · have := h k hlt; omega
        · by_cases g2 : 122 < (s[k].toNat : Int)
          · go_wp2_with fail
            go_ret
            refine ⟨false, rfl, ?_, rfl⟩
            simp only [Bool.false_eq_true, false_iff]
            rintro (h | ⟨_, _, h⟩)
            · exact HN.out h
            · have := h k hlt; omega
          · go_wp2_with fail
            go_round
            case rel =>
              refine ⟨k + 1, by omega, by go_num, fun j h hj => ?_⟩
              by_cases hjk : j = k
              · subst hjk; omega
              · exact HP.out j h (by omega)
            case measure => simp [intOf]; omega
      · have : k = s.size := by omega
        subst this
        by_cases g1 : 1 ≤ s.size
        · go_wp2_with fail
          go_ret
          refine ⟨decide ((s.size : Int) ≤ 8), by simp, ?_, rfl⟩
          rw [decide_eq_true_iff]
          constructor
          · exact fun h => .inr ⟨g1, by omega, fun i hi => HP.out i hi hi⟩
          · rintro (h | ⟨_, h, _⟩)
            · exact absurd h HN.out
            · omega
        · have g1' : decide ((1 : Int) ≤ (s.size : Int)) = false := by simp; omega
          go_wp2_with fail
          go_ret
          refine ⟨false, by simp, ?_, rfl⟩
          simp only [Bool.false_eq_true, false_iff]
          rintro (h | ⟨h, _, _⟩)
          · exact HN.out h
          · omega
theorem pick_math (k n : Int) (hn : 0 < n) : (k.tmod n < 0 → k.tmod n + n = k % n) ∧ (¬ k.tmod n < 0 → k.tmod n = k % n) := by
  have h1 := Int.emod_nonneg k (Int.ne_of_gt hn)
  have h2 := Int.emod_lt_of_pos k hn
  rcases Int.le_total 0 k with h | h
  · rw [Int.tmod_eq_emod_of_nonneg h]; omega
  · obtain ⟨m, rfl⟩ : ∃ m, k = -m := ⟨-k, by omega⟩
    rw [Int.neg_tmod, Int.tmod_eq_emod_of_nonneg (by omega)]
    have h3 := Int.emod_nonneg m (Int.ne_of_gt hn)
    have h4 := Int.emod_lt_of_pos m hn
    have h5 : (-m) % n = (-(m % n)) % n := by
      conv => lhs; rw [← Int.emod_add_mul_ediv m n, Int.neg_add, ← Int.mul_neg, Int.add_mul_emod_self_left]
    by_cases h6 : m % n = 0
    · rw [h5, h6]; simp
    · have h7 : (-(m % n)) % n = n - m % n := by
        rw [show -(m % n) = (n - m % n) + n * (-1) by rw [Int.mul_neg, Int.mul_one]; omega, Int.add_mul_emod_self_left]
        exact Int.emod_eq_of_lt (by omega) (by omega)
      rw [h5, h7]; omega
set_option maxHeartbeats 400000 in
theorem pick_ok (k n : Int) (hk : I64 k) (hn : 0 < n) (hn2 : n ≤ 1048576) (w : World) :
    Calls Try.prog 19 #[.int .i64 k, .int .i64 n] w fun e w' => e = .returned (.int .i64 (k % n)) ∧ w = w' := by
  obtain ⟨p1, p2⟩ := pick_math k n hn
  have b1 := Int.emod_nonneg k (Int.ne_of_gt hn)
  have b2 := Int.emod_lt_of_pos k hn
  have hkb : -9223372036854775808 ≤ k ∧ k ≤ 9223372036854775807 := hk
  have H1 := hid p1
  have H2 := hid p2
  have hb : -n ≤ k.tmod n ∧ k.tmod n < n := by
    by_cases h : k.tmod n < 0
    · have := p1 h; omega
    · have := p2 h; omega
  clear p1 p2 hk
  by_cases hneg : k.tmod n < 0
  · go_enter Try.func19, Try.ntmps19
    go_wp2_with fail
    go_ret
    exact ⟨by rw [← H1.out hneg]; rfl, rfl⟩
  · go_enter Try.func19, Try.ntmps19
    go_wp2_with fail
    go_ret
    exact ⟨by rw [← H2.out hneg]; rfl, rfl⟩
end Go.Proofs.Ytlpmfkpefoegeab
