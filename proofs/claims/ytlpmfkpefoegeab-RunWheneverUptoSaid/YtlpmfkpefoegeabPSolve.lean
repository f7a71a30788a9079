/-
  Answers by terms alone, in plain data: what is bound, what is still to be shown, which choices there are.
-/
import Derived.Test.YtlpmfkpefoegeabQNamed
import Derived.Test.YtlpmfkpefoegeabQClause2
import Derived.Test.YtlpmfkpefoegeabQLib
import Derived.Carry
import Derived.Test.YtlpmfkpefoegeabQRen
import Derived.Test.YtlpmfkpefoegeabQGood
namespace Go.Proofs.Ytlpmfkpefoegeab
set_option linter.unusedVariables false
set_option linter.unusedSimpArgs false
set_option maxRecDepth 100000
open Go.RowKit Go.WideShapes Go.ChangeShapes
section
variable {H : Type} {enc : TypeId × Value → H} {W : World} {base : Nat} {sp : Nat → Bool} {held : Bool}
instance : Inhabited Cl := ⟨⟨default, [], 0⟩⟩
theorem cells_clause : Program.cellsOf Try.prog 26 = 6 := by kernel_rfl
theorem Tm.rep_vals {A : Nat → Prop} {t : Tm} {cs : List Value} (h : Tm.rep A W t cs) : ∃ a ac, cs = [.int .i64 t.kind, .int .i64 t.n, .string t.s, .slice a t.args.length ac] := by
  obtain ⟨a, ac, rfl, -⟩ := Tm.rep4 h
  exact ⟨a, ac, rfl⟩
theorem open_cl {n : Nat} {cs : List Value} {y : DataW H × List MemPlace} (h : DataW.trod enc Try.prog W base sp held n 26 cs = some y) (hb : Rows.uptoBulk y.1 ≤ 1048576) :
    ∃ c : Cl, Cl.rep (fun _ => True) W c cs ∧ c.nodes + 1 ≤ Rows.uptoBulk y.1 := by
  obtain ⟨y0, y1, y2, n', rfl, hl, h0, h1, h2⟩ := Deep.trod_struct3 Try.underlying26 h
  simp only [cells_clause, cells_term, cells_ts, cells_i] at hl h0 h1 h2
  match cs, hl with
  | [c0, c1, c2, c3, c4, c5], _ =>
    simp only [List.drop_zero, List.drop_succ_cons, List.take_succ_cons, List.take_zero] at h0 h1 h2
    simp only [Rows.uptoBulk, Rows.uptoBulkAll] at hb ⊢
    obtain ⟨t, ht, hn0⟩ := open_tm h0 (by omega)
    obtain ⟨a, ac, e0⟩ := Tm.rep_vals ht
    obtain ⟨l, v, e1, hv, hn1, _⟩ := open_sl Try.underlying22 cells_term (by omega) (R := Tm.rep) (A := fun _ => True) (fun _ => trivial) Tm.nodes (B := Rows.uptoBulk y1.1) (by omega)
        (fun n cs' y hy hlt => open_tm hy (by omega)) (Nat.le_refl _) h1
    obtain ⟨m, e2, rfl, m64⟩ := DataW.trod_int Try.underlying3 h2
    obtain ⟨b, bc, -, -, rfl, -⟩ := SlR.at hv
    simp only [List.cons.injEq, and_true] at e0 e1 e2
    obtain ⟨rfl, rfl, rfl, rfl⟩ := e0
    subst e1 e2
    refine ⟨⟨t, l, m⟩, ⟨a, ac, b, bc, rfl, ht, hv, I64.of_wf m64⟩, ?_⟩
    simp only [Cl.nodes, Tm.nodesL_sum] at hn1 ⊢
    simp only [Rows.uptoBulk] at hn1 ⊢
    omega
theorem open_clauses {r : Go.Reach} {b0 : Nat} {v : Value} {d : DataW H} {ps : List MemPlace} (hval : Value.okWide Try.prog W r b0 50 v) (h : DataW.Trod enc Try.prog W base sp held 50 v d ps)
    (hb : Rows.uptoBulk d ≤ 1048576) : ∃ l : List Cl, ClsR (fun _ => True) W l v ∧ (l.map Cl.nodes).sum + 1 ≤ Rows.uptoBulk d := by
  obtain ⟨a, len, cap, rfl⟩ := okWide_slice Try.underlying50 hval
  obtain ⟨fuel, hf⟩ := h
  obtain ⟨l, v, e3, hv, hn, _⟩ := open_sl Try.underlying50 cells_clause (by omega) (R := Cl.rep) (A := fun _ => True) (fun _ => trivial) Cl.nodes (B := Rows.uptoBulk d) hb
    (fun n cs' y hy hlt => by obtain ⟨c, h1, h2⟩ := open_cl hy (by omega); exact ⟨c, h1, by omega⟩) (Nat.le_refl _) hf
  simp only [Value.cells, List.cons.injEq, and_true] at e3
  subst e3
  exact ⟨l, hv, hn⟩
end
end Go.Proofs.Ytlpmfkpefoegeab
namespace Go.Proofs.Ytlpmfkpefoegeab
set_option linter.unusedVariables false
set_option linter.unusedSimpArgs false
open Go.RowKit
def MapIs (w : World) (r : Nat) (L : List (Int × Value)) : Prop :=
  ∃ es clock, w.heap[r]? = some (.map es clock) ∧ es.toList.map (fun e => (e.key, e.val)) = L.map (fun p => (Value.int .i64 p.1, p.2))
section
variable {P : Program} {t e : TypeId} {z : Value} {w : World} {r : Nat} {L : List (Int × Value)} {n : Int}
end
def seenF (st : List Int) (n : Int) : Int × List Int := if n ∈ st then ((st.idxOf n : Nat), st) else ((st.length : Nat), st ++ [n])
theorem seenF_sz (st : List Int) (n : Int) : (seenF st n).2.length ≤ st.length + 1 := by
  unfold seenF; split <;> simp
theorem i64_nat {k : Nat} (h : k ≤ 4194304) : I64 (k : Int) := by unfold I64; omega
end Go.Proofs.Ytlpmfkpefoegeab
namespace Go.Proofs.Ytlpmfkpefoegeab
set_option linter.unusedVariables false
set_option linter.unusedSimpArgs false
def tidy (l : List Tm) : List Tm := (Tm.renSL seenF [] l).1
namespace Tm
inductive Vars (p : Int → Prop) : Tm → Prop where
  | mk (k n : Int) (s : ByteArray) (l : List Tm) (h : k = 0 → p n) (hl : ∀ t ∈ l, Vars p t) : Vars p (mk k n s l)
end Tm
section
variable {p : Int → Prop} {g : Int → Int}
theorem mem_map_inj (hg : ∀ a b, p a → p b → g a = g b → a = b) {st : List Int} (hst : ∀ x ∈ st, p x) {n : Int} (hn : p n) : g n ∈ st.map g ↔ n ∈ st := by
  constructor
  · intro h
    obtain ⟨x, hx, he⟩ := List.mem_map.1 h
    rw [hg n x hn (hst x hx) he.symm]; exact hx
  · exact fun h => List.mem_map.2 ⟨n, h, rfl⟩
theorem idxOf_map_inj (hg : ∀ a b, p a → p b → g a = g b → a = b) {n : Int} (hn : p n) : ∀ {st : List Int}, (∀ x ∈ st, p x) → (st.map g).idxOf (g n) = st.idxOf n
  | [], _ => rfl
  | x :: st, hst => by
    have ih := idxOf_map_inj hg hn (st := st) (fun y hy => hst y (List.mem_cons_of_mem _ hy))
    by_cases h : x = n
    · subst h; simp
    · have h1 : ¬ g x = g n := fun e => h (hg x n (hst x (List.mem_cons_self ..)) hn e)
      simp only [List.map_cons, List.idxOf_cons, ih]
      have h2 : (x == n) = false := by simpa using h
      have h3 : (g x == g n) = false := by simpa using h1
      rw [h2, h3]
theorem seenF_map (hg : ∀ a b, p a → p b → g a = g b → a = b) {st : List Int} (hst : ∀ x ∈ st, p x) {n : Int} (hn : p n) :
    seenF (st.map g) (g n) = ((seenF st n).1, (seenF st n).2.map g) ∧ ∀ x ∈ (seenF st n).2, p x := by
  by_cases h : n ∈ st
  · have h1 := (mem_map_inj hg hst hn).2 h
    simp only [seenF, h, if_true, h1, idxOf_map_inj hg hn hst]
    exact ⟨trivial, hst⟩
  · have h1 : ¬ g n ∈ st.map g := fun e => h ((mem_map_inj hg hst hn).1 e)
    simp only [seenF, h, if_false, h1, List.length_map, List.map_append, List.map_cons, List.map_nil]
    refine ⟨trivial, fun x hx => ?_⟩
    rcases List.mem_append.1 hx with hx | hx
    · exact hst x hx
    · simp only [List.mem_singleton] at hx; subst hx; exact hn
theorem renS_map (hg : ∀ a b, p a → p b → g a = g b → a = b) : ∀ (t : Tm) (st : List Int), t.Vars p → (∀ x ∈ st, p x) →
    (t.ren g).renS seenF (st.map g) = ((t.renS seenF st).1, (t.renS seenF st).2.map g) ∧ ∀ x ∈ (t.renS seenF st).2, p x := by
  intro t
  induction t using Tm.induct with
  | h k n s l ih =>
    intro st hv hst
    obtain ⟨_, _, _, _, hp, hl⟩ := hv
    have hn : Tm.num seenF (st.map g) k (if k = 0 then g n else n) = ((Tm.num seenF st k n).1, (Tm.num seenF st k n).2.map g) ∧ ∀ x ∈ (Tm.num seenF st k n).2, p x := by
      unfold Tm.num
      by_cases e : k = 0
      · simp only [e, if_true]; exact seenF_map hg hst (hp e)
      · simp only [e, if_false]; exact ⟨trivial, hst⟩
    have hL : ∀ (r : List Tm), (∀ t ∈ r, t ∈ l) → ∀ st : List Int, (∀ x ∈ st, p x) → Tm.renSL seenF (st.map g) (Tm.renL g r) = ((Tm.renSL seenF st r).1, (Tm.renSL seenF st r).2.map g) ∧ ∀ x ∈ (Tm.renSL seenF st r).2, p x := by
      intro r
      induction r with
      | nil => intro _ st hst; exact ⟨rfl, hst⟩
      | cons x r ihr =>
        intro hm st hst
        obtain ⟨h1, h2⟩ := ih x (hm x (List.mem_cons_self ..)) st (hl x (hm x (List.mem_cons_self ..))) hst
        obtain ⟨h3, h4⟩ := ihr (fun t ht => hm t (List.mem_cons_of_mem _ ht)) (x.renS seenF st).2 h2
        simp only [Tm.renL, Tm.renSL, h1, h3]
        exact ⟨trivial, h4⟩
    obtain ⟨h1, h2⟩ := hn
    obtain ⟨h3, h4⟩ := hL l (fun _ h => h) _ h2
    simp only [Tm.ren, Tm.renS, h1, h3]
    exact ⟨trivial, h4⟩
theorem renSL_map (hg : ∀ a b, p a → p b → g a = g b → a = b) (l : List Tm) : ∀ (st : List Int), (∀ t ∈ l, t.Vars p) → (∀ x ∈ st, p x) →
    Tm.renSL seenF (st.map g) (l.map (Tm.ren g)) = ((Tm.renSL seenF st l).1, (Tm.renSL seenF st l).2.map g) := by
  induction l with
  | nil => intro st _ _; rfl
  | cons x r ihr =>
    intro st hv hst
    obtain ⟨h1, h2⟩ := renS_map hg x st (hv x (List.mem_cons_self ..)) hst
    simp only [List.map_cons, Tm.renSL, h1, ihr _ (fun t ht => hv t (List.mem_cons_of_mem _ ht)) h2]
theorem tidy_map (hg : ∀ a b, p a → p b → g a = g b → a = b) (l : List Tm) (hv : ∀ t ∈ l, t.Vars p) : tidy (l.map (Tm.ren g)) = tidy l := by
  unfold tidy
  rw [show ([] : List Int) = ([] : List Int).map g from rfl, renSL_map hg l [] hv (fun x hx => by cases hx)]
  rfl
end
abbrev Env := List (Int × Tm)
def eget (E : Env) (n : Int) : Option Tm := (E.find? fun p => p.1 == n).map (·.2)
theorem eget_none {E : Env} {n : Int} : eget E n = none ↔ ∀ p ∈ E, p.1 ≠ n := by
  unfold eget
  rw [Option.map_eq_none_iff, List.find?_eq_none]
  simp
theorem eget_mem {E : Env} {n : Int} {t : Tm} (h : eget E n = some t) : (n, t) ∈ E := by
  unfold eget at h
  rw [Option.map_eq_some_iff] at h
  obtain ⟨p, h1, rfl⟩ := h
  have h2 := List.find?_some h1
  have h3 := List.mem_of_find?_eq_some h1
  simp only [beq_iff_eq] at h2
  rw [← h2]; exact h3
theorem eget_snoc {E : Env} {v n : Int} {t : Tm} : eget (E ++ [(v, t)]) n = match eget E n with | some x => some x | none => if v = n then some t else none := by
  unfold eget
  rw [List.find?_append]
  cases h : E.find? (fun p => p.1 == n) with
  | some p => simp
  | none => by_cases e : v = n <;> simp [e]
def slookN (E : Env) : Nat → Tm → Tm
  | 0, t => t
  | k + 1, t => if t.kind = 0 then (match eget E t.n with
    | none => t
    | some x => slookN E k x) else t
def slook (E : Env) (t : Tm) : Tm := slookN E (t.n.toNat + 1) t
abbrev Tm.In (N : Int) (t : Tm) : Prop := t.Good N
theorem Tm.In.n {N : Int} {t : Tm} (h : t.In N) (hk : t.kind = 0) : 0 ≤ t.n ∧ t.n < N := by
  cases h with
  | var n h0 h1 => exact ⟨h0, h1⟩
  | atom => cases hk
  | int => cases hk
  | comp => cases hk
theorem Tm.In.arg {N : Int} {t : Tm} (h : t.In N) {x : Tm} (hx : x ∈ t.args) : x.In N := by
  cases h with
  | var => cases hx
  | atom => cases hx
  | int => cases hx
  | comp _ _ _ _ _ _ h4 => exact h4 x hx
theorem Tm.In.mono {N N' : Int} {t : Tm} (h : t.In N) (hN : N ≤ N') : t.In N' := by
  induction h with
  | var n h0 h1 => exact .var n h0 (by omega)
  | atom s h => exact .atom s h
  | int n h0 h1 => exact .int n h0 h1
  | comp s l h h1 h2 h3 _ ih => exact .comp s l h h1 h2 h3 ih
structure EnvOk (N : Int) (E : Env) : Prop where
  key : ∀ p ∈ E, 0 ≤ p.1 ∧ p.1 < N
  tm : ∀ p ∈ E, p.2.In N
  less : ∀ p ∈ E, p.2.kind = 0 → p.2.n < p.1
  nodup : (E.map (·.1)).Nodup
theorem EnvOk.nil (N : Int) : EnvOk N [] := ⟨by simp, by simp, by simp, by simp⟩
theorem EnvOk.mono {N N' : Int} {E : Env} (h : EnvOk N E) (hN : N ≤ N') : EnvOk N' E :=
  ⟨fun p hp => ⟨(h.key p hp).1, by have := (h.key p hp).2; omega⟩, fun p hp => (h.tm p hp).mono hN, h.less, h.nodup⟩
theorem EnvOk.take {N : Int} {E : Env} (h : EnvOk N E) (k : Nat) : EnvOk N (E.take k) :=
  ⟨fun p hp => h.key p (List.mem_of_mem_take hp), fun p hp => h.tm p (List.mem_of_mem_take hp), fun p hp => h.less p (List.mem_of_mem_take hp), by
    rw [List.map_take]; exact h.nodup.sublist (List.take_sublist _ _)⟩
theorem EnvOk.snoc {N : Int} {E : Env} (h : EnvOk N E) {v : Int} {t : Tm} (h0 : 0 ≤ v) (h1 : v < N) (hv : eget E v = none) (ht : t.In N) (hk : t.kind = 0 → t.n < v) : EnvOk N (E ++ [(v, t)]) := by
  refine ⟨fun p hp => ?_, fun p hp => ?_, fun p hp => ?_, ?_⟩
  · rcases List.mem_append.1 hp with hp | hp
    · exact h.key p hp
    · simp only [List.mem_singleton] at hp; subst hp; exact ⟨h0, h1⟩
  · rcases List.mem_append.1 hp with hp | hp
    · exact h.tm p hp
    · simp only [List.mem_singleton] at hp; subst hp; exact ht
  · rcases List.mem_append.1 hp with hp | hp
    · exact h.less p hp
    · simp only [List.mem_singleton] at hp; subst hp; exact hk
  · rw [List.map_append, List.nodup_append]
    refine ⟨h.nodup, by simp, fun a ha b hb => ?_⟩
    simp only [List.map_cons, List.map_nil, List.mem_singleton] at hb
    subst hb
    obtain ⟨p, hp, rfl⟩ := List.mem_map.1 ha
    exact eget_none.1 hv p hp
section
variable {N : Int} {E : Env}
theorem slookN_enough (h : EnvOk N E) : ∀ (k : Nat) (t : Tm), t.In N → t.n.toNat < k → ((slookN E k t).kind = 0 → eget E (slookN E k t).n = none) ∧ (slookN E k t).In N ∧ ∀ k', t.n.toNat < k' → slookN E k' t = slookN E k t
  | 0, t, ht, hk => by omega
  | k + 1, t, ht, hk => by
    by_cases e : t.kind = 0
    · cases he : eget E t.n with
      | none =>
        refine ⟨by simp [slookN, e, he], by simpa [slookN, e, he] using ht, fun k' hk' => ?_⟩
        cases k' with
        | zero => omega
        | succ k' => simp [slookN, e, he]
      | some x =>
        have hm := eget_mem he
        have hx : x.In N := h.tm _ hm
        have hn := ht.n e
        by_cases ex : x.kind = 0
        · have hl : x.n < t.n := h.less _ hm ex
          have hx0 := hx.n ex
          obtain ⟨i1, i2, i3⟩ := slookN_enough h k x hx (by omega)
          refine ⟨by simpa [slookN, e, he] using i1, by simpa [slookN, e, he] using i2, fun k' hk' => ?_⟩
          cases k' with
          | zero => omega
          | succ k' => simp only [slookN, e, he, if_true]; exact i3 k' (by omega)
        · have hs : ∀ k, slookN E k x = x := fun k => by cases k <;> simp [slookN, ex]
          refine ⟨by simp [slookN, e, he, hs, ex], by simpa [slookN, e, he, hs] using hx, fun k' hk' => ?_⟩
          cases k' with
          | zero => omega
          | succ k' => simp [slookN, e, he, hs]
    · refine ⟨by simp [slookN, e], by simpa [slookN, e] using ht, fun k' hk' => ?_⟩
      cases k' with
      | zero => omega
      | succ k' => simp [slookN, e]
theorem slook_free (h : EnvOk N E) {t : Tm} (ht : t.In N) (hk : (slook E t).kind = 0) : eget E (slook E t).n = none := (slookN_enough h _ t ht (Nat.lt_succ_self _)).1 hk
theorem slook_in (h : EnvOk N E) {t : Tm} (ht : t.In N) : (slook E t).In N := (slookN_enough h _ t ht (Nat.lt_succ_self _)).2.1
theorem slook_step (h : EnvOk N E) {t x : Tm} (ht : t.In N) (hk : t.kind = 0) (hx : eget E t.n = some x) : slook E t = slook E x := by
  have hm := eget_mem hx
  have hxi : x.In N := h.tm _ hm
  have hn := ht.n hk
  unfold slook
  rw [slookN, if_pos hk, hx]
  by_cases ex : x.kind = 0
  · have hl : x.n < t.n := h.less _ hm ex
    have hx0 := hxi.n ex
    exact (slookN_enough h _ x hxi (Nat.lt_succ_self _)).2.2 _ (by omega)
  · have hs : ∀ k, slookN E k x = x := fun k => by cases k <;> simp [slookN, ex]
    simp only [hs]
theorem slook_stop {t : Tm} (h : t.kind ≠ 0 ∨ eget E t.n = none) : slook E t = t := by
  unfold slook
  rw [slookN]
  split
  · rename_i hk
    rcases h with h | h
    · exact absurd hk h
    · rw [h]
  · rfl
theorem slook_idem (h : EnvOk N E) {t : Tm} (ht : t.In N) : slook E (slook E t) = slook E t := by
  by_cases hk : (slook E t).kind = 0
  · exact slook_stop (.inr (slook_free h ht hk))
  · exact slook_stop (.inl hk)
end
def inS (E : Env) (v : Int) : Nat → List Tm → Bool × Int
  | w, [] => (false, w)
  | 0, _ :: _ => (false, -1)
  | w + 1, z :: r =>
    if (slook E z).kind = 0 then (if (slook E z).n = v then (true, w) else inS E v w r)
    else inS E v w ((slook E z).args ++ r)
theorem inS_nil (E : Env) (v : Int) (w : Nat) : inS E v w [] = (false, (w : Int)) := by cases w <;> rfl
theorem inS_zero (E : Env) (v : Int) (z : Tm) (r : List Tm) : inS E v 0 (z :: r) = (false, -1) := rfl
theorem inS_succ (E : Env) (v : Int) (w : Nat) (z : Tm) (r : List Tm) : inS E v (w + 1) (z :: r) = if (slook E z).kind = 0 then (if (slook E z).n = v then (true, (w : Int)) else inS E v w r)
    else inS E v w ((slook E z).args ++ r) := rfl
structure US where
  ok : Bool
  env : Env
  work : Int
def tvar (n : Int) : Tm := .mk 0 n ByteArray.empty []
def uniS (w : Nat) (s : List (Tm × Tm)) (E : Env) : US :=
  match w, s with
  | w, [] => ⟨true, E, w⟩
  | 0, _ :: _ => ⟨false, E, -1⟩
  | w + 1, (a, b) :: r =>
    let x := slook E a
    let y := slook E b
    if x.kind = 0 ∧ y.kind = 0 then
      (if x.n = y.n then uniS w r E else uniS w r (E ++ [(max x.n y.n, tvar (min x.n y.n))]))
    else if x.kind = 0 ∨ y.kind = 0 then
      let v := if y.kind = 0 then y.n else x.n
      let z := if y.kind = 0 then x else y
      let p := inS E v w [z]
      if p.1 = true ∨ p.2 < 0 then ⟨false, E, p.2⟩ else uniS (min w p.2.toNat) r (E ++ [(v, z)])
    else if ¬ (x.kind = y.kind ∧ x.n = y.n ∧ x.s = y.s ∧ x.args.length = y.args.length) then ⟨false, E, w⟩
    else uniS w (x.args.zip y.args ++ r) E
termination_by w
decreasing_by all_goals omega
theorem uniS_nil (w : Nat) (E : Env) : uniS w [] E = ⟨true, E, w⟩ := by cases w <;> simp [uniS]
theorem uniS_zero (p : Tm × Tm) (r : List (Tm × Tm)) (E : Env) : uniS 0 (p :: r) E = ⟨false, E, -1⟩ := by simp [uniS]
theorem uniS_env {N : Int} : ∀ (w : Nat) (s : List (Tm × Tm)) (E : Env), EnvOk N E → (∀ p ∈ s, p.1.In N ∧ p.2.In N) →
    EnvOk N (uniS w s E).env ∧ (∃ F, (uniS w s E).env = E ++ F ∧ F.length ≤ w) := by
  intro w
  induction w using Nat.strongRecOn with
  | _ w ih =>
    intro s E hE hs
    match w, s, ih, hs with
    | w, [], _, _ => rw [uniS_nil]; exact ⟨hE, [], by simp, by simp⟩
    | 0, _ :: _, _, _ => rw [uniS_zero]; exact ⟨hE, [], by simp, by simp⟩
    | w + 1, (a, b) :: r, ih, hs =>
      obtain ⟨ha, hb⟩ := hs (a, b) (by simp)
      simp only at ha hb
      have hr : ∀ p ∈ r, p.1.In N ∧ p.2.In N := fun p hp => hs p (by simp [hp])
      have xa := slook_in hE ha
      have xb := slook_in hE hb
      have fa := slook_free hE ha
      have fb := slook_free hE hb
      rw [uniS]
      simp only
      generalize slook E a = x at *
      generalize slook E b = y at *
      split
      · rename_i hk
        have na := xa.n hk.1
        have nb := xb.n hk.2
        split
        · obtain ⟨h1, F, h2, h3⟩ := ih w (by omega) r E hE hr
          exact ⟨h1, F, h2, by omega⟩
        · rename_i hne
          have hE' : EnvOk N (E ++ [(max x.n y.n, tvar (min x.n y.n))]) := by
            refine hE.snoc (by omega) (by omega) ?_ (.var _ (by omega) (by omega)) (fun _ => by show min x.n y.n < max x.n y.n; omega)
            by_cases h : x.n ≤ y.n
            · rw [Int.max_eq_right h]; exact fb hk.2
            · rw [Int.max_eq_left (by omega)]; exact fa hk.1
          obtain ⟨h1, F, h2, h3⟩ := ih w (by omega) r _ hE' hr
          exact ⟨h1, _, by rw [h2, List.append_assoc], by simp; omega⟩
      · rename_i hk
        split
        · rename_i hk2
          generalize inS E (if y.kind = 0 then y.n else x.n) w [if y.kind = 0 then x else y] = p
          split
          · exact ⟨hE, [], by simp, by simp⟩
          · have hE' : EnvOk N (E ++ [(if y.kind = 0 then y.n else x.n, if y.kind = 0 then x else y)]) := by
              by_cases e : y.kind = 0
              · simp only [e, if_true]
                have nb := xb.n e
                exact hE.snoc nb.1 nb.2 (fb e) xa (fun h => absurd ⟨h, e⟩ hk)
              · simp only [e, if_false]
                have e' : x.kind = 0 := hk2.resolve_right e
                have na := xa.n e'
                exact hE.snoc na.1 na.2 (fa e') xb (fun h => absurd h e)
            obtain ⟨h1, F, h2, h3⟩ := ih (min w p.2.toNat) (by omega) r _ hE' hr
            exact ⟨h1, _, by rw [h2, List.append_assoc], by simp; omega⟩
        · split
          · exact ⟨hE, [], by simp, by simp⟩
          · obtain ⟨h1, F, h2, h3⟩ := ih w (by omega) (x.args.zip y.args ++ r) E hE (fun p hp => by
              rcases List.mem_append.1 hp with hp | hp
              · have := List.of_mem_zip hp
                exact ⟨xa.arg this.1, xb.arg this.2⟩
              · exact hr p hp)
            exact ⟨h1, F, h2, by omega⟩
def flL (E : Env) (w : Nat) (s : List Tm) : Option (List Tm × Nat) :=
  match w, s with
  | w, [] => some ([], w)
  | 0, _ :: _ => none
  | w + 1, z :: r =>
    let x := slook E z
    match flL E w x.args with
    | none => none
    | some (ts, w1) =>
      match flL E (min w w1) r with
      | none => none
      | some (rs, w2) => some (.mk x.kind x.n x.s ts :: rs, w2)
termination_by w
decreasing_by all_goals omega
theorem flL_nil (E : Env) (w : Nat) : flL E w [] = some ([], w) := by cases w <;> simp [flL]
theorem flL_zero (E : Env) (z : Tm) (r : List Tm) : flL E 0 (z :: r) = none := by simp [flL]
structure Ev where
  kind : Int
  terms : List Tm
structure Gl where
  t : Tm
  bar : Nat
structure Chc where
  g : List Gl
  at_ : Nat
  trail : Nat
structure Sv where
  env : Env
  choices : List Chc
  vars : Int
  fuel : Nat
  out : List Ev
inductive Res where
  | next (g : List Gl)
  | no
  | off
def Sv.put (s : Sv) (kind : Int) : Sv := { s with out := s.out ++ [⟨kind, []⟩] }
def shiftF (t : Tm) (d : Int) : Tm := t.ren fun n => low n + low d
def likeF (a b : Tm) : Prop := a.s = b.s ∧ a.args.length = b.args.length
noncomputable instance (a b : Tm) : Decidable (likeF a b) := by unfold likeF; infer_instance
noncomputable def nextF (P : List Cl) (t : Tm) : Nat → Nat → Nat
  | 0, k => k
  | n + 1, k => match P[k]? with
    | none => k
    | some c => if likeF c.head t then k else nextF P t n (k + 1)
def bodyF (b : Nat) (d : Int) (l : List Tm) (rest : List Gl) : List Gl := (l.map fun t => (⟨shiftF t d, b⟩ : Gl)) ++ rest
noncomputable def callF (P : List Cl) (g : Gl) (rest : List Gl) : Nat → Nat → Sv → Res × Sv
  | 0, _, s => (.no, s)
  | n + 1, k, s => match P[k]? with
    | none => (.no, s)
    | some c =>
      if ¬ likeF c.head g.t then callF P g rest n (k + 1) s
      else
        let u := uniS 400 [(shiftF c.head s.vars, g.t)] s.env
        if u.work < 0 then (.off, { s with env := u.env }.put 4)
        else if u.ok = false then callF P g rest n (k + 1) s
        else (.next (bodyF s.choices.length s.vars c.body rest), { s with
            env := u.env
            choices := if nextF P g.t (P.length - (k + 1)) (k + 1) < P.length then ⟨g :: rest, nextF P g.t (P.length - (k + 1)) (k + 1), s.env.length⟩ :: s.choices else s.choices
            vars := s.vars + c.vars })
noncomputable def backF (P : List Cl) : List Chc → Sv → Res × Sv
  | [], s => (.off, { s with choices := [] }.put 2)
  | c :: cs, s =>
    match c.g with
    | [] => (.off, s)
    | g :: rest =>
      match callF P g rest (P.length - c.at_) c.at_ { s with choices := cs, env := s.env.take c.trail } with
      | (.no, s') => backF P cs s'
      | r => r
noncomputable def knownF (g : Gl) (s : Sv) : Option Bool × Sv :=
  if g.t.s.toList = [33] then (some true, { s with choices := s.choices.drop (s.choices.length - g.bar) })
  else if g.t.s.toList = [116, 114, 117, 101] then (some true, s)
  else if g.t.s.toList = [102, 97, 105, 108] then (some false, s)
  else if g.t.s.toList = [101, 113] then
    let u := uniS 400 [((g.t.args[0]?).getD default, (g.t.args[1]?).getD default)] s.env
    if u.work < 0 then (none, { s with env := u.env }.put 4) else (some u.ok, { s with env := u.env })
  else
    let a := slook s.env ((g.t.args[0]?).getD default)
    let b := slook s.env ((g.t.args[1]?).getD default)
    if a.kind ≠ 2 ∨ b.kind ≠ 2 then (none, s.put 5)
    else if g.t.s.toList = [108, 101, 115, 115] then (some (decide (a.n < b.n)), s)
    else if a.n + b.n > 1099511627776 ∨ a.n + b.n < -1099511627776 then (none, s.put 5)
    else
      let u := uniS 400 [((g.t.args[2]?).getD default, .mk 2 (a.n + b.n) ByteArray.empty [])] s.env
      (some u.ok, { s with env := u.env })
noncomputable def stepF (P : List Cl) (g : Gl) (rest : List Gl) (s : Sv) : Res × Sv :=
  if s.fuel = 0 then (.off, s.put 3)
  else
    let s := { s with fuel := s.fuel - 1 }
    haveI := Classical.propDecidable g.t.Known
    if g.t.Known then
      match knownF g s with
      | (none, s') => (.off, s')
      | (some true, s') => (.next rest, s')
      | (some false, s') => backF P s'.choices s'
    else if ∀ c ∈ P, ¬ likeF c.head g.t then (.off, s.put 5)
    else match callF P g rest P.length 0 s with
      | (.no, s') => backF P s'.choices s'
      | r => r
def answerF (q : Nat) (s : Sv) : Bool × Sv :=
  match flL s.env 200 ((List.range q).map fun i => tvar (i : Nat)) with
  | none => (false, s.put 4)
  | some (l, _) =>
    let s := { s with out := s.out ++ [⟨1, tidy l⟩] }
    if s.out.length ≥ 12 then (false, s.put 6) else (true, s)
noncomputable def runF (P : List Cl) (q : Nat) : Nat → List Gl → Sv → Sv
  | 0, _, s => s
  | n + 1, [], s => match answerF q s with
    | (false, s') => s'
    | (true, s') => match backF P s'.choices s' with
      | (.next g, s'') => runF P q n g s''
      | (_, s'') => s''
  | n + 1, g :: rest, s => match stepF P g rest s with
    | (.next g', s') => runF P q n g' s'
    | (_, s') => s'
noncomputable def solveF (P : List Cl) (Q : List Tm) (vars fuel : Int) : List Ev × Int :=
  haveI := Classical.propDecidable (GoodP P ∧ GoodQ Q vars)
  if ¬ (GoodP P ∧ GoodQ Q vars) then ([], 1)
  else if fuel < 0 ∨ fuel > 150 then ([], 2)
  else ((runF P vars.toNat (fuel.toNat + 14) (Q.map fun t => ⟨t, 0⟩) ⟨[], [], vars, fuel.toNat, []⟩).out, 0)
end Go.Proofs.Ytlpmfkpefoegeab
