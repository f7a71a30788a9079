/-
  A queue of terms: a slice of one's own of which the first is taken away, and onto which is appended.
-/
import Derived.Test.YtlpmfkpefoegeacGreatDoorQCopy
namespace Go.Proofs.YtlpmfkpefoegeacGreatDoor
set_option linter.unusedVariables false
set_option linter.unusedSimpArgs false
open Go.RowKit
def QOwn (w : World) (base : Nat) (E : TypeId) (size : Nat) (v : Value) (n : Nat) (xs : List Value) : Prop :=
  xs.length = n * size ∧
  ((n = 0 ∧ ∃ a, v = .slice a 0 0) ∨
   ∃ g off cap cur, v = .slice (some ⟨g, off, none⟩) n cap ∧ 0 < cap ∧ base ≤ g ∧ w.heap[g]? = some (.cells cur E (0, 0)) ∧ n ≤ cap ∧ cap ≤ maxLen ∧ cur.size = off + cap * size ∧ (cur.toList.drop off).take (n * size) = xs)
theorem QOwn.keeps {A : Nat → Prop} {w w' : World} {base : Nat} {E : TypeId} {size : Nat} {v : Value} {n : Nat} {xs : List Value} (h : QOwn w base E size v n xs) (hk : Keeps A w w') (hA : ∀ b, base ≤ b → A b) : QOwn w' base E size v n xs := by
  refine ⟨h.1, ?_⟩
  rcases h.2 with hn | ⟨g, off, cap, cur, rfl, hc, hb, hgg, rest⟩
  · exact .inl hn
  · refine .inr ⟨g, off, cap, cur, rfl, hc, hb, ?_, rest⟩
    rw [hk.block g (blk_lt hgg) (hA g hb)]
    exact hgg
theorem QOwn.cells {w : World} {base : Nat} {E : TypeId} {size : Nat} {n : Nat} {xs : List Value} {g off cap : Nat} (h : QOwn w base E size (.slice (some ⟨g, off, none⟩) n cap) n xs) : ∀ j u, xs[j]? = some u → w.cell? ⟨g, off + j, none⟩ = some u := by
  intro j u hu
  rcases h.2 with ⟨rfl, a, hv⟩ | ⟨g', off', cap', cur, hv, _, _, hgg, _, _, _, htake⟩
  · have := h.1; simp at this; subst this; simp at hu
  · simp at hv; obtain ⟨⟨rfl, rfl⟩, rfl⟩ := hv
    rw [cell_of_row w g (off + j) cur E (0, 0) hgg]
    rw [← htake, List.getElem?_take] at hu
    split at hu
    · rw [List.getElem?_drop] at hu
      simpa using hu
    · cases hu
set_option maxHeartbeats 400000 in
theorem run_appQ {P : Program} (w : World) (base : Nat) (t ty e : TypeId) (i : TypeInfo) (z : Value) (size bytes : Nat) (ht : P.underlying t = some (.slice e)) (hi : P.info? e = some i) (hz : i.zero = some z)
    (hsize : i.size = size) (hby : i.bytes = bytes) (hzs : z.cells.size = size)
    (v : Value) (n : Nat) (xs : List Value) (hown : QOwn w base e size v n xs)
    (a : Addr) (m c : Nat) (news : List Value) (hl : news.length = m * size) (hnews : ∀ j u, news[j]? = some u → w.cell? (a.add j) = some u) (h1 : ∀ u ∈ news, u.oneCell' = true)
    (h63 : n + m ≤ maxLen) (hbytes : (n + m) * bytes ≤ 140737488355328) (hbase : base ≤ w.heap.size) :
    ∃ v' w', (Builtin.append_ #[t, t] ty #[v, .slice (some a) m c]).run P w = .ok v' w' ∧ QOwn w' base e size v' (n + m) (xs ++ news) ∧ Below base w w' := by
  subst hsize
  subst hby
  have hsmall : n + m ≤ 9223372036854775807 := by simp only [maxLen] at h63; omega
  have hlen : (xs ++ news).length = (n + m) * i.size := by rw [List.length_append, hown.1, hl, Nat.add_mul]
  have grown : ∀ (old : Nat), old < n + m →
      QOwn (w.drew.alloc (.cells (xs.toArray ++ news.toArray ++ Builtin.zeroCells z.cells (grownCap w (n + m) old e - (n + m))) e)) base e i.size
        (.slice (some ⟨w.heap.size, 0, none⟩) (n + m) (grownCap w (n + m) old e)) (n + m) (xs ++ news) ∧
      Below base w (w.drew.alloc (.cells (xs.toArray ++ news.toArray ++ Builtin.zeroCells z.cells (grownCap w (n + m) old e - (n + m))) e)) := by
    intro old ho
    have hge := grownCap_ge w (n + m) old e
    have hcm : grownCap w (n + m) old e ≤ maxLen := grownCap_le_maxLen w (n + m) old e h63
    refine ⟨⟨hlen, .inr ⟨w.heap.size, 0, _, _, rfl, by omega, hbase, heap_alloc_new w.drew _, hge, hcm, ?_, ?_⟩⟩, ⟨rfl, rfl, rfl, by simp, fun k hk => Below.heap_alloc w.drew _ k (by simp; omega)⟩⟩
    · simp only [Array.size_append, List.size_toArray, size_zeroCells, hzs, hown.1, hl, ← Nat.add_mul]
      rw [Nat.zero_add]
      congr 1
      omega
    · simp only [Array.toList_append, List.append_assoc, List.drop_zero]
      rw [← List.append_assoc, ← hlen]
      exact List.take_left
  rcases hown.2 with ⟨rfl, ba, rfl⟩ | ⟨g, off, cap, cur, rfl, hcp, hbg, hg, hnc, hcm, hcs, htake⟩
  · have hx : xs = [] := List.eq_nil_of_length_eq_zero (by simpa using hown.1)
    subst hx
    by_cases hm : m = 0
    · subst hm
      have hn : news = [] := List.eq_nil_of_length_eq_zero (by simpa using hl)
      subst hn
      refine ⟨.slice ba 0 0, w, ?_, ⟨by simp, .inl ⟨rfl, ba, rfl⟩⟩, Below.refl _ _⟩
      cases ba <;> simp [Builtin.append_, run_underlying ht, sizeOf, typeInfo, hi, Builtin.lenOf, Builtin.firstCells, loadCells, loadCellsFrom, storeCells]
    · have hgr := grown 0 (by omega)
      cases ba with
      | none =>
        have hr := run_append_nil (P := P) w t ty e i z ht hi hz a m c news hl hnews (by omega) (by omega) (by have hb := hbytes; simp only [Nat.zero_add] at hb; omega)
        simp only [Nat.zero_add, List.nil_append, Array.empty_append] at hgr ⊢
        exact ⟨_, _, hr, hgr.1, hgr.2⟩
      | some b0 =>
        have hr := run_append_grow (P := P) w t ty e i z ht hi hz b0 0 0 [] (by simp) (by simp) a m c news hl hnews (by omega) (by omega) (growslice_fits (by omega) hbytes)
        simp only [Nat.zero_add, List.nil_append, Array.empty_append] at hgr hr ⊢
        exact ⟨_, _, hr, hgr.1, hgr.2⟩
  · by_cases hroom : n + m ≤ cap
    · have hfit : off + n * i.size + news.length ≤ cur.size := by
        have := Nat.mul_le_mul_right i.size hroom
        rw [Nat.add_mul] at this
        omega
      have hf := run_firstCells_some (P := P) w i.size m a m c news hl hnews
      have hst := run_storeCells_at P g (off + n * i.size) e news 0 cur w hg (by simpa using hfit) h1
      simp only [Nat.add_zero] at hst
      refine ⟨.slice (some ⟨g, off, none⟩) (n + m) cap, w.setRow g (cur.toList.take (off + n * i.size) ++ news ++ cur.toList.drop (off + n * i.size + news.length)).toArray,
        by simp [Builtin.append_, run_underlying ht, sizeOf, typeInfo, hi, Builtin.lenOf, hroom, hf, Addr.add_lit, hst], ⟨hlen, .inr ⟨g, off, cap, _, rfl, hcp, hbg, setRow_heap w g cur _ e _ hg, hroom, hcm, ?_, ?_⟩⟩, ⟨rfl, rfl, rfl, by simp, fun k hk => setRow_other w g k _ (by omega)⟩⟩
      · simp only [List.size_toArray, List.length_append, List.length_take, List.length_drop, Array.length_toList]
        omega
      · have hsz : off ≤ (cur.toList.take (off + n * i.size)).length := by simp; omega
        simp only [List.append_assoc]
        rw [List.drop_append_of_le_length hsz, List.drop_take, show off + n * i.size - off = n * i.size by omega, htake, ← List.append_assoc, ← hlen]
        exact List.take_left
    · have holds : ∀ j u, xs[j]? = some u → w.cell? ((⟨g, off, none⟩ : Addr).add j) = some u := by
        intro j u hu
        have hadd : (⟨g, off, none⟩ : Addr).add j = ⟨g, off + j, none⟩ := by unfold Addr.add; split <;> simp_all
        rw [hadd]
        exact QOwn.cells hown j u hu
      have hr := run_append_grow (P := P) w t ty e i z ht hi hz ⟨g, off, none⟩ n cap xs hown.1 holds a m c news hl hnews (by omega) (by omega) (growslice_fits (by omega) hbytes)
      have hgr := grown cap (by omega)
      exact ⟨_, _, hr, hgr.1, hgr.2⟩
theorem run_appQ0 {P : Program} (w : World) (t ty e : TypeId) (i : TypeInfo) (ht : P.underlying t = some (.slice e)) (hi : P.info? e = some i) (v : Value) (n cap : Nat) (va : Option Addr) (hv : v = .slice va n cap) (hle : n ≤ cap) (a : Option Addr) (c : Nat) :
    (Builtin.append_ #[t, t] ty #[v, .slice a 0 c]).run P w = .ok v w := by
  subst hv
  cases a <;> cases va <;> simp [Builtin.append_, run_underlying ht, sizeOf, typeInfo, hi, Builtin.lenOf, hle, Builtin.firstCells, loadCells, loadCellsFrom, storeCells]
def QueR (w : World) (base : Nat) (A : Nat → Prop) (q : List Tm) (v : Value) : Prop :=
  ∃ vals : List (List Value), vals.length = q.length ∧ QOwn w base 34 4 v q.length vals.flatten ∧
    ∀ (i : Nat) x (vs : List Value), q[i]? = some x → vals[i]? = some vs → vs.length = 4 ∧ Tm.rep A w x vs
theorem QueR.keeps {w w' : World} {base : Nat} {A B : Nat → Prop} {q : List Tm} {v : Value} (h : QueR w base A q v) (hk : Keeps B w w') (hA : ∀ b, A b → B b) (hB : ∀ b, base ≤ b → B b) : QueR w' base A q v := by
  obtain ⟨vals, hl, ho, he⟩ := h
  exact ⟨vals, hl, ho.keeps hk hB, fun i x vs hx hv => ⟨(he i x vs hx hv).1, Tm.rep_lasts.1 _ w w' x vs (he i x vs hx hv).2 (hk.mono fun b _ hb => hA b hb)⟩⟩
theorem QueR.below {w w' : World} {base : Nat} {A : Nat → Prop} {q : List Tm} {v : Value} (h : QueR w base A q v) (hk : Below w.heap.size w w') : QueR w' base A q v :=
  h.keeps (Keeps.of_below (A := fun _ => True) hk) (fun _ _ => trivial) (fun _ _ => trivial)
theorem QueR.val {w : World} {base : Nat} {A : Nat → Prop} {q : List Tm} {v : Value} (h : QueR w base A q v) : ∃ a cap, v = .slice a q.length cap ∧ q.length ≤ cap ∧ cap ≤ maxLen := by
  obtain ⟨vals, hl, ho, he⟩ := h
  rcases ho.2 with ⟨h0, a, rfl⟩ | ⟨g, off, cap, cur, rfl, hc, hb, hgg, hle, hm, _⟩
  · exact ⟨a, 0, by rw [h0], by omega, by simp [maxLen]⟩
  · exact ⟨_, cap, rfl, hle, hm⟩
theorem tyTermI : ∃ i z, Tryz.prog.underlying 23 = some (.slice 34) ∧ Tryz.prog.info? 34 = some i ∧ i.zero = some z ∧ i.size = 4 ∧ i.bytes = 56 ∧ z.cells.size = 4 := tyTerm.1
theorem QueR.app {w : World} {base : Nat} {A : Nat → Prop} {q ys : List Tm} {v x : Value} (ty : TypeId) (h : QueR w base A q v) (hy : TmsR A w ys x) (hA : ∀ b, A b → b < base) (hl : q.length + ys.length ≤ 4194304) (hbase : base ≤ w.heap.size) :
    ∃ v' w', (Builtin.append_ #[23, 23] ty #[v, x]).run Tryz.prog w = .ok v' w' ∧ QueR w' base A (q ++ ys) v' ∧ Below base w w' := by
  obtain ⟨i, z, ht, hi, hz, h1, h2, h3⟩ := tyTermI
  obtain ⟨a, cap, gb, off, rfl, hlc, hcm, hlb, ha, he⟩ := hy.at
  by_cases h0 : ys = []
  · subst h0
    obtain ⟨va, vc, hv, hle, _⟩ := h.val
    exact ⟨v, w, run_appQ0 w _ ty _ i ht hi v _ vc va hv hle a cap, by simpa using h, Below.refl _ _⟩
  · obtain ⟨rfl, hAb⟩ := ha (List.length_pos_iff.2 h0)
    obtain ⟨vals, hvl, ho, hee⟩ := h
    have hch : ∀ n, n ≤ ys.length → ∃ nv : List (List Value), nv.length = n ∧ ∀ (i : Nat) x (vs : List Value), ys[i]? = some x → nv[i]? = some vs → vs.length = 4 ∧ Tm.rep A w x vs ∧ RowAt w gb (off + i * 4) vs := by
      intro n
      induction n with
      | zero => exact fun _ => ⟨[], rfl, fun i x vs _ h => by simp at h⟩
      | succ n ih =>
        intro hn
        obtain ⟨nv, h1, h2⟩ := ih (by omega)
        obtain ⟨vs, h3, h4, h5⟩ := he n _ (List.getElem?_eq_getElem (by omega))
        refine ⟨nv ++ [vs], by simp [h1], fun i x us hx hu => ?_⟩
        by_cases hin : i < n
        · rw [List.getElem?_append_left (by omega)] at hu
          exact h2 i x us hx hu
        · have : i = n := by have := (List.getElem?_eq_some_iff.1 hu).1; simp at this; omega
          subst this
          rw [List.getElem?_append_right (by omega), h1] at hu
          simp at hu
          subst hu
          rw [List.getElem?_eq_getElem (by omega)] at hx
          simp at hx; subst hx
          exact ⟨h3, h4, h5⟩
    obtain ⟨nv, hnl, hn⟩ := hch ys.length (Nat.le_refl _)
    have hsz : ∀ (i : Nat) (vs : List Value), nv[i]? = some vs → vs.length = 4 := fun i vs hv => by
      have hi : i < ys.length := by have := (List.getElem?_eq_some_iff.1 hv).1; omega
      exact (hn i _ vs (List.getElem?_eq_getElem hi) hv).1
    have hfl := flatten_len nv hsz
    have hcell : ∀ j u, nv.flatten[j]? = some u → w.cell? ((⟨gb, off, none⟩ : Addr).add j) = some u := by
      intro j u hj
      have hjl : j < nv.length * 4 := by have := (List.getElem?_eq_some_iff.1 hj).1; omega
      have hadd : (⟨gb, off, none⟩ : Addr).add j = ⟨gb, off + j, none⟩ := by unfold Addr.add; split <;> simp_all
      have hdm : j = j / 4 * 4 + j % 4 := by omega
      have hi : j / 4 < nv.length := by omega
      have hv := List.getElem?_eq_getElem hi
      have hx : ys[j / 4]? = some (ys[j / 4]'(by omega)) := List.getElem?_eq_getElem (by omega)
      obtain ⟨h1, h2, h3⟩ := hn (j / 4) _ _ hx hv
      rw [hdm, flatten_get nv hsz _ _ _ hv (Nat.mod_lt _ (by omega))] at hj
      have := h3 _ u hj
      rw [hadd, show off + j = off + j / 4 * 4 + j % 4 by omega]
      exact this
    have h1c : ∀ u ∈ nv.flatten, u.oneCell' = true := by
      intro u hu
      obtain ⟨vs, hvs, huv⟩ := List.mem_flatten.1 hu
      obtain ⟨i, hi, rfl⟩ := List.mem_iff_getElem.1 hvs
      have hv := List.getElem?_eq_getElem hi
      have hx : ys[i]? = some (ys[i]'(by omega)) := List.getElem?_eq_getElem (by omega)
      exact Tm.rep_lasts.2.2 _ _ _ _ (hn i _ _ hx hv).2.1 u huv
    obtain ⟨v', w', hrun, hown', hb⟩ := run_appQ (P := Tryz.prog) w base 23 ty 34 i z 4 56 ht hi hz h1 h2 h3 v q.length _ ho ⟨gb, off, none⟩ ys.length cap nv.flatten (by rw [hfl, hnl]) hcell h1c
      (by simp only [maxLen]; omega) (by omega) hbase
    refine ⟨v', w', hrun, ⟨vals ++ nv, by simp [hvl, hnl], by simpa using hown', ?_⟩, hb⟩
    have hk : Keeps A w w' := ⟨hb.size, fun b _ hb2 => hb.block b (hA b hb2)⟩
    intro i x vs hx hv
    by_cases hi' : i < q.length
    · rw [List.getElem?_append_left (by omega)] at hx hv
      obtain ⟨h1, h2⟩ := hee i x vs hx hv
      exact ⟨h1, Tm.rep_lasts.1 _ _ _ _ _ h2 hk⟩
    · rw [List.getElem?_append_right (by omega)] at hx hv
      rw [hvl] at hv
      obtain ⟨h1, h2, _⟩ := hn _ x vs hx hv
      exact ⟨h1, Tm.rep_lasts.1 _ _ _ _ _ h2 hk⟩
theorem QueR.tail {w : World} {base : Nat} {A : Nat → Prop} {x : Tm} {r : List Tm} {g off cap : Nat} {a' : Option Addr} (h : QueR w base A (x :: r) (.slice (some ⟨g, off, none⟩) (r.length + 1) cap)) (ha : 1 < cap → a' = some ⟨g, off + 4, none⟩) :
    QueR w base A r (.slice a' r.length (cap - 1)) := by
  obtain ⟨vals, hl, ho, he⟩ := h
  obtain ⟨vs, vals, rfl⟩ : ∃ vs vr, vals = vs :: vr := by
    cases vals with
    | nil => simp at hl
    | cons a b => exact ⟨a, b, rfl⟩
  simp only [List.length_cons, Nat.add_right_cancel_iff] at hl
  have hv0 := (he 0 x vs rfl rfl).1
  have hlen := ho.1
  simp only [List.flatten_cons, List.length_append, List.length_cons] at hlen
  refine ⟨vals, hl, ⟨by omega, ?_⟩, fun i y us hy hu => he (i + 1) y us (by simpa using hy) (by simpa using hu)⟩
  rcases ho.2 with ⟨h0, a, hv⟩ | ⟨g', off', cap', cur, hv, hc, hb, hgg, hle, hm, hsz, htk⟩
  · simp at h0
  · simp only [Value.slice.injEq, Option.some.injEq, Addr.mk.injEq, and_true] at hv
    obtain ⟨⟨rfl, rfl⟩, -, rfl⟩ := hv
    simp only [List.length_cons] at hle htk
    by_cases h1 : cap = 1
    · subst h1
      exact .inl ⟨by omega, a', by rw [show r.length = 0 by omega]⟩
    · refine .inr ⟨g, off + 4, cap - 1, cur, by rw [ha (by omega)], by omega, hb, hgg, by omega, by omega, by omega, ?_⟩
      have e : (cur.toList.drop off).take ((r.length + 1) * 4) = vs ++ vals.flatten := by simpa using htk
      have e2 : ((cur.toList.drop off).take ((r.length + 1) * 4)).drop 4 = vals.flatten := by rw [e, ← hv0]; exact List.drop_left
      rw [List.drop_take, List.drop_drop] at e2
      rw [← e2]
      congr 1
      omega
theorem QueR.head {w : World} {base : Nat} {A : Nat → Prop} {x : Tm} {r : List Tm} {v : Value} (h : QueR w base A (x :: r) v) : ∃ g off cap sa sc, v = .slice (some ⟨g, off, none⟩) (r.length + 1) cap ∧ r.length + 1 ≤ cap ∧ cap ≤ maxLen ∧ g < w.heap.size ∧
    w.cell? ⟨g, off, none⟩ = some (.int .i64 x.kind) ∧ w.cell? ⟨g, off + 1, none⟩ = some (.int .i64 x.n) ∧ w.cell? ⟨g, off + 2, none⟩ = some (.string x.s) ∧ w.cell? ⟨g, off + 3, none⟩ = some (.slice sa x.args.length sc) ∧
    Tm.rep A w x [.int .i64 x.kind, .int .i64 x.n, .string x.s, .slice sa x.args.length sc] := by
  obtain ⟨vals, hl, ho, he⟩ := h
  obtain ⟨vs, vals, rfl⟩ : ∃ vs vr, vals = vs :: vr := by
    cases vals with
    | nil => simp at hl
    | cons a b => exact ⟨a, b, rfl⟩
  obtain ⟨hv0, hr⟩ := he 0 x vs rfl rfl
  obtain ⟨sa, sc, rfl, -⟩ := Tm.rep4 hr
  rcases ho.2 with ⟨h0, a, hv⟩ | ⟨g, off, cap, cur, rfl, hc, hb, hgg, hle, hm, hsz, htk⟩
  · simp at h0
  · refine ⟨g, off, cap, sa, sc, rfl, hle, hm, blk_lt hgg, ?_, ?_, ?_, ?_, hr⟩
    · exact QOwn.cells ho 0 _ rfl
    · exact QOwn.cells ho 1 _ rfl
    · exact QOwn.cells ho 2 _ rfl
    · exact QOwn.cells ho 3 _ rfl
theorem QueR.one {w : World} {base g : Nat} {A : Nat → Prop} {x : Tm} {vs : List Value} (hg : w.heap[g]? = some (.cells vs.toArray 34 (0, 0))) (hb : base ≤ g) (hx : Tm.rep A w x vs) : QueR w base A [x] (.slice (some ⟨g, 0, none⟩) 1 1) := by
  obtain ⟨sa, sc, rfl, -⟩ := Tm.rep4 hx
  refine ⟨[[.int .i64 x.kind, .int .i64 x.n, .string x.s, .slice sa x.args.length sc]], rfl, ⟨rfl, .inr ⟨g, 0, 1, _, rfl, by omega, hb, hg, by simp, by simp [maxLen], rfl, rfl⟩⟩, fun i y us hy hu => ?_⟩
  cases i with
  | zero => simp at hy hu; subst hy hu; exact ⟨rfl, hx⟩
  | succ i => simp at hy
theorem step_appQ {ops : Array Oper} {o : Oper} {a : Act} {w : World} {K : Act → World → Prop} {Q : Exit → Act → World → Prop} {E : Prop} (hg : o.guard = none) (s x : Operand)
    (ho : o.op = .call { callee := .builtin .append, args := #[s, x], argTypes := #[23, 23] })
    (base : Nat) {A : Nat → Prop} (v : Value) (q ys : List Tm) (hs : a.eval s = v) (h : QueR w base A q v) (u : Value) (hx : a.eval x = u) (hy : TmsR A w ys u) (hA : ∀ b, A b → b < base) (hl : q.length + ys.length ≤ 4194304 ∧ base ≤ w.heap.size)
    (hK : ∀ v' w', QueR w' base A (q ++ ys) v' → Below base w w' → K (a.put o.dst v') w') : if Region.wanted o (yielded ops a.tmps) = true then Oper.wp Tryz.prog o a w K Q else E := by
  rw [if_pos (by simp [Region.wanted, hg])]
  obtain ⟨v', w', hr, h2, h3⟩ := QueR.app o.type h hy hA hl.1 hl.2
  unfold Oper.wp execOp
  simp only [ho, resolve, invoke, builtin, Sem.run_bind, Sem.run_pure, Result.andThen_ok, List.map_toArray, List.map_cons, List.map_nil, hs, hx, hr]
  exact hK _ _ h2 h3
end Go.Proofs.YtlpmfkpefoegeacGreatDoor
