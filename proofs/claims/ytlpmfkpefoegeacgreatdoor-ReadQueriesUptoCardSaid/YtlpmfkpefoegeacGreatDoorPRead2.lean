/-
  Reading, in plain data: goals, clauses, programs and queries: the reader and the document's parser come to the same; spaces ahead and behind change nothing.
-/
import Derived.Test.YtlpmfkpefoegeacGreatDoorQNodes
import Derived.Test.YtlpmfkpefoegeacGreatDoorQIsHeap
import Derived.Test.YtlpmfkpefoegeacGreatDoorPRead
namespace Go.Proofs.YtlpmfkpefoegeacGreatDoor
set_option linter.unusedVariables false
set_option linter.unusedSimpArgs false
set_option maxRecDepth 100000
open Go.RowKit
def Tm.IsGoal (t : Tm) : Prop := t.kind = 1 ∨ t.kind = 3
def Tm.Known (t : Tm) : Prop := (t.args.length = 0 ∧ (t.s.toList = [33] ∨ t.s.toList = [116, 114, 117, 101] ∨ t.s.toList = [102, 97, 105, 108])) ∨
  (t.args.length = 2 ∧ (t.s.toList = [101, 113] ∨ t.s.toList = [108, 101, 115, 115])) ∨ (t.args.length = 3 ∧ t.s.toList = [97, 100, 100])
def Tm.Fits (v : Int) (t : Tm) : Prop := t.Good v ∧ t.nodes ≤ 24
theorem isGoal_ok (t : Tm) (A : Nat → Prop) (w : World) (vs : List Value) (hv : Tm.rep A w t vs) :
    Calls Tryz.prog 90 #[.agg vs.toArray] w (Pure w (BoolP t.IsGoal)) := by
  obtain ⟨k, n, s, l⟩ := t
  rw [Tm.rep_iff] at hv
  obtain ⟨hk, hn, hs, v, rfl, hl⟩ := hv
  obtain ⟨a, cap, -, -, rfl, -⟩ := hl.at
  have HB := hid (show Below w.heap.size w (w.alloc (.cells #[.int .i64 k, .int .i64 n, .string s, .slice a l.length cap] 34)) from below_pure (Below.refl _ _))
  clear hl
  by_cases e1 : k = 1
  · subst e1
    go_enter Tryz.func90, Tryz.ntmps90
    go_wp2_with fail
    go_ret
    exact ⟨_, rfl, HB.out, _, rfl, by simp [Tm.IsGoal, Tm.kind]⟩
  · have h1 : (k == 1) = false := by simpa using e1
    by_cases e3 : k = 3
    · subst e3
      go_enter Tryz.func90, Tryz.ntmps90
      go_wp2_with fail
      go_ret
      exact ⟨_, rfl, HB.out, _, rfl, by simp [Tm.IsGoal, Tm.kind]⟩
    · have h3 : (k == 3) = false := by simpa using e3
      go_enter Tryz.func90, Tryz.ntmps90
      go_wp2_with fail
      go_ret
      exact ⟨_, rfl, HB.out, _, rfl, by simp [Tm.IsGoal, Tm.kind, e1, e3]⟩
set_option maxHeartbeats 1000000 in
theorem known_ok (t : Tm) (A : Nat → Prop) (w : World) (vs : List Value) (hv : Tm.rep A w t vs) :
    Calls Tryz.prog 92 #[.agg vs.toArray] w (Pure w (BoolP t.Known)) := by
  obtain ⟨k, n, s, l⟩ := t
  rw [Tm.rep_iff] at hv
  obtain ⟨hk, hn, hs, v, rfl, hl⟩ := hv
  obtain ⟨a, cap, -, -, rfl, -⟩ := hl.at
  have HB := hid (show Below w.heap.size w (w.alloc (.cells #[.int .i64 k, .int .i64 n, .string s, .slice a l.length cap] 34)) from below_pure (Below.refl _ _))
  clear hl
  by_cases e0 : l.length = 0
  · rw [e0]
    by_cases s1 : s.toList = [33]
    · have q1 : (s.toList == [33]) = true := by simpa using s1
      go_enter Tryz.func92, Tryz.ntmps92
      rw [e0] at HB
      go_wp2_with fail
      go_ret
      exact ⟨_, rfl, HB.out, _, rfl, by simp [Tm.Known, Tm.args, Tm.s, e0, s1]⟩
    · have q1 : (s.toList == [33]) = false := by simpa using s1
      by_cases s2 : s.toList = [116, 114, 117, 101]
      · have q2 : (s.toList == [116, 114, 117, 101]) = true := by simpa using s2
        go_enter Tryz.func92, Tryz.ntmps92
        rw [e0] at HB
        go_wp2_with fail
        go_ret
        exact ⟨_, rfl, HB.out, _, rfl, by simp [Tm.Known, Tm.args, Tm.s, e0, s2]⟩
      · have q2 : (s.toList == [116, 114, 117, 101]) = false := by simpa using s2
        go_enter Tryz.func92, Tryz.ntmps92
        rw [e0] at HB
        go_wp2_with fail
        go_ret
        exact ⟨_, rfl, HB.out, _, rfl, by simp [Tm.Known, Tm.args, Tm.s, e0, s1, s2]⟩
  · by_cases e2 : l.length = 2
    · rw [e2]
      by_cases s1 : s.toList = [101, 113]
      · have q1 : (s.toList == [101, 113]) = true := by simpa using s1
        go_enter Tryz.func92, Tryz.ntmps92
        rw [e2] at HB
        go_wp2_with fail
        go_ret
        exact ⟨_, rfl, HB.out, _, rfl, by simp [Tm.Known, Tm.args, Tm.s, e2, s1]⟩
      · have q1 : (s.toList == [101, 113]) = false := by simpa using s1
        go_enter Tryz.func92, Tryz.ntmps92
        rw [e2] at HB
        go_wp2_with fail
        go_ret
        exact ⟨_, rfl, HB.out, _, rfl, by simp [Tm.Known, Tm.args, Tm.s, e2, s1]⟩
    · by_cases e3 : l.length = 3
      · rw [e3]
        go_enter Tryz.func92, Tryz.ntmps92
        rw [e3] at HB
        go_wp2_with fail
        go_ret
        exact ⟨_, rfl, HB.out, _, rfl, by simp [Tm.Known, Tm.args, Tm.s, e3]⟩
      · have l0 : ((l.length : Int) == 0) = false := by simpa using (show ¬ (l.length : Int) = 0 by omega)
        have l2 : ((l.length : Int) == 2) = false := by simpa using (show ¬ (l.length : Int) = 2 by omega)
        have l3 : ((l.length : Int) == 3) = false := by simpa using (show ¬ (l.length : Int) = 3 by omega)
        go_enter Tryz.func92, Tryz.ntmps92
        go_wp2_with fail
        go_ret
        refine ⟨_, rfl, HB.out, _, rfl, ?_⟩
        simp only [Tm.Known, Tm.args, Tm.s]
        exact ⟨(fun h => by cases h), fun h => by rcases h with ⟨h, -⟩ | ⟨h, -⟩ | ⟨h, -⟩ <;> omega⟩
theorem fits_ok (t : Tm) (v : Int) (hnd : t.nodes ≤ 1099511627776) (hi : I64 v) (A : Nat → Prop) (w : World) (vs : List Value) (hv : Tm.rep A w t vs) :
    Calls Tryz.prog 91 #[.agg vs.toArray, .int .i64 v] w (Pure w (BoolP (t.Fits v))) := by
  have HG := hid (fun w' (hk : Keeps A w w') => goodT_ok t v A w' vs hi (Tm.rep_lasts.1 _ _ _ _ _ hv hk))
  have HN := hid (fun w' (hk : Keeps A w w') => nodes_ok t A w' vs hnd (Tm.rep_lasts.1 _ _ _ _ _ hv hk))
  obtain ⟨sa, sc, rfl, -⟩ := Tm.rep4 hv
  clear hv
  go_enter Tryz.func91, Tryz.ntmps91
  go_wp2_with fail
  refine (HG.out _ (Keeps.alloc _ _ _)).mono ?_
  rintro e w1 ⟨r, rfl, hb, b, rfl, hr⟩
  have HB := hid (show Below w.heap.size w w1 from below_pure (hb.mono (by simp)))
  have HX := hid (blk_below (blk_new w (.cells #[.int .i64 t.kind, .int .i64 t.n, .string t.s, .slice sa t.args.length sc] 34)) hb)
  clear hb
  obtain ⟨x0, x1, x2, x3, xf⟩ := blk4 HX.out
  have hzz := HB.out.size
  cases b with
  | false =>
    have HNG := hid (show ¬ t.Good v from fun h => by have := hr.2 h; cases this)
    clear hr
    go_wp2_with fail
    go_ret
    exact ⟨_, rfl, HB.out, _, rfl, ⟨(fun h => by cases h), fun h => absurd h.1 HNG.out⟩⟩
  | true =>
    have HGD := hid (hr.1 rfl)
    clear hr
    go_wp2_with fail
    refine (HN.out _ (Keeps.of_below HB.out)).mono ?_
    rintro e w2 ⟨r, rfl, hb, rfl⟩
    have HB2 := hid (HB.out.trans (hb.mono HB.out.size))
    clear hb
    by_cases hn : t.nodes ≤ 24
    · have HNN := hid hn
      have hn' : (t.nodes : Int) ≤ 24 := by omega
      clear hn
      go_wp2_with fail
      go_ret
      exact ⟨_, rfl, HB2.out, _, rfl, ⟨fun _ => ⟨HGD.out, HNN.out⟩, fun _ => (by first | rfl | simp [hn'])⟩⟩
    · have HNN := hid hn
      have hn' : ¬ (t.nodes : Int) ≤ 24 := by omega
      clear hn
      go_wp2_with fail
      go_ret
      exact ⟨_, rfl, HB2.out, _, rfl, ⟨(fun h => by first | (cases h; done) | (simp at h; omega)), fun h => absurd h.2 HNN.out⟩⟩
structure Cl where
  head : Tm
  body : List Tm
  vars : Int
def Cl.rep (A : Nat → Prop) (w : World) (c : Cl) (vs : List Value) : Prop :=
  ∃ a ac b bc, vs = [.int .i64 c.head.kind, .int .i64 c.head.n, .string c.head.s, .slice a c.head.args.length ac, .slice b c.body.length bc, .int .i64 c.vars] ∧
    Tm.rep A w c.head [.int .i64 c.head.kind, .int .i64 c.head.n, .string c.head.s, .slice a c.head.args.length ac] ∧ TmsR A w c.body (.slice b c.body.length bc) ∧ I64 c.vars
theorem Cl.rep_lasts : Lasts Cl.rep := by
  refine ⟨fun A w w' c vs h hk => ?_, fun A A' w c vs h hA => ?_, fun A w c vs h => ?_⟩
  · obtain ⟨a, ac, b, bc, rfl, h1, h2, h3⟩ := h
    exact ⟨a, ac, b, bc, rfl, Tm.rep_lasts.1 _ _ _ _ _ h1 hk, SlR.keeps Tm.rep_lasts h2 hk, h3⟩
  · obtain ⟨a, ac, b, bc, rfl, h1, h2, h3⟩ := h
    exact ⟨a, ac, b, bc, rfl, Tm.rep_lasts.2.1 _ _ _ _ _ h1 hA, SlR.mono Tm.rep_lasts (by omega) h2 hA, h3⟩
  · obtain ⟨a, ac, b, bc, rfl, h1, h2, h3⟩ := h
    intro u hu
    simp only [List.mem_cons, List.not_mem_nil, or_false] at hu
    rcases hu with rfl | rfl | rfl | rfl | rfl | rfl <;> rfl
theorem nodesL_mem {l : List Tm} {t : Tm} (h : t ∈ l) : t.nodes ≤ Tm.nodesL l := by
  induction l with
  | nil => cases h
  | cons x r ih =>
    simp only [Tm.nodesL]
    rcases List.mem_cons.1 h with rfl | h
    · omega
    · have := ih h; omega
set_option maxHeartbeats 1000000 in
theorem goals_ok (l : List Tm) (v : Int) (hnd : Tm.nodesL l ≤ 1099511627776) (hi : I64 v) (A : Nat → Prop) (w : World) (u : Value) (hu : TmsR A w l u) :
    Calls Tryz.prog 56 #[u, .int .i64 v] w (Pure w (BoolP (∀ g ∈ l, g.IsGoal ∧ g.Fits v))) := by
  obtain ⟨a, cap, b, off, rfl, hlc, hcm, hlb, ha, he⟩ := hu.at
  have HE := hid he
  have HA := hid ha
  have HI := hid hi
  have HND := hid hnd
  clear hu he ha hi hnd
  go_enter Tryz.func56, Tryz.ntmps56
  go_wp2_with fail
  go_loopw [9] (fun i W => ∃ j : Nat, j ≤ l.length ∧ i = .int .i64 (j : Int) ∧ Below w.heap.size w W ∧ ∀ q (hq : q < l.length), q < j → l[q].IsGoal ∧ l[q].Fits v) (fun i _ => l.length - (intOf i).toNat)
  case atStart => exact ⟨0, Nat.zero_le _, rfl, Below.refl _ _, fun q _ h => absurd h (Nat.not_lt_zero _)⟩
  case round =>
    obtain ⟨j, hj, rfl, hb, hq⟩ := hrel
    have HB := hid hb
    have HQ := hid hq
    have hz := hb.size
    clear hb hq
    by_cases hlt : j < l.length
    · obtain ⟨rfl, hAb⟩ := HA.out (by omega)
      obtain ⟨sa, sc, c0, c1, c2, c3, hr⟩ := tm_cells HE.out hAb (Keeps.of_below HB.out) hlt
      have hlt' : (j : Int) < (l.length : Int) := by omega
      have HLT := hid hlt
      obtain ⟨t, ht⟩ : ∃ t, t = l[j]'hlt := ⟨_, rfl⟩
      have hmem : t ∈ l := by rw [ht]; exact List.getElem_mem _
      rw [← ht] at c0 c1 c2 c3 hr
      have hn := nodesL_mem hmem
      have hnn := HND.out
      have HT := hid ht
      have HR := hid hr
      have HN := hid (show t.nodes ≤ 1099511627776 by omega)
      clear hr ht hmem hn hnn
      go_wp2_with fail
      refine (isGoal_ok t A _ _ (Tm.rep_lasts.1 _ _ _ _ _ HR.out (Keeps.alloc _ _ _))).mono ?_
      rintro e w1 ⟨r, rfl, hb, g, rfl, hg⟩
      have HX := hid (blk_below (blk_new wr (.cells #[.int .i64 t.kind, .int .i64 t.n, .string t.s, .slice sa t.args.length sc] 34)) hb)
      have HB1 := hid ((HB.out.alloc (by omega) (.cells #[.int .i64 t.kind, .int .i64 t.n, .string t.s, .slice sa t.args.length sc] 34)).trans (hb.mono (by simp; omega)))
      have HR1 := hid (Tm.rep_lasts.1 _ _ _ _ _ (Tm.rep_lasts.1 _ _ _ _ _ HR.out (Keeps.alloc _ _ (.cells (#[.int .i64 t.kind, .int .i64 t.n, .string t.s, .slice sa t.args.length sc] : Array Value) 34))) (Keeps.of_below hb))
      clear hb c0 c1 c2 c3
      obtain ⟨x0, x1, x2, x3, xf⟩ := blk4 HX.out
      cases g with
      | false =>
        have HNG := hid (show ¬ t.IsGoal from fun h => by have := hg.2 h; cases this)
        clear hg
        go_wp2_with fail
        go_ret
        exact ⟨_, rfl, HB1.out, _, rfl, ⟨(fun h => by cases h), fun h => absurd (h t (by rw [HT.out]; exact List.getElem_mem _)).1 HNG.out⟩⟩
      | true =>
        have HGD := hid (hg.1 rfl)
        clear hg
        go_wp2_with fail
        refine (fits_ok t v HN.out HI.out A _ _ HR1.out).mono ?_
        rintro e w2 ⟨r, rfl, hb, g, rfl, hg⟩
        have HB2 := hid (HB1.out.trans (hb.mono HB1.out.size))
        clear hb x0 x1 x2 x3 xf
        cases g with
        | false =>
          have HNG := hid (show ¬ t.Fits v from fun h => by have := hg.2 h; cases this)
          clear hg
          go_wp2_with fail
          go_ret
          exact ⟨_, rfl, HB2.out, _, rfl, ⟨(fun h => by cases h), fun h => absurd (h t (by rw [HT.out]; exact List.getElem_mem _)).2 HNG.out⟩⟩
        | true =>
          have HFT := hid (hg.1 rfl)
          clear hg
          go_wp2_with fail
          go_roundw
          case rel =>
            refine ⟨j + 1, by omega, by go_num, HB2.out, fun q hq hqj => ?_⟩
            by_cases e : q = j
            · subst e; rw [← HT.out]; exact ⟨HGD.out, HFT.out⟩
            · exact HQ.out q hq (by omega)
          case measure => first | (simp [intOf]; done) | (simp [intOf]; omega)
    · have hlt' : ¬ (j : Int) < (l.length : Int) := by omega
      have HALL := hid (show ∀ g ∈ l, g.IsGoal ∧ g.Fits v from fun g hg => by
        obtain ⟨q, hq, rfl⟩ := List.mem_iff_getElem.1 hg
        exact HQ.out q hq (by omega))
      go_wp2_with fail
      go_ret
      exact ⟨_, rfl, HB.out, _, rfl, ⟨fun _ => HALL.out, fun _ => rfl⟩⟩
def GoodQ (l : List Tm) (v : Int) : Prop := 0 ≤ v ∧ v ≤ 8 ∧ l.length ≤ 5 ∧ ∀ g ∈ l, g.IsGoal ∧ g.Fits v
def Cl.Good (c : Cl) : Prop := GoodQ c.body c.vars ∧ c.head.IsGoal ∧ c.head.Fits c.vars ∧ ¬ c.head.Known
theorem goodQuery_ok (l : List Tm) (v : Int) (hnd : Tm.nodesL l ≤ 1099511627776) (hi : I64 v) (A : Nat → Prop) (w : World) (u : Value) (hu : TmsR A w l u) :
    Calls Tryz.prog 30 #[u, .int .i64 v] w (Pure w (BoolP (GoodQ l v))) := by
  have HC := hid (goals_ok l v hnd hi A w u hu)
  obtain ⟨a, cap, b, off, rfl, hlc, hcm, hlb, ha, he⟩ := hu.at
  clear hu ha he
  by_cases h1 : 0 ≤ v
  · by_cases h2 : v ≤ 8
    · by_cases h3 : l.length ≤ 5
      · have h3' : (l.length : Int) ≤ 5 := by omega
        go_enter Tryz.func30, Tryz.ntmps30
        go_wp2_with fail
        refine (HC.out).mono ?_
        rintro e w1 ⟨r, rfl, hb, g, rfl, hg⟩
        have HB := hid hb
        have HG := hid hg
        clear hb hg
        go_wp2_with fail
        go_ret
        exact ⟨_, rfl, HB.out, _, rfl, by rw [HG.out]; exact ⟨fun h => ⟨h1, h2, h3, h⟩, fun h => h.2.2.2⟩⟩
      · have h3' : ¬ (l.length : Int) ≤ 5 := by omega
        go_enter Tryz.func30, Tryz.ntmps30
        go_wp2_with fail
        go_ret
        exact ⟨_, rfl, Below.refl _ _, _, rfl, ⟨(fun h => by first | (cases h; done) | (simp at h; omega)), fun h => absurd h.2.2.1 h3⟩⟩
    · go_enter Tryz.func30, Tryz.ntmps30
      go_wp2_with fail
      go_ret
      exact ⟨_, rfl, Below.refl _ _, _, rfl, ⟨(fun h => by first | (cases h; done) | (simp at h; omega)), fun h => absurd h.2.1 (by omega)⟩⟩
  · go_enter Tryz.func30, Tryz.ntmps30
    go_wp2_with fail
    go_ret
    exact ⟨_, rfl, Below.refl _ _, _, rfl, ⟨(fun h => by first | (cases h; done) | (simp at h; omega)), fun h => absurd h.1 (by omega)⟩⟩
theorem blk6 {w : World} {g : Nat} {E : TypeId} {v0 v1 v2 v3 v4 v5 : Value} (h : w.heap[g]? = some (.cells #[v0, v1, v2, v3, v4, v5] E (0, 0))) :
    w.cell? ⟨g, 0, none⟩ = some v0 ∧ w.cell? ⟨g, 1, none⟩ = some v1 ∧ w.cell? ⟨g, 2, none⟩ = some v2 ∧ w.cell? ⟨g, 3, none⟩ = some v3 ∧ w.cell? ⟨g, 4, none⟩ = some v4 ∧ w.cell? ⟨g, 5, none⟩ = some v5 ∧ ∀ o, w.frozen? ⟨g, o, none⟩ = false :=
  ⟨(blk_cell h 0).trans rfl, (blk_cell h 1).trans rfl, (blk_cell h 2).trans rfl, (blk_cell h 3).trans rfl, (blk_cell h 4).trans rfl, (blk_cell h 5).trans rfl, fun o => by simp [World.frozen?, h]⟩
def Cl.nodes (c : Cl) : Nat := c.head.nodes + Tm.nodesL c.body
set_option maxHeartbeats 2000000 in
theorem goodClause_ok (c : Cl) (hnd : c.nodes ≤ 1099511627776) (A : Nat → Prop) (w : World) (vs : List Value) (hc : Cl.rep A w c vs) :
    Calls Tryz.prog 52 #[.agg vs.toArray] w (Pure w (BoolP c.Good)) := by
  obtain ⟨h, l, v⟩ := c
  obtain ⟨a, ac, b, bc, rfl, hh, hb, hi⟩ := hc
  simp only [Cl.nodes] at hnd
  simp only at hh hb hi
  obtain ⟨_, _, -, -, e, -, -, hbl, -⟩ := hb.at
  have HH := hid hh
  have HBD := hid hb
  have HI := hid hi
  have HN1 := hid (show h.nodes ≤ 1099511627776 by omega)
  have HN2 := hid (show Tm.nodesL l ≤ 1099511627776 by omega)
  have i1 : v ≤ 9223372036854775807 := by unfold I64 at hi; omega
  have i2 : -9223372036854775808 ≤ v := by unfold I64 at hi; omega
  clear hh hb hi e hnd
  have HX := hid (blk_new w (.cells #[.int .i64 h.kind, .int .i64 h.n, .string h.s, .slice a h.args.length ac, .slice b l.length bc, .int .i64 v] 65))
  have HB := hid ((Below.refl _ w).alloc (Nat.le_refl _) (.cells #[.int .i64 h.kind, .int .i64 h.n, .string h.s, .slice a h.args.length ac, .slice b l.length bc, .int .i64 v] 65))
  have HK := hid (Keeps.alloc A w (.cells #[.int .i64 h.kind, .int .i64 h.n, .string h.s, .slice a h.args.length ac, .slice b l.length bc, .int .i64 v] 65))
  by_cases h1 : v < 0
  · go_enter Tryz.func52, Tryz.ntmps52
    go_wp2_with fail
    go_ret
    exact ⟨_, rfl, HB.out, _, rfl, ⟨(fun h => by first | (cases h; done) | (simp at h; omega)), fun h => absurd h.1.1 (by simp only; omega)⟩⟩
  by_cases h2 : 8 < v
  · go_enter Tryz.func52, Tryz.ntmps52
    go_wp2_with fail
    go_ret
    exact ⟨_, rfl, HB.out, _, rfl, ⟨(fun h => by first | (cases h; done) | (simp at h; omega)), fun h => absurd h.1.2.1 (by simp only; omega)⟩⟩
  by_cases h3 : 5 < l.length
  · have h3' : (5 : Int) < (l.length : Int) := by omega
    go_enter Tryz.func52, Tryz.ntmps52
    go_wp2_with fail
    go_ret
    exact ⟨_, rfl, HB.out, _, rfl, ⟨(fun h => by first | (cases h; done) | (simp at h; omega)), fun h => absurd h.1.2.2.1 (by simp only; omega)⟩⟩
  have h3' : ¬ (5 : Int) < (l.length : Int) := by omega
  go_enter Tryz.func52, Tryz.ntmps52
  go_wp2_with fail
  have HC1 := hid (isGoal_ok h A _ _ (Tm.rep_lasts.1 _ _ _ _ _ HH.out HK.out))
  generalize w.alloc (.cells #[.int .i64 h.kind, .int .i64 h.n, .string h.s, .slice a h.args.length ac, .slice b l.length bc, .int .i64 v] 65) = w0 at HX HB HK HC1 ⊢
  refine (HC1.out).mono ?_
  rintro e w1 ⟨r, rfl, hb1, g, rfl, hg⟩
  have HX1 := hid (blk_below HX.out hb1)
  have HB1 := hid (HB.out.trans (hb1.mono HB.out.size))
  have HK1 := hid (HK.out.trans (Keeps.of_below hb1))
  clear hb1 HC1
  obtain ⟨x0, x1, x2, x3, x4, x5, xf⟩ := blk6 HX1.out
  cases g with
  | false =>
    have HNG := hid (show ¬ h.IsGoal from fun k => by have := hg.2 k; cases this)
    clear hg
    go_wp2_with fail
    go_ret
    exact ⟨_, rfl, HB1.out, _, rfl, ⟨(fun h => by cases h), fun k => absurd k.2.1 HNG.out⟩⟩
  | true =>
    have HGD := hid (hg.1 rfl)
    clear hg
    go_wp2_with fail
    refine (fits_ok h v HN1.out HI.out A _ _ (Tm.rep_lasts.1 _ _ _ _ _ HH.out HK1.out)).mono ?_
    rintro e w2 ⟨r, rfl, hb2, g, rfl, hg⟩
    clear x0 x1 x2 x3 x4 x5 xf
    have HX2 := hid (blk_below HX1.out hb2)
    have HB2 := hid (HB1.out.trans (hb2.mono HB1.out.size))
    have HK2 := hid (HK1.out.trans (Keeps.of_below hb2))
    clear hb2
    obtain ⟨x0, x1, x2, x3, x4, x5, xf⟩ := blk6 HX2.out
    cases g with
    | false =>
      have HNG := hid (show ¬ h.Fits v from fun k => by have := hg.2 k; cases this)
      clear hg
      go_wp2_with fail
      go_ret
      exact ⟨_, rfl, HB2.out, _, rfl, ⟨(fun h => by cases h), fun k => absurd k.2.2.1 HNG.out⟩⟩
    | true =>
      have HFT := hid (hg.1 rfl)
      clear hg
      go_wp2_with fail
      refine (known_ok h A _ _ (Tm.rep_lasts.1 _ _ _ _ _ HH.out HK2.out)).mono ?_
      rintro e w3 ⟨r, rfl, hb3, g, rfl, hg⟩
      clear x0 x1 x2 x3 x4 x5 xf
      have HX3 := hid (blk_below HX2.out hb3)
      have HB3 := hid (HB2.out.trans (hb3.mono HB2.out.size))
      have HK3 := hid (HK2.out.trans (Keeps.of_below hb3))
      clear hb3
      obtain ⟨x0, x1, x2, x3, x4, x5, xf⟩ := blk6 HX3.out
      cases g with
      | true =>
        have HKN := hid (hg.1 rfl)
        clear hg
        go_wp2_with fail
        go_ret
        exact ⟨_, rfl, HB3.out, _, rfl, ⟨(fun h => by cases h), fun k => absurd HKN.out k.2.2.2⟩⟩
      | false =>
        have HNK := hid (show ¬ h.Known from fun k => by have := hg.2 k; cases this)
        clear hg
        go_wp2_with fail
        refine (goals_ok l v HN2.out HI.out A _ _ (SlR.keeps Tm.rep_lasts HBD.out HK3.out)).mono ?_
        rintro e w4 ⟨r, rfl, hb4, g, rfl, hg⟩
        have HB4 := hid (HB3.out.trans (hb4.mono HB3.out.size))
        have HG := hid hg
        clear hb4 hg x0 x1 x2 x3 x4 x5 xf
        go_wp2_with fail
        go_ret
        exact ⟨_, rfl, HB4.out, _, rfl, by rw [HG.out]; exact ⟨fun k => ⟨⟨by simp only; omega, by simp only; omega, by simp only; omega, k⟩, HGD.out, HFT.out, HNK.out⟩, fun k => k.1.2.2.2⟩⟩
/-! programs -/
abbrev ClsR (A : Nat → Prop) (w : World) (l : List Cl) (v : Value) : Prop := SlR 6 Cl.rep A w l v
theorem rowAt6 {w : World} {b off : Nat} {v0 v1 v2 v3 v4 v5 : Value} (h : RowAt w b off [v0, v1, v2, v3, v4, v5]) :
    w.cell? ⟨b, off, none⟩ = some v0 ∧ w.cell? ⟨b, off + 1, none⟩ = some v1 ∧ w.cell? ⟨b, off + 2, none⟩ = some v2 ∧ w.cell? ⟨b, off + 3, none⟩ = some v3 ∧ w.cell? ⟨b, off + 4, none⟩ = some v4 ∧ w.cell? ⟨b, off + 5, none⟩ = some v5 :=
  ⟨h 0 _ rfl, h 1 _ rfl, h 2 _ rfl, h 3 _ rfl, h 4 _ rfl, h 5 _ rfl⟩
theorem cl_cells {A : Nat → Prop} {w wr : World} {l : List Cl} {b off : Nat} (he : Elems A w 6 Cl.rep l b off) (hA : A b) (hk : Keeps A w wr) {j : Nat} (hlt : j < l.length) :
    ∃ a ac bd bc, wr.cell? ⟨b, off + j * 6, none⟩ = some (.int .i64 l[j].head.kind) ∧ wr.cell? ⟨b, off + j * 6 + 1, none⟩ = some (.int .i64 l[j].head.n) ∧ wr.cell? ⟨b, off + j * 6 + 2, none⟩ = some (.string l[j].head.s) ∧
      wr.cell? ⟨b, off + j * 6 + 3, none⟩ = some (.slice a l[j].head.args.length ac) ∧ wr.cell? ⟨b, off + j * 6 + 4, none⟩ = some (.slice bd l[j].body.length bc) ∧ wr.cell? ⟨b, off + j * 6 + 5, none⟩ = some (.int .i64 l[j].vars) ∧
      Cl.rep A wr l[j] [.int .i64 l[j].head.kind, .int .i64 l[j].head.n, .string l[j].head.s, .slice a l[j].head.args.length ac, .slice bd l[j].body.length bc, .int .i64 l[j].vars] := by
  obtain ⟨vs, hvl, hr, hrow⟩ := he j _ (List.getElem?_eq_getElem hlt)
  have hr' := Cl.rep_lasts.1 _ _ _ _ _ hr hk
  obtain ⟨a, ac, bd, bc, rfl, -⟩ := hr
  obtain ⟨d0, d1, d2, d3, d4, d5⟩ := rowAt6 (RowAt.keeps hA hrow hk)
  exact ⟨a, ac, bd, bc, d0, d1, d2, d3, d4, d5, hr'⟩
def GoodP (l : List Cl) : Prop := l.length ≤ 24 ∧ ∀ c ∈ l, c.Good
end Go.Proofs.YtlpmfkpefoegeacGreatDoor
namespace Go.Proofs.YtlpmfkpefoegeacGreatDoor
set_option linter.unusedVariables false
set_option linter.unusedSimpArgs false
theorem isNameNE {s : ByteArray} (h : IsName s) : s ≠ bs [] := by
  rintro rfl
  rcases h with h | ⟨h, -⟩
  · exact absurd h (by decide +kernel)
  · exact absurd h (by decide +kernel)
theorem ill_bad {v : Int} {t : Tm} (h : Ill t) : ¬ t.Good v := by
  induction h with
  | name k n l h =>
    intro hg
    cases hg with
    | var _ _ _ => omega
    | atom _ h => exact isNameNE h rfl
    | int _ _ _ => omega
    | comp _ _ h => exact isNameNE h rfl
  | arg k n s l t ht h ih =>
    intro hg
    cases hg with
    | var _ _ _ => cases ht
    | atom _ h => cases ht
    | int _ _ _ => cases ht
    | comp _ _ h h1 h2 h3 h4 => exact ih (h4 t ht)
theorem ill_query {v : Int} {l : List Tm} (h : ∃ t ∈ l, Ill t) : ¬ GoodQ l v := by
  rintro ⟨-, -, -, h4⟩
  obtain ⟨t, ht, hi⟩ := h
  exact ill_bad hi (h4 t ht).2.1
def goalsRN (f : Rd → Tm × Rd) : Nat → List Tm → Rd → List Tm × Rd
  | 0, l, r => (l, r)
  | k + 1, l, r => if r.bad then (l, r) else
    if ((f r).2.at_ [44]).1 then goalsRN f k (l ++ [(f r).1]) ((f r).2.at_ [44]).2 else (l ++ [(f r).1], ((f r).2.at_ [44]).2)
def Rd.must (sg : Str) (r : Rd) : Rd := if (r.at_ sg).1 then (r.at_ sg).2 else (r.at_ sg).2.kill
def goalsR (r : Rd) : List Tm × Rd := ((goalsRN (termR 24) (r.s.length + 1) [] r).1, (goalsRN (termR 24) (r.s.length + 1) [] r).2.must [46])
def Ps.must (sg : Str) (p : Ps) : Ps := if p.bad then p else if (p.take sg).1 then (p.take sg).2 else p.kill
def goalsP (p : Ps) : List Tm × Ps :=
  ((argsP (termP 24) ((termP 24 p).2.l.length + 1) [(termP 24 p).1] (termP 24 p).2).1, (argsP (termP 24) ((termP 24 p).2.l.length + 1) [(termP 24 p).1] (termP 24 p).2).2.must [46])
theorem at_badT {sg : Str} {r : Rd} (h : r.bad = true) : (r.at_ sg).2.bad = true := (at_bad r).trans h
theorem must_badT {sg : Str} {r : Rd} (h : r.bad = true) : (r.must sg).bad = true := by
  unfold Rd.must
  split
  · exact at_badT h
  · rfl
theorem goalsRN_bad {f : Rd → Tm × Rd} (k : Nat) (l : List Tm) (r : Rd) (h : r.bad = true) : goalsRN f k l r = (l, r) := by
  cases k with
  | zero => rfl
  | succ k => rw [goalsRN, if_pos h]
theorem goalsRN_ill {f : Rd → Tm × Rd} : ∀ (k : Nat) (l : List Tm) (r : Rd), (∃ t ∈ l, Ill t) → ∃ t ∈ (goalsRN f k l r).1, Ill t
  | 0, l, r, h => h
  | k + 1, l, r, ⟨t, ht, hi⟩ => by
    rw [goalsRN]
    split
    · exact ⟨t, ht, hi⟩
    · split
      · exact goalsRN_ill k _ _ ⟨t, by simp [ht], hi⟩
      · exact ⟨t, by simp [ht], hi⟩
theorem goalsRN_sim {f : Rd → Tm × Rd} {g : Ps → Tm × Ps} (hfg : ∀ r p, Corr r p → SimT (f r) (g p)) (hlr : ∀ r, (f r).2.s.length ≤ r.s.length) (hlp : ∀ p, (g p).2.l.length ≤ p.l.length) :
    ∀ (k kp : Nat) (l : List Tm) (r : Rd) (p : Ps), Corr r p → r.s.length < k → (g p).2.l.length < kp →
    ((goalsRN f k l r).1 = (argsP g kp (l ++ [(g p).1]) (g p).2).1 ∧ Corr (goalsRN f k l r).2 (argsP g kp (l ++ [(g p).1]) (g p).2).2) ∨
    ((argsP g kp (l ++ [(g p).1]) (g p).2).2.bad = true ∧ ((goalsRN f k l r).2.bad = true ∨ ∃ t ∈ (goalsRN f k l r).1, Ill t))
  | 0, kp, l, r, p, hc, hk, hkp => by omega
  | k + 1, 0, l, r, p, hc, hk, hkp => by omega
  | k + 1, kp + 1, l, r, p, hc, hk, hkp => by
    have eR : goalsRN f (k + 1) l r = if ((f r).2.at_ [44]).1 then goalsRN f k (l ++ [(f r).1]) ((f r).2.at_ [44]).2 else (l ++ [(f r).1], ((f r).2.at_ [44]).2) := by
      rw [goalsRN, if_neg (by rw [hc.rb]; simp)]
    rw [eR]
    rcases hfg r p hc with ⟨he, hc'⟩ | ⟨hb, hd⟩
    · have eP : argsP g (kp + 1) (l ++ [(g p).1]) (g p).2 = if ((g p).2.take [44]).1 = false then (l ++ [(g p).1], (g p).2) else argsP g kp ((l ++ [(g p).1]) ++ [(g ((g p).2.take [44]).2).1]) (g ((g p).2.take [44]).2).2 := by
        rw [argsP, if_neg (by rw [hc'.pb]; simp)]
      rw [eP]
      obtain ⟨e1, hc2⟩ := take_corr comma hc'
      have hlt := at_len (sg := [44]) (f r).2
      have hl0 := hlr r
      rw [e1]
      cases ha : ((f r).2.at_ [44]).1 with
      | false =>
        simp only [if_true, Bool.false_eq_true, if_false]
        refine .inl ⟨by rw [he], ?_⟩
        have h9 := take_same (e1.trans ha)
        rw [h9] at hc2
        exact hc2
      | true =>
        simp only [if_true, Bool.true_eq_false, if_false]
        rw [he]
        have h5 := hlt.2 ha
        simp only [List.length_singleton] at h5
        have h6 := (take_len (sg := [44]) (g p).2).2 (e1.trans ha)
        have h7 := hlp ((g p).2.take [44]).2
        exact goalsRN_sim hfg hlr hlp k kp (l ++ [(g p).1]) _ _ hc2 (by omega) (by omega)
    · right
      rw [argsP, if_pos hb]
      refine ⟨hb, ?_⟩
      rcases hd with hd | hd
      · left
        split
        · rw [goalsRN_bad _ _ _ (at_badT hd)]; exact at_badT hd
        · exact at_badT hd
      · right
        split
        · exact goalsRN_ill k _ _ ⟨_, by simp, hd⟩
        · exact ⟨_, by simp, hd⟩
theorem must_sim {sg : Str} (hs : IsSign sg) {r : Rd} {p : Ps} (h : Corr r p) : Corr (r.must sg) (p.must sg) ∨ ((p.must sg).bad = true ∧ (r.must sg).bad = true) := by
  obtain ⟨e1, hc⟩ := take_corr hs h
  unfold Rd.must Ps.must
  rw [if_neg (show ¬ p.bad = true by rw [h.pb]; simp), e1]
  split
  · exact .inl hc
  · exact .inr ⟨rfl, rfl⟩
theorem mustP_bad {sg : Str} {p : Ps} (h : p.bad = true) : (p.must sg).bad = true := by unfold Ps.must; rw [if_pos h]; exact h
def SimL (x : List Tm × Rd) (y : List Tm × Ps) : Prop := (x.1 = y.1 ∧ Corr x.2 y.2) ∨ (y.2.bad = true ∧ (x.2.bad = true ∨ ∃ t ∈ x.1, Ill t))
theorem goals_sim {r : Rd} {p : Ps} (h : Corr r p) : SimL (goalsR r) (goalsP p) := by
  unfold goalsR goalsP SimL
  simp only
  have h0 := goalsRN_sim (term_sim 24) (term_len 24) (termP_len 24) (r.s.length + 1) ((termP 24 p).2.l.length + 1) [] r p h (by omega) (by omega)
  rw [List.nil_append] at h0
  rcases h0 with ⟨h1, h2⟩ | ⟨h1, h2⟩
  · rcases must_sim dot h2 with h3 | ⟨h3, h4⟩
    · exact .inl ⟨h1, h3⟩
    · exact .inr ⟨h3, .inl h4⟩
  · exact .inr ⟨mustP_bad h1, h2.imp must_badT id⟩
def clauseR (r : Rd) : Cl × Rd :=
  let h := termR 24 { r with vars := [] }
  if (h.2.at_ [58, 45]).1 then (⟨h.1, (goalsR (h.2.at_ [58, 45]).2).1, ((goalsR (h.2.at_ [58, 45]).2).2.vars.length : Nat)⟩, (goalsR (h.2.at_ [58, 45]).2).2)
  else (⟨h.1, [], (((h.2.at_ [58, 45]).2.must [46]).vars.length : Nat)⟩, (h.2.at_ [58, 45]).2.must [46])
/-! programs -/
section
open Classical
noncomputable def progR : Nat → List Cl → Rd → Option (List Cl)
  | 0, l, _ => some l
  | k + 1, l, r => if r.space.s = [] then some l else if (clauseR r.space).2.bad = true ∨ ¬ (clauseR r.space).1.Good then none else progR k (l ++ [(clauseR r.space).1]) (clauseR r.space).2
def progE : Option (List Cl) → List Cl × Int
  | none => ([], 1)
  | some l => if l.length > 24 then ([], 3) else (l, 0)
noncomputable def readR (s : Str) : List Cl × Int := if s.length > 2000 then ([], 3) else progE (progR (s.length + 1) [] ⟨s, [], false⟩)
noncomputable def queryR (s : Str) : List Tm × Int × Int :=
  if s.length > 2000 then ([], 0, 3) else
  if (goalsR ⟨s, [], false⟩).2.bad = true ∨ (goalsR ⟨s, [], false⟩).2.space.s ≠ [] ∨ ¬ GoodQ (goalsR ⟨s, [], false⟩).1 ((goalsR ⟨s, [], false⟩).2.vars.length : Nat) then ([], 0, 1)
  else ((goalsR ⟨s, [], false⟩).1, ((goalsR ⟨s, [], false⟩).2.vars.length : Nat), 0)
noncomputable def queryP (s : Str) : List Tm × Int × Int :=
  if s.length > 2000 then ([], 0, 3) else
  if (goalsP ⟨words s, [], false⟩).2.bad = true ∨ (goalsP ⟨words s, [], false⟩).2.l ≠ [] ∨ ¬ GoodQ (goalsP ⟨words s, [], false⟩).1 ((goalsP ⟨words s, [], false⟩).2.vars.length : Nat) then ([], 0, 1)
  else ((goalsP ⟨words s, [], false⟩).1, ((goalsP ⟨words s, [], false⟩).2.vars.length : Nat), 0)
end
/-! what is consumed -/
theorem must_len {sg : Str} (r : Rd) : (r.must sg).s.length ≤ r.s.length ∧ ((r.must sg).bad = false → (r.must sg).s.length + sg.length ≤ r.s.length) := by
  unfold Rd.must
  have h := at_len (sg := sg) r
  split
  · rename_i ha; exact ⟨h.1, fun _ => h.2 ha⟩
  · exact ⟨h.1, fun e => by cases e⟩
theorem mustP_len {sg : Str} (p : Ps) : (p.must sg).l.length ≤ p.l.length ∧ ((p.must sg).bad = false → (p.must sg).l.length < p.l.length) := by
  unfold Ps.must
  have h := take_len (sg := sg) p
  split
  · rename_i hb; exact ⟨Nat.le_refl _, fun e => by rw [hb] at e; cases e⟩
  · split
    · rename_i ha; exact ⟨h.1, fun _ => h.2 ha⟩
    · exact ⟨Nat.le_refl _, fun e => by cases e⟩
theorem goalsRN_len {f : Rd → Tm × Rd} (hf : ∀ r, (f r).2.s.length ≤ r.s.length) : ∀ (k : Nat) (l : List Tm) (r : Rd), (goalsRN f k l r).2.s.length ≤ r.s.length
  | 0, l, r => Nat.le_refl _
  | k + 1, l, r => by
    rw [goalsRN]
    have h1 := hf r
    have h2 := (at_len (sg := [44]) (f r).2).1
    split
    · exact Nat.le_refl _
    · split
      · have := goalsRN_len hf k (l ++ [(f r).1]) ((f r).2.at_ [44]).2
        omega
      · simp only; omega
theorem goalsR_len (r : Rd) : (goalsR r).2.s.length ≤ r.s.length := by
  unfold goalsR
  have := goalsRN_len (term_len 24) (r.s.length + 1) [] r
  have := (must_len (sg := [46]) (goalsRN (termR 24) (r.s.length + 1) [] r).2).1
  simp only; omega
theorem clauseR_len (r : Rd) : (clauseR r).2.s.length ≤ r.s.length ∧ ((clauseR r).2.bad = false → (clauseR r).2.s.length < r.s.length) := by
  unfold clauseR
  simp only
  have h1 := term_len 24 { r with vars := [] }
  generalize termR 24 { r with vars := [] } = X at *
  have h2 := at_len (sg := [58, 45]) X.2
  split
  · rename_i ha
    have h3 := goalsR_len (X.2.at_ [58, 45]).2
    have h4 := h2.2 ha
    simp only [List.length_cons, List.length_nil] at h1 h4 ⊢
    exact ⟨by omega, fun _ => by omega⟩
  · have h3 := must_len (sg := [46]) (X.2.at_ [58, 45]).2
    simp only [List.length_cons, List.length_nil] at h1 h3 ⊢
    exact ⟨by omega, fun h => by have := h3.2 h; omega⟩
theorem query_same (s : Str) : queryR s = queryP s := by
  unfold queryR queryP
  split
  · rfl
  · have hc : Corr ⟨s, [], false⟩ ⟨words s, [], false⟩ := ⟨rfl, rfl, rfl, rfl⟩
    rcases goals_sim hc with ⟨h1, h2⟩ | ⟨h1, h2⟩
    · have e0 : (goalsR ⟨s, [], false⟩).2.space.s = [] ↔ (goalsP ⟨words s, [], false⟩).2.l = [] := by
        rw [h2.l]; exact words_eq_nil.symm
      have hiff : ((goalsR ⟨s, [], false⟩).2.bad = true ∨ (goalsR ⟨s, [], false⟩).2.space.s ≠ [] ∨ ¬ GoodQ (goalsR ⟨s, [], false⟩).1 ((goalsR ⟨s, [], false⟩).2.vars.length : Nat)) ↔ ((goalsP ⟨words s, [], false⟩).2.bad = true ∨ (goalsP ⟨words s, [], false⟩).2.l ≠ [] ∨ ¬ GoodQ (goalsP ⟨words s, [], false⟩).1 ((goalsP ⟨words s, [], false⟩).2.vars.length : Nat)) := by
        rw [h1, h2.rb, h2.pb, h2.vars]
        exact or_congr Iff.rfl (or_congr (not_congr e0) Iff.rfl)
      by_cases h9 : (goalsP ⟨words s, [], false⟩).2.bad = true ∨ (goalsP ⟨words s, [], false⟩).2.l ≠ [] ∨ ¬ GoodQ (goalsP ⟨words s, [], false⟩).1 ((goalsP ⟨words s, [], false⟩).2.vars.length : Nat)
      · rw [if_pos h9, if_pos (hiff.2 h9)]
      · rw [if_neg h9, if_neg (fun e => h9 (hiff.1 e)), h1, h2.vars]
    · rw [if_pos (show (goalsR ⟨s, [], false⟩).2.bad = true ∨ (goalsR ⟨s, [], false⟩).2.space.s ≠ [] ∨ ¬ GoodQ (goalsR ⟨s, [], false⟩).1 ((goalsR ⟨s, [], false⟩).2.vars.length : Nat) from ?_), if_pos (.inl h1)]
      rcases h2 with h2 | h2
      · exact .inl h2
      · exact .inr (.inr (ill_query h2))
/-! spaces -/
end Go.Proofs.YtlpmfkpefoegeacGreatDoor
