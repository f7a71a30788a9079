/-
  term.Goal, Builtin, fits, goals: which terms may be goals, which everybody knows.
  Clauses in memory; which clauses, queries and programs are good.
  term.GoodClause, GoodProgram.
  From a reading of an argument to what lies in memory: clauses.
-/
import Derived.Test.YtlpmfkpefoegeabDoorQGood
import Derived.Test.YtlpmfkpefoegeabDoorQIsHeap
import Derived.Test.YtlpmfkpefoegeabDoorQNamed
namespace Go.Proofs.YtlpmfkpefoegeabDoor
set_option linter.unusedVariables false
set_option linter.unusedSimpArgs false
set_option maxRecDepth 100000
open Go.RowKit
def Tm.IsGoal (t : Tm) : Prop := t.kind = 1 ∨ t.kind = 3
def Tm.Known (t : Tm) : Prop := (t.args.length = 0 ∧ (t.s.toList = [33] ∨ t.s.toList = [116, 114, 117, 101] ∨ t.s.toList = [102, 97, 105, 108])) ∨
  (t.args.length = 2 ∧ (t.s.toList = [101, 113] ∨ t.s.toList = [108, 101, 115, 115])) ∨ (t.args.length = 3 ∧ t.s.toList = [97, 100, 100])
def Tm.Fits (v : Int) (t : Tm) : Prop := t.Good v ∧ t.nodes ≤ 24
theorem isGoal_ok (t : Tm) (A : Nat → Prop) (w : World) (vs : List Value) (hv : Tm.rep A w t vs) :
    Calls Tryd.prog 19 #[.agg vs.toArray] w (Pure w (BoolP t.IsGoal)) := by
  obtain ⟨k, n, s, l⟩ := t
  rw [Tm.rep_iff] at hv
  obtain ⟨hk, hn, hs, v, rfl, hl⟩ := hv
  obtain ⟨a, cap, -, -, rfl, -⟩ := hl.at
  have HB := hid (show Below w.heap.size w (w.alloc (.cells #[.int .i64 k, .int .i64 n, .string s, .slice a l.length cap] 31)) from below_pure (Below.refl _ _))
  clear hl
  by_cases e1 : k = 1
  · subst e1
    go_enter Tryd.func19, Tryd.ntmps19
    go_wp2_with fail
    go_ret
    exact ⟨_, rfl, HB.out, _, rfl, by simp [Tm.IsGoal, Tm.kind]⟩
  · have h1 : (k == 1) = false := by simpa using e1
    by_cases e3 : k = 3
    · subst e3
      go_enter Tryd.func19, Tryd.ntmps19
      go_wp2_with fail
      go_ret
      exact ⟨_, rfl, HB.out, _, rfl, by simp [Tm.IsGoal, Tm.kind]⟩
    · have h3 : (k == 3) = false := by simpa using e3
      go_enter Tryd.func19, Tryd.ntmps19
      go_wp2_with fail
      go_ret
      exact ⟨_, rfl, HB.out, _, rfl, by simp [Tm.IsGoal, Tm.kind, e1, e3]⟩
set_option maxHeartbeats 1000000 in
theorem known_ok (t : Tm) (A : Nat → Prop) (w : World) (vs : List Value) (hv : Tm.rep A w t vs) :
    Calls Tryd.prog 20 #[.agg vs.toArray] w (Pure w (BoolP t.Known)) := by
  obtain ⟨k, n, s, l⟩ := t
  rw [Tm.rep_iff] at hv
  obtain ⟨hk, hn, hs, v, rfl, hl⟩ := hv
  obtain ⟨a, cap, -, -, rfl, -⟩ := hl.at
  have HB := hid (show Below w.heap.size w (w.alloc (.cells #[.int .i64 k, .int .i64 n, .string s, .slice a l.length cap] 31)) from below_pure (Below.refl _ _))
  clear hl
  by_cases e0 : l.length = 0
  · rw [e0]
    by_cases s1 : s.toList = [33]
    · have q1 : (s.toList == [33]) = true := by simpa using s1
      go_enter Tryd.func20, Tryd.ntmps20
      rw [e0] at HB
      go_wp2_with fail
      go_ret
      exact ⟨_, rfl, HB.out, _, rfl, by simp [Tm.Known, Tm.args, Tm.s, e0, s1]⟩
    · have q1 : (s.toList == [33]) = false := by simpa using s1
      by_cases s2 : s.toList = [116, 114, 117, 101]
      · have q2 : (s.toList == [116, 114, 117, 101]) = true := by simpa using s2
        go_enter Tryd.func20, Tryd.ntmps20
        rw [e0] at HB
        go_wp2_with fail
        go_ret
        exact ⟨_, rfl, HB.out, _, rfl, by simp [Tm.Known, Tm.args, Tm.s, e0, s2]⟩
      · have q2 : (s.toList == [116, 114, 117, 101]) = false := by simpa using s2
        go_enter Tryd.func20, Tryd.ntmps20
        rw [e0] at HB
        go_wp2_with fail
        go_ret
        exact ⟨_, rfl, HB.out, _, rfl, by simp [Tm.Known, Tm.args, Tm.s, e0, s1, s2]⟩
  · by_cases e2 : l.length = 2
    · rw [e2]
      by_cases s1 : s.toList = [101, 113]
      · have q1 : (s.toList == [101, 113]) = true := by simpa using s1
        go_enter Tryd.func20, Tryd.ntmps20
        rw [e2] at HB
        go_wp2_with fail
        go_ret
        exact ⟨_, rfl, HB.out, _, rfl, by simp [Tm.Known, Tm.args, Tm.s, e2, s1]⟩
      · have q1 : (s.toList == [101, 113]) = false := by simpa using s1
        go_enter Tryd.func20, Tryd.ntmps20
        rw [e2] at HB
        go_wp2_with fail
        go_ret
        exact ⟨_, rfl, HB.out, _, rfl, by simp [Tm.Known, Tm.args, Tm.s, e2, s1]⟩
    · by_cases e3 : l.length = 3
      · rw [e3]
        go_enter Tryd.func20, Tryd.ntmps20
        rw [e3] at HB
        go_wp2_with fail
        go_ret
        exact ⟨_, rfl, HB.out, _, rfl, by simp [Tm.Known, Tm.args, Tm.s, e3]⟩
      · have l0 : ((l.length : Int) == 0) = false := by simpa using (show ¬ (l.length : Int) = 0 by omega)
        have l2 : ((l.length : Int) == 2) = false := by simpa using (show ¬ (l.length : Int) = 2 by omega)
        have l3 : ((l.length : Int) == 3) = false := by simpa using (show ¬ (l.length : Int) = 3 by omega)
        go_enter Tryd.func20, Tryd.ntmps20
        go_wp2_with fail
        go_ret
        refine ⟨_, rfl, HB.out, _, rfl, ?_⟩
        simp only [Tm.Known, Tm.args, Tm.s]
        exact ⟨(fun h => by cases h), fun h => by rcases h with ⟨h, -⟩ | ⟨h, -⟩ | ⟨h, -⟩ <;> omega⟩
theorem fits_ok (t : Tm) (v : Int) (hnd : t.nodes ≤ 1099511627776) (hi : I64 v) (A : Nat → Prop) (w : World) (vs : List Value) (hv : Tm.rep A w t vs) :
    Calls Tryd.prog 50 #[.agg vs.toArray, .int .i64 v] w (Pure w (BoolP (t.Fits v))) := by
  have HG := hid (fun w' (hk : Keeps A w w') => goodT_ok t v A w' vs hi (Tm.rep_lasts.1 _ _ _ _ _ hv hk))
  have HN := hid (fun w' (hk : Keeps A w w') => nodes_ok t A w' vs hnd (Tm.rep_lasts.1 _ _ _ _ _ hv hk))
  obtain ⟨sa, sc, rfl, -⟩ := Tm.rep4 hv
  clear hv
  go_enter Tryd.func50, Tryd.ntmps50
  go_wp2_with fail
  refine (HG.out _ (Keeps.alloc _ _ _)).mono ?_
  rintro e w1 ⟨r, rfl, hb, b, rfl, hr⟩
  have HB := hid (show Below w.heap.size w w1 from below_pure (hb.mono (by simp)))
  have HX := hid (blk_below (blk_new w (.cells #[.int .i64 t.kind, .int .i64 t.n, .string t.s, .slice sa t.args.length sc] 31)) hb)
  clear hb
  obtain ⟨x0, x1, x2, x3, xf⟩ := blk4 HX.out
  have hzz := HB.out.size
  cases b with
  | false =>
    have HNG := hid (show ¬ t.Good v from fun h => by have := hr.2 h; cases this)
    clear hr
    go_wp2_with fail
    go_ret
    exact ⟨_, rfl, HB.out, _, rfl, ⟨(fun h => by cases h), fun h => absurd h.1 HNG.out⟩⟩
  | true =>
    have HGD := hid (hr.1 rfl)
    clear hr
    go_wp2_with fail
    refine (HN.out _ (Keeps.of_below HB.out)).mono ?_
    rintro e w2 ⟨r, rfl, hb, rfl⟩
    have HB2 := hid (HB.out.trans (hb.mono HB.out.size))
    clear hb
    by_cases hn : t.nodes ≤ 24
    · have HNN := hid hn
      have hn' : (t.nodes : Int) ≤ 24 := by omega
      clear hn
      go_wp2_with fail
      go_ret
      exact ⟨_, rfl, HB2.out, _, rfl, ⟨fun _ => ⟨HGD.out, HNN.out⟩, fun _ => (by first | rfl | simp [hn'])⟩⟩
    · have HNN := hid hn
      have hn' : ¬ (t.nodes : Int) ≤ 24 := by omega
      clear hn
      go_wp2_with fail
      go_ret
      exact ⟨_, rfl, HB2.out, _, rfl, ⟨(fun h => by first | (cases h; done) | (simp at h; omega)), fun h => absurd h.2 HNN.out⟩⟩
end Go.Proofs.YtlpmfkpefoegeabDoor

namespace Go.Proofs.YtlpmfkpefoegeabDoor
set_option linter.unusedVariables false
set_option linter.unusedSimpArgs false
set_option maxRecDepth 100000
open Go.RowKit
structure Cl where
  head : Tm
  body : List Tm
  vars : Int
def Cl.rep (A : Nat → Prop) (w : World) (c : Cl) (vs : List Value) : Prop :=
  ∃ a ac b bc, vs = [.int .i64 c.head.kind, .int .i64 c.head.n, .string c.head.s, .slice a c.head.args.length ac, .slice b c.body.length bc, .int .i64 c.vars] ∧
    Tm.rep A w c.head [.int .i64 c.head.kind, .int .i64 c.head.n, .string c.head.s, .slice a c.head.args.length ac] ∧ TmsR A w c.body (.slice b c.body.length bc) ∧ I64 c.vars
theorem Cl.rep_lasts : Lasts Cl.rep := by
  refine ⟨fun A w w' c vs h hk => ?_, fun A A' w c vs h hA => ?_, fun A w c vs h => ?_⟩
  · obtain ⟨a, ac, b, bc, rfl, h1, h2, h3⟩ := h
    exact ⟨a, ac, b, bc, rfl, Tm.rep_lasts.1 _ _ _ _ _ h1 hk, SlR.keeps Tm.rep_lasts h2 hk, h3⟩
  · obtain ⟨a, ac, b, bc, rfl, h1, h2, h3⟩ := h
    exact ⟨a, ac, b, bc, rfl, Tm.rep_lasts.2.1 _ _ _ _ _ h1 hA, SlR.mono Tm.rep_lasts (by omega) h2 hA, h3⟩
  · obtain ⟨a, ac, b, bc, rfl, h1, h2, h3⟩ := h
    intro u hu
    simp only [List.mem_cons, List.not_mem_nil, or_false] at hu
    rcases hu with rfl | rfl | rfl | rfl | rfl | rfl <;> rfl
theorem nodesL_mem {l : List Tm} {t : Tm} (h : t ∈ l) : t.nodes ≤ Tm.nodesL l := by
  induction l with
  | nil => cases h
  | cons x r ih =>
    simp only [Tm.nodesL]
    rcases List.mem_cons.1 h with rfl | h
    · omega
    · have := ih h; omega
set_option maxHeartbeats 1000000 in
theorem goals_ok (l : List Tm) (v : Int) (hnd : Tm.nodesL l ≤ 1099511627776) (hi : I64 v) (A : Nat → Prop) (w : World) (u : Value) (hu : TmsR A w l u) :
    Calls Tryd.prog 51 #[u, .int .i64 v] w (Pure w (BoolP (∀ g ∈ l, g.IsGoal ∧ g.Fits v))) := by
  obtain ⟨a, cap, b, off, rfl, hlc, hcm, hlb, ha, he⟩ := hu.at
  have HE := hid he
  have HA := hid ha
  have HI := hid hi
  have HND := hid hnd
  clear hu he ha hi hnd
  go_enter Tryd.func51, Tryd.ntmps51
  go_wp2_with fail
  go_loopw [9] (fun i W => ∃ j : Nat, j ≤ l.length ∧ i = .int .i64 (j : Int) ∧ Below w.heap.size w W ∧ ∀ q (hq : q < l.length), q < j → l[q].IsGoal ∧ l[q].Fits v) (fun i _ => l.length - (intOf i).toNat)
  case atStart => exact ⟨0, Nat.zero_le _, rfl, Below.refl _ _, fun q _ h => absurd h (Nat.not_lt_zero _)⟩
  case round =>
    obtain ⟨j, hj, rfl, hb, hq⟩ := hrel
    have HB := hid hb
    have HQ := hid hq
    have hz := hb.size
    clear hb hq
    by_cases hlt : j < l.length
    · obtain ⟨rfl, hAb⟩ := HA.out (by omega)
      obtain ⟨sa, sc, c0, c1, c2, c3, hr⟩ := tm_cells HE.out hAb (Keeps.of_below HB.out) hlt
      have hlt' : (j : Int) < (l.length : Int) := by omega
      have HLT := hid hlt
      obtain ⟨t, ht⟩ : ∃ t, t = l[j]'hlt := ⟨_, rfl⟩
      have hmem : t ∈ l := by rw [ht]; exact List.getElem_mem _
      rw [← ht] at c0 c1 c2 c3 hr
      have hn := nodesL_mem hmem
      have hnn := HND.out
      have HT := hid ht
      have HR := hid hr
      have HN := hid (show t.nodes ≤ 1099511627776 by omega)
      clear hr ht hmem hn hnn
      go_wp2_with fail
      refine (isGoal_ok t A _ _ (Tm.rep_lasts.1 _ _ _ _ _ HR.out (Keeps.alloc _ _ _))).mono ?_
      rintro e w1 ⟨r, rfl, hb, g, rfl, hg⟩
      have HX := hid (blk_below (blk_new wr (.cells #[.int .i64 t.kind, .int .i64 t.n, .string t.s, .slice sa t.args.length sc] 31)) hb)
      have HB1 := hid ((HB.out.alloc (by omega) (.cells #[.int .i64 t.kind, .int .i64 t.n, .string t.s, .slice sa t.args.length sc] 31)).trans (hb.mono (by simp; omega)))
      have HR1 := hid (Tm.rep_lasts.1 _ _ _ _ _ (Tm.rep_lasts.1 _ _ _ _ _ HR.out (Keeps.alloc _ _ (.cells (#[.int .i64 t.kind, .int .i64 t.n, .string t.s, .slice sa t.args.length sc] : Array Value) 31))) (Keeps.of_below hb))
      clear hb c0 c1 c2 c3
      obtain ⟨x0, x1, x2, x3, xf⟩ := blk4 HX.out
      cases g with
      | false =>
        have HNG := hid (show ¬ t.IsGoal from fun h => by have := hg.2 h; cases this)
        clear hg
        go_wp2_with fail
        go_ret
        exact ⟨_, rfl, HB1.out, _, rfl, ⟨(fun h => by cases h), fun h => absurd (h t (by rw [HT.out]; exact List.getElem_mem _)).1 HNG.out⟩⟩
      | true =>
        have HGD := hid (hg.1 rfl)
        clear hg
        go_wp2_with fail
        refine (fits_ok t v HN.out HI.out A _ _ HR1.out).mono ?_
        rintro e w2 ⟨r, rfl, hb, g, rfl, hg⟩
        have HB2 := hid (HB1.out.trans (hb.mono HB1.out.size))
        clear hb x0 x1 x2 x3 xf
        cases g with
        | false =>
          have HNG := hid (show ¬ t.Fits v from fun h => by have := hg.2 h; cases this)
          clear hg
          go_wp2_with fail
          go_ret
          exact ⟨_, rfl, HB2.out, _, rfl, ⟨(fun h => by cases h), fun h => absurd (h t (by rw [HT.out]; exact List.getElem_mem _)).2 HNG.out⟩⟩
        | true =>
          have HFT := hid (hg.1 rfl)
          clear hg
          go_wp2_with fail
          go_roundw
          case rel =>
            refine ⟨j + 1, by omega, by go_num, HB2.out, fun q hq hqj => ?_⟩
            by_cases e : q = j
            · subst e; rw [← HT.out]; exact ⟨HGD.out, HFT.out⟩
            · exact HQ.out q hq (by omega)
          case measure => first | (simp [intOf]; done) | (simp [intOf]; omega)
    · have hlt' : ¬ (j : Int) < (l.length : Int) := by omega
      have HALL := hid (show ∀ g ∈ l, g.IsGoal ∧ g.Fits v from fun g hg => by
        obtain ⟨q, hq, rfl⟩ := List.mem_iff_getElem.1 hg
        exact HQ.out q hq (by omega))
      go_wp2_with fail
      go_ret
      exact ⟨_, rfl, HB.out, _, rfl, ⟨fun _ => HALL.out, fun _ => rfl⟩⟩
def GoodQ (l : List Tm) (v : Int) : Prop := 0 ≤ v ∧ v ≤ 8 ∧ l.length ≤ 5 ∧ ∀ g ∈ l, g.IsGoal ∧ g.Fits v
def Cl.Good (c : Cl) : Prop := GoodQ c.body c.vars ∧ c.head.IsGoal ∧ c.head.Fits c.vars ∧ ¬ c.head.Known
theorem goodQuery_ok (l : List Tm) (v : Int) (hnd : Tm.nodesL l ≤ 1099511627776) (hi : I64 v) (A : Nat → Prop) (w : World) (u : Value) (hu : TmsR A w l u) :
    Calls Tryd.prog 25 #[u, .int .i64 v] w (Pure w (BoolP (GoodQ l v))) := by
  have HC := hid (goals_ok l v hnd hi A w u hu)
  obtain ⟨a, cap, b, off, rfl, hlc, hcm, hlb, ha, he⟩ := hu.at
  clear hu ha he
  by_cases h1 : 0 ≤ v
  · by_cases h2 : v ≤ 8
    · by_cases h3 : l.length ≤ 5
      · have h3' : (l.length : Int) ≤ 5 := by omega
        go_enter Tryd.func25, Tryd.ntmps25
        go_wp2_with fail
        refine (HC.out).mono ?_
        rintro e w1 ⟨r, rfl, hb, g, rfl, hg⟩
        have HB := hid hb
        have HG := hid hg
        clear hb hg
        go_wp2_with fail
        go_ret
        exact ⟨_, rfl, HB.out, _, rfl, by rw [HG.out]; exact ⟨fun h => ⟨h1, h2, h3, h⟩, fun h => h.2.2.2⟩⟩
      · have h3' : ¬ (l.length : Int) ≤ 5 := by omega
        go_enter Tryd.func25, Tryd.ntmps25
        go_wp2_with fail
        go_ret
        exact ⟨_, rfl, Below.refl _ _, _, rfl, ⟨(fun h => by first | (cases h; done) | (simp at h; omega)), fun h => absurd h.2.2.1 h3⟩⟩
    · go_enter Tryd.func25, Tryd.ntmps25
      go_wp2_with fail
      go_ret
      exact ⟨_, rfl, Below.refl _ _, _, rfl, ⟨(fun h => by first | (cases h; done) | (simp at h; omega)), fun h => absurd h.2.1 (by omega)⟩⟩
  · go_enter Tryd.func25, Tryd.ntmps25
    go_wp2_with fail
    go_ret
    exact ⟨_, rfl, Below.refl _ _, _, rfl, ⟨(fun h => by first | (cases h; done) | (simp at h; omega)), fun h => absurd h.1 (by omega)⟩⟩
end Go.Proofs.YtlpmfkpefoegeabDoor

namespace Go.Proofs.YtlpmfkpefoegeabDoor
set_option linter.unusedVariables false
set_option linter.unusedSimpArgs false
set_option maxRecDepth 100000
open Go.RowKit
theorem blk6 {w : World} {g : Nat} {E : TypeId} {v0 v1 v2 v3 v4 v5 : Value} (h : w.heap[g]? = some (.cells #[v0, v1, v2, v3, v4, v5] E (0, 0))) :
    w.cell? ⟨g, 0, none⟩ = some v0 ∧ w.cell? ⟨g, 1, none⟩ = some v1 ∧ w.cell? ⟨g, 2, none⟩ = some v2 ∧ w.cell? ⟨g, 3, none⟩ = some v3 ∧ w.cell? ⟨g, 4, none⟩ = some v4 ∧ w.cell? ⟨g, 5, none⟩ = some v5 ∧ ∀ o, w.frozen? ⟨g, o, none⟩ = false :=
  ⟨(blk_cell h 0).trans rfl, (blk_cell h 1).trans rfl, (blk_cell h 2).trans rfl, (blk_cell h 3).trans rfl, (blk_cell h 4).trans rfl, (blk_cell h 5).trans rfl, fun o => by simp [World.frozen?, h]⟩
def Cl.nodes (c : Cl) : Nat := c.head.nodes + Tm.nodesL c.body
set_option maxHeartbeats 2000000 in
theorem goodClause_ok (c : Cl) (hnd : c.nodes ≤ 1099511627776) (A : Nat → Prop) (w : World) (vs : List Value) (hc : Cl.rep A w c vs) :
    Calls Tryd.prog 22 #[.agg vs.toArray] w (Pure w (BoolP c.Good)) := by
  obtain ⟨h, l, v⟩ := c
  obtain ⟨a, ac, b, bc, rfl, hh, hb, hi⟩ := hc
  simp only [Cl.nodes] at hnd
  simp only at hh hb hi
  obtain ⟨_, _, -, -, e, -, -, hbl, -⟩ := hb.at
  have HH := hid hh
  have HBD := hid hb
  have HI := hid hi
  have HN1 := hid (show h.nodes ≤ 1099511627776 by omega)
  have HN2 := hid (show Tm.nodesL l ≤ 1099511627776 by omega)
  have i1 : v ≤ 9223372036854775807 := by unfold I64 at hi; omega
  have i2 : -9223372036854775808 ≤ v := by unfold I64 at hi; omega
  clear hh hb hi e hnd
  have HX := hid (blk_new w (.cells #[.int .i64 h.kind, .int .i64 h.n, .string h.s, .slice a h.args.length ac, .slice b l.length bc, .int .i64 v] 39))
  have HB := hid ((Below.refl _ w).alloc (Nat.le_refl _) (.cells #[.int .i64 h.kind, .int .i64 h.n, .string h.s, .slice a h.args.length ac, .slice b l.length bc, .int .i64 v] 39))
  have HK := hid (Keeps.alloc A w (.cells #[.int .i64 h.kind, .int .i64 h.n, .string h.s, .slice a h.args.length ac, .slice b l.length bc, .int .i64 v] 39))
  by_cases h1 : v < 0
  · go_enter Tryd.func22, Tryd.ntmps22
    go_wp2_with fail
    go_ret
    exact ⟨_, rfl, HB.out, _, rfl, ⟨(fun h => by first | (cases h; done) | (simp at h; omega)), fun h => absurd h.1.1 (by simp only; omega)⟩⟩
  by_cases h2 : 8 < v
  · go_enter Tryd.func22, Tryd.ntmps22
    go_wp2_with fail
    go_ret
    exact ⟨_, rfl, HB.out, _, rfl, ⟨(fun h => by first | (cases h; done) | (simp at h; omega)), fun h => absurd h.1.2.1 (by simp only; omega)⟩⟩
  by_cases h3 : 5 < l.length
  · have h3' : (5 : Int) < (l.length : Int) := by omega
    go_enter Tryd.func22, Tryd.ntmps22
    go_wp2_with fail
    go_ret
    exact ⟨_, rfl, HB.out, _, rfl, ⟨(fun h => by first | (cases h; done) | (simp at h; omega)), fun h => absurd h.1.2.2.1 (by simp only; omega)⟩⟩
  have h3' : ¬ (5 : Int) < (l.length : Int) := by omega
  go_enter Tryd.func22, Tryd.ntmps22
  go_wp2_with fail
  have HC1 := hid (isGoal_ok h A _ _ (Tm.rep_lasts.1 _ _ _ _ _ HH.out HK.out))
  generalize w.alloc (.cells #[.int .i64 h.kind, .int .i64 h.n, .string h.s, .slice a h.args.length ac, .slice b l.length bc, .int .i64 v] 39) = w0 at HX HB HK HC1 ⊢
  refine (HC1.out).mono ?_
  rintro e w1 ⟨r, rfl, hb1, g, rfl, hg⟩
  have HX1 := hid (blk_below HX.out hb1)
  have HB1 := hid (HB.out.trans (hb1.mono HB.out.size))
  have HK1 := hid (HK.out.trans (Keeps.of_below hb1))
  clear hb1 HC1
  obtain ⟨x0, x1, x2, x3, x4, x5, xf⟩ := blk6 HX1.out
  cases g with
  | false =>
    have HNG := hid (show ¬ h.IsGoal from fun k => by have := hg.2 k; cases this)
    clear hg
    go_wp2_with fail
    go_ret
    exact ⟨_, rfl, HB1.out, _, rfl, ⟨(fun h => by cases h), fun k => absurd k.2.1 HNG.out⟩⟩
  | true =>
    have HGD := hid (hg.1 rfl)
    clear hg
    go_wp2_with fail
    refine (fits_ok h v HN1.out HI.out A _ _ (Tm.rep_lasts.1 _ _ _ _ _ HH.out HK1.out)).mono ?_
    rintro e w2 ⟨r, rfl, hb2, g, rfl, hg⟩
    clear x0 x1 x2 x3 x4 x5 xf
    have HX2 := hid (blk_below HX1.out hb2)
    have HB2 := hid (HB1.out.trans (hb2.mono HB1.out.size))
    have HK2 := hid (HK1.out.trans (Keeps.of_below hb2))
    clear hb2
    obtain ⟨x0, x1, x2, x3, x4, x5, xf⟩ := blk6 HX2.out
    cases g with
    | false =>
      have HNG := hid (show ¬ h.Fits v from fun k => by have := hg.2 k; cases this)
      clear hg
      go_wp2_with fail
      go_ret
      exact ⟨_, rfl, HB2.out, _, rfl, ⟨(fun h => by cases h), fun k => absurd k.2.2.1 HNG.out⟩⟩
    | true =>
      have HFT := hid (hg.1 rfl)
      clear hg
      go_wp2_with fail
      refine (known_ok h A _ _ (Tm.rep_lasts.1 _ _ _ _ _ HH.out HK2.out)).mono ?_
      rintro e w3 ⟨r, rfl, hb3, g, rfl, hg⟩
      clear x0 x1 x2 x3 x4 x5 xf
      have HX3 := hid (blk_below HX2.out hb3)
      have HB3 := hid (HB2.out.trans (hb3.mono HB2.out.size))
      have HK3 := hid (HK2.out.trans (Keeps.of_below hb3))
      clear hb3
      obtain ⟨x0, x1, x2, x3, x4, x5, xf⟩ := blk6 HX3.out
      cases g with
      | true =>
        have HKN := hid (hg.1 rfl)
        clear hg
        go_wp2_with fail
        go_ret
        exact ⟨_, rfl, HB3.out, _, rfl, ⟨(fun h => by cases h), fun k => absurd HKN.out k.2.2.2⟩⟩
      | false =>
        have HNK := hid (show ¬ h.Known from fun k => by have := hg.2 k; cases this)
        clear hg
        go_wp2_with fail
        refine (goals_ok l v HN2.out HI.out A _ _ (SlR.keeps Tm.rep_lasts HBD.out HK3.out)).mono ?_
        rintro e w4 ⟨r, rfl, hb4, g, rfl, hg⟩
        have HB4 := hid (HB3.out.trans (hb4.mono HB3.out.size))
        have HG := hid hg
        clear hb4 hg x0 x1 x2 x3 x4 x5 xf
        go_wp2_with fail
        go_ret
        exact ⟨_, rfl, HB4.out, _, rfl, by rw [HG.out]; exact ⟨fun k => ⟨⟨by simp only; omega, by simp only; omega, by simp only; omega, k⟩, HGD.out, HFT.out, HNK.out⟩, fun k => k.1.2.2.2⟩⟩
/-! programs -/
abbrev ClsR (A : Nat → Prop) (w : World) (l : List Cl) (v : Value) : Prop := SlR 6 Cl.rep A w l v
theorem rowAt6 {w : World} {b off : Nat} {v0 v1 v2 v3 v4 v5 : Value} (h : RowAt w b off [v0, v1, v2, v3, v4, v5]) :
    w.cell? ⟨b, off, none⟩ = some v0 ∧ w.cell? ⟨b, off + 1, none⟩ = some v1 ∧ w.cell? ⟨b, off + 2, none⟩ = some v2 ∧ w.cell? ⟨b, off + 3, none⟩ = some v3 ∧ w.cell? ⟨b, off + 4, none⟩ = some v4 ∧ w.cell? ⟨b, off + 5, none⟩ = some v5 :=
  ⟨h 0 _ rfl, h 1 _ rfl, h 2 _ rfl, h 3 _ rfl, h 4 _ rfl, h 5 _ rfl⟩
theorem cl_cells {A : Nat → Prop} {w wr : World} {l : List Cl} {b off : Nat} (he : Elems A w 6 Cl.rep l b off) (hA : A b) (hk : Keeps A w wr) {j : Nat} (hlt : j < l.length) :
    ∃ a ac bd bc, wr.cell? ⟨b, off + j * 6, none⟩ = some (.int .i64 l[j].head.kind) ∧ wr.cell? ⟨b, off + j * 6 + 1, none⟩ = some (.int .i64 l[j].head.n) ∧ wr.cell? ⟨b, off + j * 6 + 2, none⟩ = some (.string l[j].head.s) ∧
      wr.cell? ⟨b, off + j * 6 + 3, none⟩ = some (.slice a l[j].head.args.length ac) ∧ wr.cell? ⟨b, off + j * 6 + 4, none⟩ = some (.slice bd l[j].body.length bc) ∧ wr.cell? ⟨b, off + j * 6 + 5, none⟩ = some (.int .i64 l[j].vars) ∧
      Cl.rep A wr l[j] [.int .i64 l[j].head.kind, .int .i64 l[j].head.n, .string l[j].head.s, .slice a l[j].head.args.length ac, .slice bd l[j].body.length bc, .int .i64 l[j].vars] := by
  obtain ⟨vs, hvl, hr, hrow⟩ := he j _ (List.getElem?_eq_getElem hlt)
  have hr' := Cl.rep_lasts.1 _ _ _ _ _ hr hk
  obtain ⟨a, ac, bd, bc, rfl, -⟩ := hr
  obtain ⟨d0, d1, d2, d3, d4, d5⟩ := rowAt6 (RowAt.keeps hA hrow hk)
  exact ⟨a, ac, bd, bc, d0, d1, d2, d3, d4, d5, hr'⟩
def GoodP (l : List Cl) : Prop := l.length ≤ 24 ∧ ∀ c ∈ l, c.Good
def clsNodes : List Cl → Nat
  | [] => 0
  | c :: r => c.nodes + clsNodes r
theorem clsNodes_mem {l : List Cl} {c : Cl} (h : c ∈ l) : c.nodes ≤ clsNodes l := by
  induction l with
  | nil => cases h
  | cons x r ih =>
    simp only [clsNodes]
    rcases List.mem_cons.1 h with rfl | h
    · omega
    · have := ih h; omega
set_option maxHeartbeats 1000000 in
theorem goodProgram_ok (l : List Cl) (hnd : clsNodes l ≤ 1099511627776) (A : Nat → Prop) (w : World) (u : Value) (hu : ClsR A w l u) :
    Calls Tryd.prog 28 #[u] w (Pure w (BoolP (GoodP l))) := by
  obtain ⟨a, cap, b, off, rfl, hlc, hcm, hlb, ha, he⟩ := SlR.at hu
  have HE := hid he
  have HA := hid ha
  have HND := hid hnd
  clear hu he ha hnd
  go_enter Tryd.func28, Tryd.ntmps28
  go_wp2_with fail
  go_loopw [7] (fun i W => ∃ j : Nat, j ≤ l.length ∧ i = .int .i64 (j : Int) ∧ Below w.heap.size w W ∧ ∀ q (hq : q < l.length), q < j → l[q].Good) (fun i _ => l.length - (intOf i).toNat)
  case atStart => exact ⟨0, Nat.zero_le _, rfl, Below.refl _ _, fun q _ h => absurd h (Nat.not_lt_zero _)⟩
  case round =>
    obtain ⟨j, hj, rfl, hb, hq⟩ := hrel
    have HB := hid hb
    have HQ := hid hq
    have hz := hb.size
    clear hb hq
    by_cases hlt : j < l.length
    · obtain ⟨rfl, hAb⟩ := HA.out (by omega)
      obtain ⟨sa, sc, ba, bc, c0, c1, c2, c3, c4, c5, hr⟩ := cl_cells HE.out hAb (Keeps.of_below HB.out) hlt
      have hlt' : (j : Int) < (l.length : Int) := by omega
      have HLT := hid hlt
      obtain ⟨t, ht⟩ : ∃ t, t = l[j]'hlt := ⟨_, rfl⟩
      have hmem : t ∈ l := by rw [ht]; exact List.getElem_mem _
      rw [← ht] at c0 c1 c2 c3 c4 c5 hr
      have hn := clsNodes_mem hmem
      have hnn := HND.out
      have HT := hid ht
      have HR := hid hr
      have HN := hid (show t.nodes ≤ 1099511627776 by omega)
      clear hr ht hmem hn hnn
      go_wp2_with fail
      refine (goodClause_ok t HN.out A _ _ (Cl.rep_lasts.1 _ _ _ _ _ HR.out (Keeps.alloc _ _ _))).mono ?_
      rintro e w1 ⟨r, rfl, hb, g, rfl, hg⟩
      have HB1 := hid ((HB.out.alloc (by omega) (.cells #[.int .i64 t.head.kind, .int .i64 t.head.n, .string t.head.s, .slice sa t.head.args.length sc, .slice ba t.body.length bc, .int .i64 t.vars] 39)).trans (hb.mono (by simp; omega)))
      clear hb c0 c1 c2 c3 c4 c5
      cases g with
      | false =>
        have HNG := hid (show ¬ t.Good from fun h => by have := hg.2 h; cases this)
        clear hg
        go_wp2_with fail
        go_ret
        exact ⟨_, rfl, HB1.out, _, rfl, ⟨(fun h => by cases h), fun h => absurd (h.2 t (by rw [HT.out]; exact List.getElem_mem _)) HNG.out⟩⟩
      | true =>
        have HGD := hid (hg.1 rfl)
        clear hg
        go_wp2_with fail
        go_roundw
        case rel =>
          refine ⟨j + 1, by omega, by go_num, HB1.out, fun q hq hqj => ?_⟩
          by_cases e : q = j
          · subst e; rw [← HT.out]; exact HGD.out
          · exact HQ.out q hq (by omega)
        case measure => first | (simp [intOf]; done) | (simp [intOf]; omega)
    · have hlt' : ¬ (j : Int) < (l.length : Int) := by omega
      have HALL := hid (show ∀ g ∈ l, g.Good from fun g hg => by
        obtain ⟨q, hq, rfl⟩ := List.mem_iff_getElem.1 hg
        exact HQ.out q hq (by omega))
      by_cases h24 : l.length ≤ 24
      · have h24' : (l.length : Int) ≤ 24 := by omega
        go_wp2_with fail
        go_ret
        exact ⟨_, rfl, HB.out, _, rfl, ⟨fun _ => ⟨h24, HALL.out⟩, (fun _ => by first | rfl | simp [h24'])⟩⟩
      · have h24' : ¬ (l.length : Int) ≤ 24 := by omega
        go_wp2_with fail
        go_ret
        exact ⟨_, rfl, HB.out, _, rfl, ⟨(fun h => by first | (cases h; done) | (simp at h; omega)), fun h => absurd h.1 (by omega)⟩⟩
end Go.Proofs.YtlpmfkpefoegeabDoor

namespace Go.Proofs.YtlpmfkpefoegeabDoor
set_option linter.unusedVariables false
set_option linter.unusedSimpArgs false
set_option maxRecDepth 100000
open Go.RowKit Go.WideShapes Go.ChangeShapes
section
variable {H : Type} {enc : TypeId × Value → H} {W : World} {base : Nat} {sp : Nat → Bool} {held : Bool}
instance : Inhabited Cl := ⟨⟨default, [], 0⟩⟩
theorem cells_clause : Program.cellsOf Tryd.prog 39 = 6 := by kernel_rfl
theorem Tm.rep_vals {A : Nat → Prop} {t : Tm} {cs : List Value} (h : Tm.rep A W t cs) : ∃ a ac, cs = [.int .i64 t.kind, .int .i64 t.n, .string t.s, .slice a t.args.length ac] := by
  obtain ⟨a, ac, rfl, -⟩ := Tm.rep4 h
  exact ⟨a, ac, rfl⟩
theorem open_cl {n : Nat} {cs : List Value} {y : DataW H × List MemPlace} (h : DataW.trod enc Tryd.prog W base sp held n 39 cs = some y) (hb : Rows.uptoBulk y.1 ≤ 1048576) :
    ∃ c : Cl, Cl.rep (fun _ => True) W c cs ∧ c.nodes + 1 ≤ Rows.uptoBulk y.1 := by
  obtain ⟨y0, y1, y2, n', rfl, hl, h0, h1, h2⟩ := Deep.trod_struct3 Tryd.underlying39 h
  simp only [cells_clause, cells_term, cells_ts, cells_i] at hl h0 h1 h2
  match cs, hl with
  | [c0, c1, c2, c3, c4, c5], _ =>
    simp only [List.drop_zero, List.drop_succ_cons, List.take_succ_cons, List.take_zero] at h0 h1 h2
    simp only [Rows.uptoBulk, Rows.uptoBulkAll] at hb ⊢
    obtain ⟨t, ht, hn0⟩ := open_tm h0 (by omega)
    obtain ⟨a, ac, e0⟩ := Tm.rep_vals ht
    obtain ⟨l, v, e1, hv, hn1, _⟩ := open_sl Tryd.underlying29 cells_term (by omega) (R := Tm.rep) (A := fun _ => True) (fun _ => trivial) Tm.nodes (B := Rows.uptoBulk y1.1) (by omega)
        (fun n cs' y hy hlt => open_tm hy (by omega)) (Nat.le_refl _) h1
    obtain ⟨m, e2, rfl, m64⟩ := DataW.trod_int Tryd.underlying3 h2
    obtain ⟨b, bc, -, -, rfl, -⟩ := SlR.at hv
    simp only [List.cons.injEq, and_true] at e0 e1 e2
    obtain ⟨rfl, rfl, rfl, rfl⟩ := e0
    subst e1 e2
    refine ⟨⟨t, l, m⟩, ⟨a, ac, b, bc, rfl, ht, hv, I64.of_wf m64⟩, ?_⟩
    simp only [Cl.nodes, Tm.nodesL_sum] at hn1 ⊢
    simp only [Rows.uptoBulk] at hn1 ⊢
    omega
theorem open_clauses {r : Go.Reach} {b0 : Nat} {v : Value} {d : DataW H} {ps : List MemPlace} (hval : Value.okWide Tryd.prog W r b0 32 v) (h : DataW.Trod enc Tryd.prog W base sp held 32 v d ps)
    (hb : Rows.uptoBulk d ≤ 1048576) : ∃ l : List Cl, ClsR (fun _ => True) W l v ∧ (l.map Cl.nodes).sum + 1 ≤ Rows.uptoBulk d := by
  obtain ⟨a, len, cap, rfl⟩ := okWide_slice Tryd.underlying32 hval
  obtain ⟨fuel, hf⟩ := h
  obtain ⟨l, v, e3, hv, hn, _⟩ := open_sl Tryd.underlying32 cells_clause (by omega) (R := Cl.rep) (A := fun _ => True) (fun _ => trivial) Cl.nodes (B := Rows.uptoBulk d) hb
    (fun n cs' y hy hlt => by obtain ⟨c, h1, h2⟩ := open_cl hy (by omega); exact ⟨c, h1, by omega⟩) (Nat.le_refl _) hf
  simp only [Value.cells, List.cons.injEq, and_true] at e3
  subst e3
  exact ⟨l, hv, hn⟩
end
end Go.Proofs.YtlpmfkpefoegeabDoor
