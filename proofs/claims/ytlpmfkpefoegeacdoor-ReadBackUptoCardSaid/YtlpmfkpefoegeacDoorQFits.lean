/-
  term.Goal, Builtin, fits, goals: which terms may be goals, which everybody knows.
-/
import Derived.Test.YtlpmfkpefoegeacDoorQGood
import Derived.Test.YtlpmfkpefoegeacDoorQNodes
import Derived.Test.YtlpmfkpefoegeacDoorQIsHeap
namespace Go.Proofs.YtlpmfkpefoegeacDoor
set_option linter.unusedVariables false
set_option linter.unusedSimpArgs false
set_option maxRecDepth 100000
open Go.RowKit
def Tm.IsGoal (t : Tm) : Prop := t.kind = 1 ∨ t.kind = 3
def Tm.Known (t : Tm) : Prop := (t.args.length = 0 ∧ (t.s.toList = [33] ∨ t.s.toList = [116, 114, 117, 101] ∨ t.s.toList = [102, 97, 105, 108])) ∨
  (t.args.length = 2 ∧ (t.s.toList = [101, 113] ∨ t.s.toList = [108, 101, 115, 115])) ∨ (t.args.length = 3 ∧ t.s.toList = [97, 100, 100])
def Tm.Fits (v : Int) (t : Tm) : Prop := t.Good v ∧ t.nodes ≤ 24
theorem isGoal_ok (t : Tm) (A : Nat → Prop) (w : World) (vs : List Value) (hv : Tm.rep A w t vs) :
    Calls Tryd.prog 38 #[.agg vs.toArray] w (Pure w (BoolP t.IsGoal)) := by
  obtain ⟨k, n, s, l⟩ := t
  rw [Tm.rep_iff] at hv
  obtain ⟨hk, hn, hs, v, rfl, hl⟩ := hv
  obtain ⟨a, cap, -, -, rfl, -⟩ := hl.at
  have HB := hid (show Below w.heap.size w (w.alloc (.cells #[.int .i64 k, .int .i64 n, .string s, .slice a l.length cap] 27)) from below_pure (Below.refl _ _))
  clear hl
  by_cases e1 : k = 1
  · subst e1
    go_enter Tryd.func38, Tryd.ntmps38
    go_wp2_with fail
    go_ret
    exact ⟨_, rfl, HB.out, _, rfl, by simp [Tm.IsGoal, Tm.kind]⟩
  · have h1 : (k == 1) = false := by simpa using e1
    by_cases e3 : k = 3
    · subst e3
      go_enter Tryd.func38, Tryd.ntmps38
      go_wp2_with fail
      go_ret
      exact ⟨_, rfl, HB.out, _, rfl, by simp [Tm.IsGoal, Tm.kind]⟩
    · have h3 : (k == 3) = false := by simpa using e3
      go_enter Tryd.func38, Tryd.ntmps38
      go_wp2_with fail
      go_ret
      exact ⟨_, rfl, HB.out, _, rfl, by simp [Tm.IsGoal, Tm.kind, e1, e3]⟩
set_option maxHeartbeats 1000000 in
theorem known_ok (t : Tm) (A : Nat → Prop) (w : World) (vs : List Value) (hv : Tm.rep A w t vs) :
    Calls Tryd.prog 44 #[.agg vs.toArray] w (Pure w (BoolP t.Known)) := by
  obtain ⟨k, n, s, l⟩ := t
  rw [Tm.rep_iff] at hv
  obtain ⟨hk, hn, hs, v, rfl, hl⟩ := hv
  obtain ⟨a, cap, -, -, rfl, -⟩ := hl.at
  have HB := hid (show Below w.heap.size w (w.alloc (.cells #[.int .i64 k, .int .i64 n, .string s, .slice a l.length cap] 27)) from below_pure (Below.refl _ _))
  clear hl
  by_cases e0 : l.length = 0
  · rw [e0]
    by_cases s1 : s.toList = [33]
    · have q1 : (s.toList == [33]) = true := by simpa using s1
      go_enter Tryd.func44, Tryd.ntmps44
      rw [e0] at HB
      go_wp2_with fail
      go_ret
      exact ⟨_, rfl, HB.out, _, rfl, by simp [Tm.Known, Tm.args, Tm.s, e0, s1]⟩
    · have q1 : (s.toList == [33]) = false := by simpa using s1
      by_cases s2 : s.toList = [116, 114, 117, 101]
      · have q2 : (s.toList == [116, 114, 117, 101]) = true := by simpa using s2
        go_enter Tryd.func44, Tryd.ntmps44
        rw [e0] at HB
        go_wp2_with fail
        go_ret
        exact ⟨_, rfl, HB.out, _, rfl, by simp [Tm.Known, Tm.args, Tm.s, e0, s2]⟩
      · have q2 : (s.toList == [116, 114, 117, 101]) = false := by simpa using s2
        go_enter Tryd.func44, Tryd.ntmps44
        rw [e0] at HB
        go_wp2_with fail
        go_ret
        exact ⟨_, rfl, HB.out, _, rfl, by simp [Tm.Known, Tm.args, Tm.s, e0, s1, s2]⟩
  · by_cases e2 : l.length = 2
    · rw [e2]
      by_cases s1 : s.toList = [101, 113]
      · have q1 : (s.toList == [101, 113]) = true := by simpa using s1
        go_enter Tryd.func44, Tryd.ntmps44
        rw [e2] at HB
        go_wp2_with fail
        go_ret
        exact ⟨_, rfl, HB.out, _, rfl, by simp [Tm.Known, Tm.args, Tm.s, e2, s1]⟩
      · have q1 : (s.toList == [101, 113]) = false := by simpa using s1
        go_enter Tryd.func44, Tryd.ntmps44
        rw [e2] at HB
        go_wp2_with fail
        go_ret
        exact ⟨_, rfl, HB.out, _, rfl, by simp [Tm.Known, Tm.args, Tm.s, e2, s1]⟩
    · by_cases e3 : l.length = 3
      · rw [e3]
        go_enter Tryd.func44, Tryd.ntmps44
        rw [e3] at HB
        go_wp2_with fail
        go_ret
        exact ⟨_, rfl, HB.out, _, rfl, by simp [Tm.Known, Tm.args, Tm.s, e3]⟩
      · have l0 : ((l.length : Int) == 0) = false := by simpa using (show ¬ (l.length : Int) = 0 by omega)
        have l2 : ((l.length : Int) == 2) = false := by simpa using (show ¬ (l.length : Int) = 2 by omega)
        have l3 : ((l.length : Int) == 3) = false := by simpa using (show ¬ (l.length : Int) = 3 by omega)
        go_enter Tryd.func44, Tryd.ntmps44
        go_wp2_with fail
        go_ret
        refine ⟨_, rfl, HB.out, _, rfl, ?_⟩
        simp only [Tm.Known, Tm.args, Tm.s]
        exact ⟨(fun h => by cases h), fun h => by rcases h with ⟨h, -⟩ | ⟨h, -⟩ | ⟨h, -⟩ <;> omega⟩
theorem fits_ok (t : Tm) (v : Int) (hnd : t.nodes ≤ 1099511627776) (hi : I64 v) (A : Nat → Prop) (w : World) (vs : List Value) (hv : Tm.rep A w t vs) :
    Calls Tryd.prog 39 #[.agg vs.toArray, .int .i64 v] w (Pure w (BoolP (t.Fits v))) := by
  have HG := hid (fun w' (hk : Keeps A w w') => goodT_ok t v A w' vs hi (Tm.rep_lasts.1 _ _ _ _ _ hv hk))
  have HN := hid (fun w' (hk : Keeps A w w') => nodes_ok t A w' vs hnd (Tm.rep_lasts.1 _ _ _ _ _ hv hk))
  obtain ⟨sa, sc, rfl, -⟩ := Tm.rep4 hv
  clear hv
  go_enter Tryd.func39, Tryd.ntmps39
  go_wp2_with fail
  refine (HG.out _ (Keeps.alloc _ _ _)).mono ?_
  rintro e w1 ⟨r, rfl, hb, b, rfl, hr⟩
  have HB := hid (show Below w.heap.size w w1 from below_pure (hb.mono (by simp)))
  have HX := hid (blk_below (blk_new w (.cells #[.int .i64 t.kind, .int .i64 t.n, .string t.s, .slice sa t.args.length sc] 27)) hb)
  clear hb
  obtain ⟨x0, x1, x2, x3, xf⟩ := blk4 HX.out
  have hzz := HB.out.size
  cases b with
  | false =>
    have HNG := hid (show ¬ t.Good v from fun h => by have := hr.2 h; cases this)
    clear hr
    go_wp2_with fail
    go_ret
    exact ⟨_, rfl, HB.out, _, rfl, ⟨(fun h => by cases h), fun h => absurd h.1 HNG.out⟩⟩
  | true =>
    have HGD := hid (hr.1 rfl)
    clear hr
    go_wp2_with fail
    refine (HN.out _ (Keeps.of_below HB.out)).mono ?_
    rintro e w2 ⟨r, rfl, hb, rfl⟩
    have HB2 := hid (HB.out.trans (hb.mono HB.out.size))
    clear hb
    by_cases hn : t.nodes ≤ 24
    · have HNN := hid hn
      have hn' : (t.nodes : Int) ≤ 24 := by omega
      clear hn
      go_wp2_with fail
      go_ret
      exact ⟨_, rfl, HB2.out, _, rfl, ⟨fun _ => ⟨HGD.out, HNN.out⟩, fun _ => (by first | rfl | simp [hn'])⟩⟩
    · have HNN := hid hn
      have hn' : ¬ (t.nodes : Int) ≤ 24 := by omega
      clear hn
      go_wp2_with fail
      go_ret
      exact ⟨_, rfl, HB2.out, _, rfl, ⟨(fun h => by first | (cases h; done) | (simp at h; omega)), fun h => absurd h.2 HNN.out⟩⟩
end Go.Proofs.YtlpmfkpefoegeacDoor
