/-
  A goal or a head that is small enough: the document's own answer.
-/
import Derived.Test.YtlpmfkpefoegeabDoorQClause
import Derived.Test.YtlpmfkpefoegeabDoorQIsTerm
import Derived.Test.YtlpmfkpefoegeabDoorQNodesOf
namespace Go.Proofs.YtlpmfkpefoegeabDoor
set_option linter.unusedVariables false
set_option linter.unusedSimpArgs false
open Go.RowKit

def SmallP (t : Tm) (v : Int) : Prop := t.IsGoal ∧ t.Fits v

set_option maxHeartbeats 1000000 in
theorem small_ok (t : Tm) (v : Int) (hnd : t.nodes ≤ 4194304) (hi : I64 v) (A : Nat → Prop) (w : World) (vs : List Value) (hv : Tm.rep A w t vs) :
    Calls Tryd.prog 52 #[.agg vs.toArray, .int .i64 v] w (Pure w (BoolP (SmallP t v))) := by
  have HG := hid (fun w' (hk : Keeps A w w') => isTerm_ok t v A w' vs hi (Tm.rep_lasts.1 _ _ _ _ _ hv hk))
  have HN := hid (fun w' (hk : Keeps A w w') => nodesOf_ok t hnd A w' vs (Tm.rep_lasts.1 _ _ _ _ _ hv hk))
  obtain ⟨sa, sc, rfl, -⟩ := Tm.rep4 hv
  clear hv
  by_cases hgl : t.IsGoal
  · have HGL := hid hgl
    have hcase : (t.kind == 1) = true ∨ ((t.kind == 1) = false ∧ (t.kind == 3) = true) := by
      rcases hgl with h | h
      · exact .inl (by simp [h])
      · exact .inr ⟨by simp [h], by simp [h]⟩
    clear hgl
    rcases hcase with hk | ⟨hk, hk3⟩
    all_goals
      go_enter Tryd.func52, Tryd.ntmps52
      go_wp2_with fail
      refine (HG.out _ (Keeps.alloc _ _ _)).mono ?_
      rintro e w1 ⟨r, rfl, hb, b, rfl, hr⟩
      have HB := hid (show Below w.heap.size w w1 from below_pure (hb.mono (by simp)))
      have HX := hid (blk_below (blk_new w (.cells #[.int .i64 t.kind, .int .i64 t.n, .string t.s, .slice sa t.args.length sc] 31)) hb)
      clear hb
      obtain ⟨x0, x1, x2, x3, xf⟩ := blk4 HX.out
      have hzz := HB.out.size
      cases b with
      | false =>
        have HNG := hid (show ¬ t.Good v from fun h => by have := hr.2 h; cases this)
        clear hr
        go_wp2_with fail
        go_ret
        exact ⟨_, rfl, HB.out, _, rfl, ⟨(fun h => by cases h), fun h => absurd h.2.1 HNG.out⟩⟩
      | true =>
        have HGD := hid (hr.1 rfl)
        clear hr
        go_wp2_with fail
        refine (HN.out _ (Keeps.of_below HB.out)).mono ?_
        rintro e w2 ⟨r, rfl, hb, rfl⟩
        have HB2 := hid (HB.out.trans (hb.mono HB.out.size))
        clear hb
        by_cases hn : t.nodes ≤ 24
        · have HNN := hid hn
          have hn' : (t.nodes : Int) ≤ 24 := by omega
          clear hn
          go_wp2_with fail
          go_ret
          exact ⟨_, rfl, HB2.out, _, rfl, ⟨fun _ => ⟨HGL.out, HGD.out, HNN.out⟩, fun _ => (by first | rfl | simp [hn'])⟩⟩
        · have HNN := hid hn
          have hn' : ¬ (t.nodes : Int) ≤ 24 := by omega
          clear hn
          go_wp2_with fail
          go_ret
          exact ⟨_, rfl, HB2.out, _, rfl, ⟨(fun h => by first | (cases h; done) | (simp at h; omega)), fun h => absurd h.2.2 HNN.out⟩⟩
  · have HGL := hid hgl
    have hk : (t.kind == 1) = false := by simpa using fun h => hgl (.inl h)
    have hk3 : (t.kind == 3) = false := by simpa using fun h => hgl (.inr h)
    clear hgl
    go_enter Tryd.func52, Tryd.ntmps52
    go_wp2_with fail
    go_ret
    exact ⟨_, rfl, below_pure (Below.refl _ _), _, rfl, ⟨(fun h => by cases h), fun h => absurd h.1 HGL.out⟩⟩
end Go.Proofs.YtlpmfkpefoegeabDoor
