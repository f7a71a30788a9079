/-
  A query, as the document's own answer has it.
-/
import Derived.Test.YtlpmfkpefoegeacGreatDoorPRead2
import Derived.Test.YtlpmfkpefoegeacGreatDoorQIsTerm
import Derived.Test.YtlpmfkpefoegeacGreatDoorQNodesOf
namespace Go.Proofs.YtlpmfkpefoegeacGreatDoor
set_option linter.unusedVariables false
set_option linter.unusedSimpArgs false
open Go.RowKit
def SmallP (t : Tm) (v : Int) : Prop := t.IsGoal ∧ t.Fits v
set_option maxHeartbeats 1000000 in
theorem small_ok (t : Tm) (v : Int) (hnd : t.nodes ≤ 4194304) (hi : I64 v) (A : Nat → Prop) (w : World) (vs : List Value) (hv : Tm.rep A w t vs) :
    Calls Tryz.prog 81 #[.agg vs.toArray, .int .i64 v] w (Pure w (BoolP (SmallP t v))) := by
  have HG := hid (fun w' (hk : Keeps A w w') => isTerm_ok t v A w' vs hi (Tm.rep_lasts.1 _ _ _ _ _ hv hk))
  have HN := hid (fun w' (hk : Keeps A w w') => nodesOf_ok t hnd A w' vs (Tm.rep_lasts.1 _ _ _ _ _ hv hk))
  obtain ⟨sa, sc, rfl, -⟩ := Tm.rep4 hv
  clear hv
  by_cases hgl : t.IsGoal
  · have HGL := hid hgl
    have hcase : (t.kind == 1) = true ∨ ((t.kind == 1) = false ∧ (t.kind == 3) = true) := by
      rcases hgl with h | h
      · exact .inl (by simp [h])
      · exact .inr ⟨by simp [h], by simp [h]⟩
    clear hgl
    rcases hcase with hk | ⟨hk, hk3⟩
    all_goals
      go_enter Tryz.func81, Tryz.ntmps81
      go_wp2_with fail
      refine (HG.out _ (Keeps.alloc _ _ _)).mono ?_
      rintro e w1 ⟨r, rfl, hb, b, rfl, hr⟩
      have HB := hid (show Below w.heap.size w w1 from below_pure (hb.mono (by simp)))
      have HX := hid (blk_below (blk_new w (.cells #[.int .i64 t.kind, .int .i64 t.n, .string t.s, .slice sa t.args.length sc] 34)) hb)
      clear hb
      obtain ⟨x0, x1, x2, x3, xf⟩ := blk4 HX.out
      have hzz := HB.out.size
      cases b with
      | false =>
        have HNG := hid (show ¬ t.Good v from fun h => by have := hr.2 h; cases this)
        clear hr
        go_wp2_with fail
        go_ret
        exact ⟨_, rfl, HB.out, _, rfl, ⟨(fun h => by cases h), fun h => absurd h.2.1 HNG.out⟩⟩
      | true =>
        have HGD := hid (hr.1 rfl)
        clear hr
        go_wp2_with fail
        refine (HN.out _ (Keeps.of_below HB.out)).mono ?_
        rintro e w2 ⟨r, rfl, hb, rfl⟩
        have HB2 := hid (HB.out.trans (hb.mono HB.out.size))
        clear hb
        by_cases hn : t.nodes ≤ 24
        · have HNN := hid hn
          have hn' : (t.nodes : Int) ≤ 24 := by omega
          clear hn
          go_wp2_with fail
          go_ret
          exact ⟨_, rfl, HB2.out, _, rfl, ⟨fun _ => ⟨HGL.out, HGD.out, HNN.out⟩, fun _ => (by first | rfl | simp [hn'])⟩⟩
        · have HNN := hid hn
          have hn' : ¬ (t.nodes : Int) ≤ 24 := by omega
          clear hn
          go_wp2_with fail
          go_ret
          exact ⟨_, rfl, HB2.out, _, rfl, ⟨(fun h => by first | (cases h; done) | (simp at h; omega)), fun h => absurd h.2.2 HNN.out⟩⟩
  · have HGL := hid hgl
    have hk : (t.kind == 1) = false := by simpa using fun h => hgl (.inl h)
    have hk3 : (t.kind == 3) = false := by simpa using fun h => hgl (.inr h)
    clear hgl
    go_enter Tryz.func81, Tryz.ntmps81
    go_wp2_with fail
    go_ret
    exact ⟨_, rfl, below_pure (Below.refl _ _), _, rfl, ⟨(fun h => by cases h), fun h => absurd h.1 HGL.out⟩⟩
set_option maxHeartbeats 1000000 in
theorem isQuery_ok (l : List Tm) (v : Int) (hnd : Tm.nodesL l ≤ 4194304) (hi : I64 v) (A : Nat → Prop) (w : World) (u : Value) (hu : TmsR A w l u) :
    Calls Tryz.prog 44 #[u, .int .i64 v] w (Pure w (BoolP (GoodQ l v))) := by
  obtain ⟨a, cap, b, off, rfl, hlc, hcm, hlb, ha, he⟩ := hu.at
  have HE := hid he
  have HA := hid ha
  have HI := hid hi
  have HND := hid hnd
  clear hu he ha hi hnd
  go_enter Tryz.func44, Tryz.ntmps44
  go_upto_region 1 with fail
  go_cut [5] (fun o W => (∃ g, o = .bool g ∧ (g = true ↔ 0 ≤ v ∧ v ≤ 8 ∧ l.length ≤ 5)) ∧ W = w)
  case first =>
    by_cases h1 : 0 ≤ v
    · by_cases h2 : v ≤ 8
      · by_cases h3 : l.length ≤ 5
        · have h3' : decide ((l.length : Int) ≤ 5) = true := by simp; omega
          have h2' : decide (v ≤ 8) = true := by simpa using h2
          have h1' : decide (0 ≤ v) = true := by simpa using h1
          go_wp2_with fail
          go_meet
          exact ⟨⟨_, rfl, by simp [h1, h2, h3]⟩, rfl⟩
        · have h3' : decide ((l.length : Int) ≤ 5) = false := by simp; omega
          have h2' : decide (v ≤ 8) = true := by simpa using h2
          have h1' : decide (0 ≤ v) = true := by simpa using h1
          go_wp2_with fail
          go_meet
          exact ⟨⟨_, rfl, ⟨(fun h => by first | (cases h; done) | (simp at h; omega)), fun h => absurd h.2.2 (by omega)⟩⟩, rfl⟩
      · have h2' : decide (v ≤ 8) = false := by simpa using h2
        have h1' : decide (0 ≤ v) = true := by simpa using h1
        go_wp2_with fail
        go_meet
        exact ⟨⟨_, rfl, ⟨(fun h => by first | (cases h; done) | (simp at h; omega)), fun h => absurd h.2.1 (by omega)⟩⟩, rfl⟩
    · have h1' : decide (0 ≤ v) = false := by simpa using h1
      go_wp2_with fail
      go_meet
      exact ⟨⟨_, rfl, ⟨(fun h => by first | (cases h; done) | (simp at h; omega)), fun h => absurd h.1 (by omega)⟩⟩, rfl⟩
  case rest =>
    obtain ⟨⟨g0, rfl, hg0⟩, hW⟩ := hcut
    have hW := hW.symm
    subst hW
    have HG0 := hid hg0
    clear hg0
    go_wp2_with fail
    go_loopw [21, 5] (fun i o W => ∃ (j : Nat) (g : Bool), j ≤ l.length ∧ i = .int .i64 (j : Int) ∧ o = .bool g ∧ Below w.heap.size w W ∧ (g = true ↔ g0 = true ∧ ∀ q (hq : q < l.length), q < j → SmallP l[q] v)) (fun i _ _ => l.length - (intOf i).toNat)
    case atStart => exact ⟨0, g0, Nat.zero_le _, rfl, rfl, Below.refl _ _, ⟨fun h => ⟨h, fun q _ h => absurd h (Nat.not_lt_zero _)⟩, fun h => h.1⟩⟩
    case round =>
      obtain ⟨j, g, hj, rfl, rfl, hb, hq⟩ := hrel
      have HB := hid hb
      have HQ := hid hq
      have hz := hb.size
      clear hb hq
      by_cases hlt : j < l.length
      · obtain ⟨rfl, hAb⟩ := HA.out (by omega)
        obtain ⟨sa, sc, c0, c1, c2, c3, hr⟩ := tm_cells HE.out hAb (Keeps.of_below HB.out) hlt
        have hlt' : (j : Int) < (l.length : Int) := by omega
        have HLT := hid hlt
        obtain ⟨t, ht⟩ : ∃ t, t = l[j]'hlt := ⟨_, rfl⟩
        have hmem : t ∈ l := by rw [ht]; exact List.getElem_mem _
        rw [← ht] at c0 c1 c2 c3 hr
        have hn := nodesL_mem hmem
        have hnn := HND.out
        have HT := hid ht
        have HR := hid hr
        have HN := hid (show t.nodes ≤ 4194304 by omega)
        clear hr ht hmem hn hnn
        cases g with
        | false =>
          have HB1 := hid (HB.out.alloc (by omega) (.cells #[.int .i64 t.kind, .int .i64 t.n, .string t.s, .slice sa t.args.length sc] 34))
          go_wp2_with fail
          go_roundw
          case rel =>
            refine ⟨j + 1, false, by omega, by go_num, rfl, HB1.out, ⟨(fun h => by cases h), fun h => ?_⟩⟩
            have := HQ.out.2 ⟨h.1, fun q hq hqj => h.2 q hq (by omega)⟩
            cases this
          case measure => first | (simp [intOf]; done) | (simp [intOf]; omega)
        | true =>
          go_wp2_with fail
          refine (small_ok t v HN.out HI.out A _ _ (Tm.rep_lasts.1 _ _ _ _ _ HR.out (Keeps.alloc _ _ _))).mono ?_
          rintro e w1 ⟨r, rfl, hb, g, rfl, hg⟩
          have HB1 := hid ((HB.out.alloc (by omega) (.cells #[.int .i64 t.kind, .int .i64 t.n, .string t.s, .slice sa t.args.length sc] 34)).trans (hb.mono (by simp; omega)))
          have HGG := hid hg
          clear hb c0 c1 c2 c3 hg
          go_wp2_with fail
          go_roundw
          case rel =>
            refine ⟨j + 1, g, by omega, by go_num, rfl, HB1.out, ⟨fun h => ⟨(HQ.out.1 (by first | trivial | rfl)).1, fun q hq hqj => ?_⟩, fun h => HGG.out.2 (by rw [HT.out]; exact h.2 j HLT.out (by omega))⟩⟩
            by_cases e : q = j
            · subst e; rw [← HT.out]; exact HGG.out.1 h
            · exact (HQ.out.1 (by first | trivial | rfl)).2 q hq (by omega)
          case measure => first | (simp [intOf]; done) | (simp [intOf]; omega)
      · have hlt' : ¬ (j : Int) < (l.length : Int) := by omega
        have HFIN := hid (show g = true ↔ GoodQ l v from by
          rw [HQ.out, HG0.out]
          constructor
          · rintro ⟨⟨h1, h2, h3⟩, h4⟩
            refine ⟨h1, h2, h3, fun x hx => ?_⟩
            obtain ⟨q, hq, rfl⟩ := List.mem_iff_getElem.1 hx
            exact h4 q hq (by omega)
          · rintro ⟨h1, h2, h3, h4⟩
            exact ⟨⟨h1, h2, h3⟩, fun q hq _ => h4 _ (List.getElem_mem hq)⟩)
        go_wp2_with fail
        go_ret
        exact ⟨_, rfl, HB.out, _, rfl, HFIN.out⟩
end Go.Proofs.YtlpmfkpefoegeacGreatDoor
