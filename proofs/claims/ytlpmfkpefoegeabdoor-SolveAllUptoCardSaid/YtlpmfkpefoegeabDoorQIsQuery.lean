/-
  How many terms there are in one, as the document's own answer counts them: by a queue.
  A goal or a head that is small enough: the document's own answer.
  A query, as the document's own answer has it.
-/
import Derived.Test.YtlpmfkpefoegeabDoorQQueue
import Derived.Test.YtlpmfkpefoegeabDoorQIsHeap
import Derived.Deep.RegionLaw
import Derived.Deep.DeepCutAuto
import Derived.BigRegion
import Derived.Test.YtlpmfkpefoegeabDoorROpenC
import Derived.Test.YtlpmfkpefoegeabDoorQIsTerm
namespace Go.Proofs.YtlpmfkpefoegeabDoor
set_option linter.unusedVariables false
set_option linter.unusedSimpArgs false
open Go.RowKit
theorem nodesL_app (l r : List Tm) : Tm.nodesL (l ++ r) = Tm.nodesL l + Tm.nodesL r := Tm.nodesL_append l r
theorem nodes_pos (t : Tm) : t.nodes = 1 + Tm.nodesL t.args := by cases t; simp [Tm.nodes, Tm.args]; try omega
theorem nodesLen : ∀ (l : List Tm), l.length ≤ Tm.nodesL l
  | [] => by simp
  | x :: r => by
    have := nodesLen r
    have := nodes_pos x
    simp only [Tm.nodesL, List.length_cons]
    omega
set_option maxHeartbeats 1000000 in
theorem nodesOf_ok (t : Tm) (hnd : t.nodes ≤ 4194304) (A : Nat → Prop) (w : World) (vs : List Value) (hv : Tm.rep A w t vs) :
    Calls Tryd.prog 18 #[.agg vs.toArray] w (Pure w fun v _ => v = .int .i64 t.nodes) := by
  obtain ⟨sa, sc, rfl, -⟩ := Tm.rep4 hv
  have HV := hid (Tm.rep_lasts.2.1 _ (fun b => b < w.heap.size) _ _ _ hv (fun b hb _ => hb))
  have HND := hid hnd
  clear hv hnd
  go_enter Tryd.func18, Tryd.ntmps18
  go_wp2_with fail
  go_upto_region 1 with fail
  go_cut [3, 4] (fun n q wr => n = .int .i64 0 ∧ QueR wr w.heap.size (fun b => b < w.heap.size) [t] q ∧ Below w.heap.size w wr)
  case first =>
    go_region
    all_goals
      go_wp2_with fail
      go_meet
      refine ⟨rfl, QueR.one (blk_keeps (A := fun _ => True) (show ((w.alloc (.cells #[.int .i64 t.kind, .int .i64 t.n, .string t.s, .slice sa t.args.length sc] 31)).alloc (.cells #[.int .i64 t.kind, .int .i64 t.n, .string t.s, .slice sa t.args.length sc] 31)).heap[w.heap.size + 1]? = _ from (heap2 w _ _).2) (Keeps.drew _ _) trivial) (by omega) (Tm.rep_lasts.1 _ _ _ _ _ HV.out (((Keeps.alloc _ _ _).trans (Keeps.alloc _ _ _)).trans (Keeps.drew _ _))), ?_⟩
      exact (((Below.refl _ w).alloc (Nat.le_refl _) _).alloc (by simp) _).drew
  case rest =>
    obtain ⟨rfl, hq, hb⟩ := hcut
    go_wp2_with fail
    go_loopw [3, 4] (fun n v wr => ∃ (m : Nat) (q : List Tm), n = .int .i64 m ∧ m + Tm.nodesL q = t.nodes ∧ QueR wr w.heap.size (fun b => b < w.heap.size) q v ∧ Below w.heap.size w wr) (fun n _ _ => t.nodes - (intOf n).toNat)
    case atStart => exact ⟨0, [t], rfl, by simp [Tm.nodesL], hq, hb⟩
    case round =>
      obtain ⟨m, q, rfl, hm, hQ, hB⟩ := hrel
      have HM := hid hm
      have HQ := hid hQ
      have HB := hid hB
      clear hm hQ hB hq hb
      cases q with
      | nil =>
        obtain ⟨va, vc, rfl, -⟩ := HQ.out.val
        go_wp2_with fail
        go_ret
        refine ⟨_, rfl, HB.out, ?_⟩
        have := HM.out
        simp only [Tm.nodesL, Nat.add_zero] at this
        rw [this]
        rfl
      | cons x r =>
        obtain ⟨g, off, cap, xa, xc, rfl, hle, hcm, hgl, c0, c1, c2, c3, hx⟩ := HQ.out.head
        have HX := hid hx
        clear hx
        have hgt : decide (0 < (r.length : Int) + 1) = true := by simp
        have hm1 : m < 4194304 := by
          have h1 := HM.out
          have h2 := HND.out
          have h3 := nodes_pos x
          simp only [Tm.nodesL] at h1
          omega
        have HLN := hid (show r.length + x.args.length ≤ 4194304 by
          have h1 := HM.out
          have h2 := HND.out
          have h3 := nodes_pos x
          have h4 := nodesLen r
          have h5 := nodesLen x.args
          simp only [Tm.nodesL] at h1
          omega)
        go_wp2_with fail
        go_upto_region 4 with fail
        have HQ2 := hid (fun (a' : Option Addr) (ha : 1 < cap → a' = some ⟨g, off + 4, none⟩) => QueR.keeps (B := fun _ => True) (QueR.tail HQ.out ha) ((Keeps.alloc _ _ (.cells #[.int .i64 x.kind, .int .i64 x.n, .string x.s, .slice xa x.args.length xc] 31)).trans (Keeps.drew _ _)) (fun _ _ => trivial) (fun _ _ => trivial))
        go_cut [4] (fun v' wr' => QueR wr' w.heap.size (fun b => b < w.heap.size) (r ++ x.args) v' ∧ Below w.heap.size w wr')
        case first =>
          have h1le : (1:Int) ≤ (r.length:Int) + 1 := by omega
          have HBZ := hid (show w.heap.size ≤ ((wr.alloc (.cells #[.int .i64 x.kind, .int .i64 x.n, .string x.s, .slice xa x.args.length xc] 31)).drew).heap.size by have := HB.out.size; simp; omega)
          have HXA := hid (show TmsR (fun b => b < w.heap.size) ((wr.alloc (.cells #[.int .i64 x.kind, .int .i64 x.n, .string x.s, .slice xa x.args.length xc] 31)).drew) x.args (.slice xa x.args.length xc) by
            obtain ⟨sa', sc', e, h⟩ := Tm.rep4 (Tm.rep_lasts.1 _ _ _ _ _ HX.out ((Keeps.alloc _ _ (.cells #[.int .i64 x.kind, .int .i64 x.n, .string x.s, .slice xa x.args.length xc] 31)).trans (Keeps.drew _ _)))
            simp only [List.cons.injEq, Value.slice.injEq, and_true, true_and] at e
            obtain ⟨rfl, rfl⟩ := e
            exact h.2.2.2.2.2.2)
          go_region_law (refine step_appQ rfl (.tmp 15) (.tmp 17) rfl w.heap.size _ r x.args rfl (HQ2.out (if cap = 1 then some ⟨g, off, none⟩ else some ⟨g, off + 4, none⟩) (fun h => if_neg (by omega))) _ rfl HXA.out (fun _ h => h) ⟨HLN.out, HBZ.out⟩ ?_; intro v2 w2 hq2 hb2)
          all_goals (try go_wp2_with fail)
          all_goals
            go_meet
            exact ⟨hq2, HB.out.trans ((((Below.refl _ wr).alloc HB.out.size _).drew).trans hb2)⟩
        case rest =>
          obtain ⟨hq, hb⟩ := hcut
          have HQ3 := hid hq
          have HB3 := hid hb
          clear hq hb
          go_wp2_with fail
          go_roundw
          case rel =>
            refine ⟨m + 1, r ++ x.args, by go_num, ?_, HQ3.out, HB3.out⟩
            have h1 := HM.out
            have h2 := nodes_pos x
            rw [nodesL_app]
            simp only [Tm.nodesL] at h1
            omega
          case measure =>
            have h1 := HM.out
            have h2 := nodes_pos x
            simp only [Tm.nodesL] at h1
            simp [intOf]; omega
end Go.Proofs.YtlpmfkpefoegeabDoor

namespace Go.Proofs.YtlpmfkpefoegeabDoor
set_option linter.unusedVariables false
set_option linter.unusedSimpArgs false
open Go.RowKit
def SmallP (t : Tm) (v : Int) : Prop := t.IsGoal ∧ t.Fits v
set_option maxHeartbeats 1000000 in
theorem small_ok (t : Tm) (v : Int) (hnd : t.nodes ≤ 4194304) (hi : I64 v) (A : Nat → Prop) (w : World) (vs : List Value) (hv : Tm.rep A w t vs) :
    Calls Tryd.prog 52 #[.agg vs.toArray, .int .i64 v] w (Pure w (BoolP (SmallP t v))) := by
  have HG := hid (fun w' (hk : Keeps A w w') => isTerm_ok t v A w' vs hi (Tm.rep_lasts.1 _ _ _ _ _ hv hk))
  have HN := hid (fun w' (hk : Keeps A w w') => nodesOf_ok t hnd A w' vs (Tm.rep_lasts.1 _ _ _ _ _ hv hk))
  obtain ⟨sa, sc, rfl, -⟩ := Tm.rep4 hv
  clear hv
  by_cases hgl : t.IsGoal
  · have HGL := hid hgl
    have hcase : (t.kind == 1) = true ∨ ((t.kind == 1) = false ∧ (t.kind == 3) = true) := by
      rcases hgl with h | h
      · exact .inl (by simp [h])
      · exact .inr ⟨by simp [h], by simp [h]⟩
    clear hgl
    rcases hcase with hk | ⟨hk, hk3⟩
    all_goals
      go_enter Tryd.func52, Tryd.ntmps52
      go_wp2_with fail
      refine (HG.out _ (Keeps.alloc _ _ _)).mono ?_
      rintro e w1 ⟨r, rfl, hb, b, rfl, hr⟩
      have HB := hid (show Below w.heap.size w w1 from below_pure (hb.mono (by simp)))
      have HX := hid (blk_below (blk_new w (.cells #[.int .i64 t.kind, .int .i64 t.n, .string t.s, .slice sa t.args.length sc] 31)) hb)
      clear hb
      obtain ⟨x0, x1, x2, x3, xf⟩ := blk4 HX.out
      have hzz := HB.out.size
      cases b with
      | false =>
        have HNG := hid (show ¬ t.Good v from fun h => by have := hr.2 h; cases this)
        clear hr
        go_wp2_with fail
        go_ret
        exact ⟨_, rfl, HB.out, _, rfl, ⟨(fun h => by cases h), fun h => absurd h.2.1 HNG.out⟩⟩
      | true =>
        have HGD := hid (hr.1 rfl)
        clear hr
        go_wp2_with fail
        refine (HN.out _ (Keeps.of_below HB.out)).mono ?_
        rintro e w2 ⟨r, rfl, hb, rfl⟩
        have HB2 := hid (HB.out.trans (hb.mono HB.out.size))
        clear hb
        by_cases hn : t.nodes ≤ 24
        · have HNN := hid hn
          have hn' : (t.nodes : Int) ≤ 24 := by omega
          clear hn
          go_wp2_with fail
          go_ret
          exact ⟨_, rfl, HB2.out, _, rfl, ⟨fun _ => ⟨HGL.out, HGD.out, HNN.out⟩, fun _ => (by first | rfl | simp [hn'])⟩⟩
        · have HNN := hid hn
          have hn' : ¬ (t.nodes : Int) ≤ 24 := by omega
          clear hn
          go_wp2_with fail
          go_ret
          exact ⟨_, rfl, HB2.out, _, rfl, ⟨(fun h => by first | (cases h; done) | (simp at h; omega)), fun h => absurd h.2.2 HNN.out⟩⟩
  · have HGL := hid hgl
    have hk : (t.kind == 1) = false := by simpa using fun h => hgl (.inl h)
    have hk3 : (t.kind == 3) = false := by simpa using fun h => hgl (.inr h)
    clear hgl
    go_enter Tryd.func52, Tryd.ntmps52
    go_wp2_with fail
    go_ret
    exact ⟨_, rfl, below_pure (Below.refl _ _), _, rfl, ⟨(fun h => by cases h), fun h => absurd h.1 HGL.out⟩⟩
end Go.Proofs.YtlpmfkpefoegeabDoor

namespace Go.Proofs.YtlpmfkpefoegeabDoor
set_option linter.unusedVariables false
set_option linter.unusedSimpArgs false
open Go.RowKit
set_option maxHeartbeats 1000000 in
theorem isQuery_ok (l : List Tm) (v : Int) (hnd : Tm.nodesL l ≤ 4194304) (hi : I64 v) (A : Nat → Prop) (w : World) (u : Value) (hu : TmsR A w l u) :
    Calls Tryd.prog 27 #[u, .int .i64 v] w (Pure w (BoolP (GoodQ l v))) := by
  obtain ⟨a, cap, b, off, rfl, hlc, hcm, hlb, ha, he⟩ := hu.at
  have HE := hid he
  have HA := hid ha
  have HI := hid hi
  have HND := hid hnd
  clear hu he ha hi hnd
  go_enter Tryd.func27, Tryd.ntmps27
  go_upto_region 1 with fail
  go_cut [5] (fun o W => (∃ g, o = .bool g ∧ (g = true ↔ 0 ≤ v ∧ v ≤ 8 ∧ l.length ≤ 5)) ∧ W = w)
  case first =>
    by_cases h1 : 0 ≤ v
    · by_cases h2 : v ≤ 8
      · by_cases h3 : l.length ≤ 5
        · have h3' : decide ((l.length : Int) ≤ 5) = true := by simp; omega
          have h2' : decide (v ≤ 8) = true := by simpa using h2
          have h1' : decide (0 ≤ v) = true := by simpa using h1
          go_wp2_with fail
          go_meet
          exact ⟨⟨_, rfl, by simp [h1, h2, h3]⟩, rfl⟩
        · have h3' : decide ((l.length : Int) ≤ 5) = false := by simp; omega
          have h2' : decide (v ≤ 8) = true := by simpa using h2
          have h1' : decide (0 ≤ v) = true := by simpa using h1
          go_wp2_with fail
          go_meet
          exact ⟨⟨_, rfl, ⟨(fun h => by first | (cases h; done) | (simp at h; omega)), fun h => absurd h.2.2 (by omega)⟩⟩, rfl⟩
      · have h2' : decide (v ≤ 8) = false := by simpa using h2
        have h1' : decide (0 ≤ v) = true := by simpa using h1
        go_wp2_with fail
        go_meet
        exact ⟨⟨_, rfl, ⟨(fun h => by first | (cases h; done) | (simp at h; omega)), fun h => absurd h.2.1 (by omega)⟩⟩, rfl⟩
    · have h1' : decide (0 ≤ v) = false := by simpa using h1
      go_wp2_with fail
      go_meet
      exact ⟨⟨_, rfl, ⟨(fun h => by first | (cases h; done) | (simp at h; omega)), fun h => absurd h.1 (by omega)⟩⟩, rfl⟩
  case rest =>
    obtain ⟨⟨g0, rfl, hg0⟩, hW⟩ := hcut
    have hW := hW.symm
    subst hW
    have HG0 := hid hg0
    clear hg0
    go_wp2_with fail
    go_loopw [21, 5] (fun i o W => ∃ (j : Nat) (g : Bool), j ≤ l.length ∧ i = .int .i64 (j : Int) ∧ o = .bool g ∧ Below w.heap.size w W ∧ (g = true ↔ g0 = true ∧ ∀ q (hq : q < l.length), q < j → SmallP l[q] v)) (fun i _ _ => l.length - (intOf i).toNat)
    case atStart => exact ⟨0, g0, Nat.zero_le _, rfl, rfl, Below.refl _ _, ⟨fun h => ⟨h, fun q _ h => absurd h (Nat.not_lt_zero _)⟩, fun h => h.1⟩⟩
    case round =>
      obtain ⟨j, g, hj, rfl, rfl, hb, hq⟩ := hrel
      have HB := hid hb
      have HQ := hid hq
      have hz := hb.size
      clear hb hq
      by_cases hlt : j < l.length
      · obtain ⟨rfl, hAb⟩ := HA.out (by omega)
        obtain ⟨sa, sc, c0, c1, c2, c3, hr⟩ := tm_cells HE.out hAb (Keeps.of_below HB.out) hlt
        have hlt' : (j : Int) < (l.length : Int) := by omega
        have HLT := hid hlt
        obtain ⟨t, ht⟩ : ∃ t, t = l[j]'hlt := ⟨_, rfl⟩
        have hmem : t ∈ l := by rw [ht]; exact List.getElem_mem _
        rw [← ht] at c0 c1 c2 c3 hr
        have hn := nodesL_mem hmem
        have hnn := HND.out
        have HT := hid ht
        have HR := hid hr
        have HN := hid (show t.nodes ≤ 4194304 by omega)
        clear hr ht hmem hn hnn
        cases g with
        | false =>
          have HB1 := hid (HB.out.alloc (by omega) (.cells #[.int .i64 t.kind, .int .i64 t.n, .string t.s, .slice sa t.args.length sc] 31))
          go_wp2_with fail
          go_roundw
          case rel =>
            refine ⟨j + 1, false, by omega, by go_num, rfl, HB1.out, ⟨(fun h => by cases h), fun h => ?_⟩⟩
            have := HQ.out.2 ⟨h.1, fun q hq hqj => h.2 q hq (by omega)⟩
            cases this
          case measure => first | (simp [intOf]; done) | (simp [intOf]; omega)
        | true =>
          go_wp2_with fail
          refine (small_ok t v HN.out HI.out A _ _ (Tm.rep_lasts.1 _ _ _ _ _ HR.out (Keeps.alloc _ _ _))).mono ?_
          rintro e w1 ⟨r, rfl, hb, g, rfl, hg⟩
          have HB1 := hid ((HB.out.alloc (by omega) (.cells #[.int .i64 t.kind, .int .i64 t.n, .string t.s, .slice sa t.args.length sc] 31)).trans (hb.mono (by simp; omega)))
          have HGG := hid hg
          clear hb c0 c1 c2 c3 hg
          go_wp2_with fail
          go_roundw
          case rel =>
            refine ⟨j + 1, g, by omega, by go_num, rfl, HB1.out, ⟨fun h => ⟨(HQ.out.1 (by first | trivial | rfl)).1, fun q hq hqj => ?_⟩, fun h => HGG.out.2 (by rw [HT.out]; exact h.2 j HLT.out (by omega))⟩⟩
            by_cases e : q = j
            · subst e; rw [← HT.out]; exact HGG.out.1 h
            · exact (HQ.out.1 (by first | trivial | rfl)).2 q hq (by omega)
          case measure => first | (simp [intOf]; done) | (simp [intOf]; omega)
      · have hlt' : ¬ (j : Int) < (l.length : Int) := by omega
        have HFIN := hid (show g = true ↔ GoodQ l v from by
          rw [HQ.out, HG0.out]
          constructor
          · rintro ⟨⟨h1, h2, h3⟩, h4⟩
            refine ⟨h1, h2, h3, fun x hx => ?_⟩
            obtain ⟨q, hq, rfl⟩ := List.mem_iff_getElem.1 hx
            exact h4 q hq (by omega)
          · rintro ⟨h1, h2, h3, h4⟩
            exact ⟨⟨h1, h2, h3⟩, fun q hq _ => h4 _ (List.getElem_mem hq)⟩)
        go_wp2_with fail
        go_ret
        exact ⟨_, rfl, HB.out, _, rfl, HFIN.out⟩
end Go.Proofs.YtlpmfkpefoegeabDoor
