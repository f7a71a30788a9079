/-
  How many terms there are in one, as the document's own answer counts them: by a queue.
-/
import Derived.Test.YtlpmfkpefoegeacGreatDoorQQueue
import Derived.Test.YtlpmfkpefoegeacGreatDoorQNodes
import Derived.Deep.RegionLaw
import Derived.Deep.DeepCutAuto
import Derived.BigRegion
namespace Go.Proofs.YtlpmfkpefoegeacGreatDoor
set_option linter.unusedVariables false
set_option linter.unusedSimpArgs false
open Go.RowKit
theorem nodesL_app (l r : List Tm) : Tm.nodesL (l ++ r) = Tm.nodesL l + Tm.nodesL r := Tm.nodesL_append l r
theorem nodes_pos (t : Tm) : t.nodes = 1 + Tm.nodesL t.args := by cases t; simp [Tm.nodes, Tm.args]; try omega
theorem nodesLen : ∀ (l : List Tm), l.length ≤ Tm.nodesL l
  | [] => by simp
  | x :: r => by
    have := nodesLen r
    have := nodes_pos x
    simp only [Tm.nodesL, List.length_cons]
    omega
set_option maxHeartbeats 1000000 in
theorem nodesOf_ok (t : Tm) (hnd : t.nodes ≤ 4194304) (A : Nat → Prop) (w : World) (vs : List Value) (hv : Tm.rep A w t vs) :
    Calls Tryz.prog 121 #[.agg vs.toArray] w (Pure w fun v _ => v = .int .i64 t.nodes) := by
  obtain ⟨sa, sc, rfl, -⟩ := Tm.rep4 hv
  have HV := hid (Tm.rep_lasts.2.1 _ (fun b => b < w.heap.size) _ _ _ hv (fun b hb _ => hb))
  have HND := hid hnd
  clear hv hnd
  go_enter Tryz.func121, Tryz.ntmps121
  go_wp2_with fail
  go_upto_region 1 with fail
  go_cut [3, 4] (fun n q wr => n = .int .i64 0 ∧ QueR wr w.heap.size (fun b => b < w.heap.size) [t] q ∧ Below w.heap.size w wr)
  case first =>
    go_region
    all_goals
      go_wp2_with fail
      go_meet
      refine ⟨rfl, QueR.one (blk_keeps (A := fun _ => True) (show ((w.alloc (.cells #[.int .i64 t.kind, .int .i64 t.n, .string t.s, .slice sa t.args.length sc] 34)).alloc (.cells #[.int .i64 t.kind, .int .i64 t.n, .string t.s, .slice sa t.args.length sc] 34)).heap[w.heap.size + 1]? = _ from (heap2 w _ _).2) (Keeps.drew _ _) trivial) (by omega) (Tm.rep_lasts.1 _ _ _ _ _ HV.out (((Keeps.alloc _ _ _).trans (Keeps.alloc _ _ _)).trans (Keeps.drew _ _))), ?_⟩
      exact (((Below.refl _ w).alloc (Nat.le_refl _) _).alloc (by simp) _).drew
  case rest =>
    obtain ⟨rfl, hq, hb⟩ := hcut
    go_wp2_with fail
    go_loopw [3, 4] (fun n v wr => ∃ (m : Nat) (q : List Tm), n = .int .i64 m ∧ m + Tm.nodesL q = t.nodes ∧ QueR wr w.heap.size (fun b => b < w.heap.size) q v ∧ Below w.heap.size w wr) (fun n _ _ => t.nodes - (intOf n).toNat)
    case atStart => exact ⟨0, [t], rfl, by simp [Tm.nodesL], hq, hb⟩
    case round =>
      obtain ⟨m, q, rfl, hm, hQ, hB⟩ := hrel
      have HM := hid hm
      have HQ := hid hQ
      have HB := hid hB
      clear hm hQ hB hq hb
      cases q with
      | nil =>
        obtain ⟨va, vc, rfl, -⟩ := HQ.out.val
        go_wp2_with fail
        go_ret
        refine ⟨_, rfl, HB.out, ?_⟩
        have := HM.out
        simp only [Tm.nodesL, Nat.add_zero] at this
        rw [this]
        rfl
      | cons x r =>
        obtain ⟨g, off, cap, xa, xc, rfl, hle, hcm, hgl, c0, c1, c2, c3, hx⟩ := HQ.out.head
        have HX := hid hx
        clear hx
        have hgt : decide (0 < (r.length : Int) + 1) = true := by simp
        have hm1 : m < 4194304 := by
          have h1 := HM.out
          have h2 := HND.out
          have h3 := nodes_pos x
          simp only [Tm.nodesL] at h1
          omega
        have HLN := hid (show r.length + x.args.length ≤ 4194304 by
          have h1 := HM.out
          have h2 := HND.out
          have h3 := nodes_pos x
          have h4 := nodesLen r
          have h5 := nodesLen x.args
          simp only [Tm.nodesL] at h1
          omega)
        go_wp2_with fail
        go_upto_region 4 with fail
        have HQ2 := hid (fun (a' : Option Addr) (ha : 1 < cap → a' = some ⟨g, off + 4, none⟩) => QueR.keeps (B := fun _ => True) (QueR.tail HQ.out ha) ((Keeps.alloc _ _ (.cells #[.int .i64 x.kind, .int .i64 x.n, .string x.s, .slice xa x.args.length xc] 34)).trans (Keeps.drew _ _)) (fun _ _ => trivial) (fun _ _ => trivial))
        go_cut [4] (fun v' wr' => QueR wr' w.heap.size (fun b => b < w.heap.size) (r ++ x.args) v' ∧ Below w.heap.size w wr')
        case first =>
          have h1le : (1:Int) ≤ (r.length:Int) + 1 := by omega
          have HBZ := hid (show w.heap.size ≤ ((wr.alloc (.cells #[.int .i64 x.kind, .int .i64 x.n, .string x.s, .slice xa x.args.length xc] 34)).drew).heap.size by have := HB.out.size; simp; omega)
          have HXA := hid (show TmsR (fun b => b < w.heap.size) ((wr.alloc (.cells #[.int .i64 x.kind, .int .i64 x.n, .string x.s, .slice xa x.args.length xc] 34)).drew) x.args (.slice xa x.args.length xc) by
            obtain ⟨sa', sc', e, h⟩ := Tm.rep4 (Tm.rep_lasts.1 _ _ _ _ _ HX.out ((Keeps.alloc _ _ (.cells #[.int .i64 x.kind, .int .i64 x.n, .string x.s, .slice xa x.args.length xc] 34)).trans (Keeps.drew _ _)))
            simp only [List.cons.injEq, Value.slice.injEq, and_true, true_and] at e
            obtain ⟨rfl, rfl⟩ := e
            exact h.2.2.2.2.2.2)
          go_region_law (refine step_appQ rfl (.tmp 15) (.tmp 17) rfl w.heap.size _ r x.args rfl (HQ2.out (if cap = 1 then some ⟨g, off, none⟩ else some ⟨g, off + 4, none⟩) (fun h => if_neg (by omega))) _ rfl HXA.out (fun _ h => h) ⟨HLN.out, HBZ.out⟩ ?_; intro v2 w2 hq2 hb2)
          all_goals (try go_wp2_with fail)
          all_goals
            go_meet
            exact ⟨hq2, HB.out.trans ((((Below.refl _ wr).alloc HB.out.size _).drew).trans hb2)⟩
        case rest =>
          obtain ⟨hq, hb⟩ := hcut
          have HQ3 := hid hq
          have HB3 := hid hb
          clear hq hb
          go_wp2_with fail
          go_roundw
          case rel =>
            refine ⟨m + 1, r ++ x.args, by go_num, ?_, HQ3.out, HB3.out⟩
            have h1 := HM.out
            have h2 := nodes_pos x
            rw [nodesL_app]
            simp only [Tm.nodesL] at h1
            omega
          case measure =>
            have h1 := HM.out
            have h2 := nodes_pos x
            simp only [Tm.nodesL] at h1
            simp [intOf]; omega
end Go.Proofs.YtlpmfkpefoegeacGreatDoor
