/-
  The small question whether package term answers at all, as the laws ask it.
-/
import Derived.Test.YtlpmfkpefoegeabDoorQTermsK
namespace Go.Proofs.YtlpmfkpefoegeabDoor
set_option linter.unusedVariables false
set_option linter.unusedSimpArgs false
open Go.RowKit

set_option maxHeartbeats 1000000 in
theorem terms_law (w : World) : Calls Tryd.prog 31 #[] w (Pure w fun v _ => v = .bool true) := by
  have i3 : I64 3 := by unfold I64; omega
  have i4 : I64 4 := by unfold I64; omega
  have I3 := hid i3
  have I4 := hid i4
  clear i3 i4
  go_enter Tryd.func31, Tryd.ntmps31
  go_wp2_with fail
  have hq := heap3 w (.cells #[.int .i64 0, .int .i64 3, .string ⟨#[]⟩, .slice none 0 0, .int .i64 2, .int .i64 7, .string ⟨#[]⟩, .slice none 0 0] 31) (.cells #[.int .i64 3, .int .i64 0, .string ⟨#[102]⟩, .slice (some ⟨w.heap.size, 0, none⟩) 2 2] 31) (.cells #[.int .i64 3, .int .i64 0, .string ⟨#[102]⟩, .slice (some ⟨w.heap.size, 0, none⟩) 2 2] 31)
  generalize hW : ((w.alloc (.cells #[.int .i64 0, .int .i64 3, .string ⟨#[]⟩, .slice none 0 0, .int .i64 2, .int .i64 7, .string ⟨#[]⟩, .slice none 0 0] 31)).alloc (.cells #[.int .i64 3, .int .i64 0, .string ⟨#[102]⟩, .slice (some ⟨w.heap.size, 0, none⟩) 2 2] 31)).alloc (.cells #[.int .i64 3, .int .i64 0, .string ⟨#[102]⟩, .slice (some ⟨w.heap.size, 0, none⟩) 2 2] 31) = W at hq ⊢
  have HBW := hid (show Below w.heap.size w W by subst hW; exact below_pure (below_pure (below_pure (Below.refl _ _))))
  clear hW
  obtain ⟨q0, q1, q2⟩ := hq
  have hin : TmsR (fun _ => True) W [tt 3] (.slice (some ⟨w.heap.size + 1 + 1, 0, none⟩) 1 1) := by
    refine ⟨w.heap.size + 1 + 1, 0, ⟨by simp, .inr ⟨by simp, trivial, 1, rfl, by simp, by simp [maxLen]⟩⟩, fun i x hx => ?_⟩
    match i, hx with
    | 0, hx =>
      simp at hx; subst hx
      exact ⟨_, rfl, tt_rep I3.out trivial q0, fun j u hj => by
        rw [blk_cell q2]
        match j, hj with
        | 0, hj => exact hj
        | 1, hj => exact hj
        | 2, hj => exact hj
        | 3, hj => exact hj
        | j + 4, hj => simp at hj⟩
    | i + 1, hx => simp at hx
  refine (tidy_ok [tt 3] (by simp [Tm.nodesL, tt_nodes]) _ W _ hin).mono ?_
  rintro e w1 ⟨v', rfl, hb1, hr⟩
  rw [tt_tidy] at hr
  obtain ⟨a, cap, b, off, rfl, -, -, -, ha, he⟩ := hr.at
  obtain ⟨rfl, -⟩ := ha (by simp)
  obtain ⟨vs, -, hrep, hrow⟩ := he 0 _ rfl
  obtain ⟨sa, sc, rfl, -, -, -, -, -, -, hsl⟩ := Tm.rep4 hrep
  obtain ⟨-, -, -, c3⟩ := rowAt4 hrow
  obtain ⟨a', cap', b', off', hv', -, -, -, ha', he'⟩ := hsl.at
  obtain ⟨rfl, -⟩ := ha' (by simp [tt, Tm.args])
  obtain ⟨vs', -, hrep', hrow'⟩ := he' 0 (.mk 0 0 ByteArray.empty []) rfl
  rw [Tm.rep_iff] at hrep'
  obtain ⟨-, -, -, u, rfl, -⟩ := hrep'
  obtain ⟨-, d1, -, -⟩ := rowAt4 hrow'
  have hlen : (tt 0).args.length = 2 := rfl
  rw [hlen] at c3 hv'
  simp only [Nat.zero_mul, Nat.add_zero, Value.slice.injEq] at c3 d1 hv'
  obtain ⟨rfl, -, rfl⟩ := hv'
  obtain ⟨y0, y1, y2, y3, -⟩ := blk4 (blk_below q1 hb1)
  have Q0 := hid (blk_below q0 hb1)
  have HB1 := hid (HBW.out.trans (hb1.mono HBW.out.size))
  clear hb1 hr he ha hrep hrow hsl ha' he' hrow' q0 q1 q2 hin hlen HBW
  go_wp2_with fail
  refine (goodT_ok (tt 3) 4 (fun _ => True) w1 [_, _, _, _] I4.out (tt_rep I3.out trivial Q0.out)).mono ?_
  rintro e w2 ⟨v, rfl, hb2, r, rfl, hr⟩
  obtain rfl : r = true := hr.2 ((tt_good 3 4).2 (by omega))
  have c3 := bc hb2 c3
  have d1 := bc hb2 d1
  have y0 := bc hb2 y0
  have y1 := bc hb2 y1
  have y2 := bc hb2 y2
  have y3 := bc hb2 y3
  have Q0 := hid (blk_below Q0.out hb2)
  have HB1 := hid (HB1.out.trans (hb2.mono HB1.out.size))
  clear hb2 hr
  go_wp2_with fail
  refine (goodT_ok (tt 3) 3 (fun _ => True) w2 [_, _, _, _] I3.out (tt_rep I3.out trivial Q0.out)).mono ?_
  rintro e w3 ⟨v, rfl, hb2, r, rfl, hr⟩
  obtain rfl : r = false := by
    cases r with
    | false => rfl
    | true => have := (tt_good 3 3).1 (hr.1 rfl); omega
  have c3 := bc hb2 c3
  have d1 := bc hb2 d1
  have y0 := bc hb2 y0
  have y1 := bc hb2 y1
  have y2 := bc hb2 y2
  have y3 := bc hb2 y3
  have Q0 := hid (blk_below Q0.out hb2)
  have HB1 := hid (HB1.out.trans (hb2.mono HB1.out.size))
  clear hb2 hr
  go_wp2_with fail
  refine (nodes_ok (tt 3) (fun _ => True) w3 [_, _, _, _] (by rw [tt_nodes]; omega) (tt_rep I3.out trivial Q0.out)).mono ?_
  rintro e w4 ⟨v, rfl, hb2, rfl⟩
  rw [tt_nodes]
  have c3 := bc hb2 c3
  have d1 := bc hb2 d1
  have HB1 := hid (HB1.out.trans (hb2.mono HB1.out.size))
  clear hb2 y0 y1 y2 y3
  go_wp2_with fail
  go_ret
  exact ⟨_, rfl, HB1.out, rfl⟩

end Go.Proofs.YtlpmfkpefoegeabDoor
