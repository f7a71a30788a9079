/-
  The small question whether package term answers at all.
-/
import Derived.Test.YtlpmfkpefoegeaaQGood
import Derived.Test.YtlpmfkpefoegeaaQNodes
import Derived.Test.YtlpmfkpefoegeaaQTidy
namespace Go.Proofs.Ytlpmfkpefoegeaa
set_option linter.unusedVariables false
set_option linter.unusedSimpArgs false
open Go.RowKit

/-- f(V3, 7) -/
def tt (n : Int) : Tm := .mk 3 0 ⟨#[102]⟩ [.mk 0 n ByteArray.empty [], .mk 2 7 ByteArray.empty []]

theorem tt_rep {w : World} {g : Nat} {E : TypeId} {fr : Nat × Nat} {n : Int} (hn : I64 n) {A : Nat → Prop} (hA : A g)
    (h : w.heap[g]? = some (.cells #[.int .i64 0, .int .i64 n, .string ByteArray.empty, .slice none 0 0, .int .i64 2, .int .i64 7, .string ByteArray.empty, .slice none 0 0] E fr)) :
    Tm.rep A w (tt n) [.int .i64 3, .int .i64 0, .string ⟨#[102]⟩, .slice (some ⟨g, 0, none⟩) 2 2] := by
  have i3 : I64 3 := by unfold I64; omega
  have i0 : I64 0 := by unfold I64; omega
  have i2 : I64 2 := by unfold I64; omega
  have i7 : I64 7 := by unfold I64; omega
  have e0 : ByteArray.empty.size ≤ 1048576 := by decide
  rw [tt, Tm.rep_iff]
  refine ⟨i3, i0, by decide, _, rfl, g, 0, ⟨by simp, .inr ⟨by simp, hA, 2, rfl, by simp, by simp [maxLen]⟩⟩, fun i x hx => ?_⟩
  match i, hx with
  | 0, hx =>
    simp at hx; subst hx
    exact ⟨[.int .i64 0, .int .i64 n, .string ByteArray.empty, .slice none 0 0], rfl, Tm.rep_iff.2 ⟨i0, hn, e0, _, rfl, SlR.nil ..⟩, fun j u hj => by
      rw [blk_cell h]
      match j, hj with
      | 0, hj => exact hj
      | 1, hj => exact hj
      | 2, hj => exact hj
      | 3, hj => exact hj
      | j + 4, hj => simp at hj⟩
  | 1, hx =>
    simp at hx; subst hx
    exact ⟨[.int .i64 2, .int .i64 7, .string ByteArray.empty, .slice none 0 0], rfl, Tm.rep_iff.2 ⟨i2, i7, e0, _, rfl, SlR.nil ..⟩, fun j u hj => by
      rw [blk_cell h]
      match j, hj with
      | 0, hj => exact hj
      | 1, hj => exact hj
      | 2, hj => exact hj
      | 3, hj => exact hj
      | j + 4, hj => simp at hj⟩
  | i + 2, hx => simp at hx

theorem tt_name : IsName ⟨#[102]⟩ := by
  refine .inr ⟨by decide, by decide, fun i h => ?_⟩
  have : i = 0 := by have : (⟨#[102]⟩ : ByteArray).size = 1 := rfl; omega
  subst this
  show (97 : Int) ≤ ((102 : UInt8).toNat : Int) ∧ ((102 : UInt8).toNat : Int) ≤ 122
  decide

theorem tt_good (n v : Int) : (tt n).Good v ↔ (0 ≤ n ∧ n < v) := by
  constructor
  · intro h
    cases h with
    | comp _ _ _ _ _ _ h4 =>
      have := h4 _ (List.mem_cons_self ..)
      cases this with
      | var _ h0 h1 => exact ⟨h0, h1⟩
  · rintro ⟨h0, h1⟩
    refine .comp _ _ tt_name (by decide +kernel) (by simp) (by simp) fun t ht => ?_
    simp only [List.mem_cons, List.not_mem_nil, or_false] at ht
    rcases ht with rfl | rfl
    · exact .var n h0 h1
    · exact .int 7 (by omega) (by omega)

theorem tt_tidy : (Tm.renSL seenF [] [tt 3]).1 = [tt 0] := by
  simp [Tm.renSL, tt, Tm.renS, Tm.num, seenF]

theorem tt_nodes (n : Int) : (tt n).nodes = 3 := by simp [tt, Tm.nodes, Tm.nodesL]

set_option maxHeartbeats 1000000 in
theorem terms_keep (w : World) : Calls Try.prog 19 #[] w (Pure w fun v _ => v = .bool true) := by
  have i3 : I64 3 := by unfold I64; omega
  have i4 : I64 4 := by unfold I64; omega
  have I3 := hid i3
  have I4 := hid i4
  clear i3 i4
  go_enter Try.func19, Try.ntmps19
  go_wp2_with fail
  have hq := heap3 w (.cells #[.int .i64 0, .int .i64 3, .string ⟨#[]⟩, .slice none 0 0, .int .i64 2, .int .i64 7, .string ⟨#[]⟩, .slice none 0 0] 26) (.cells #[.int .i64 3, .int .i64 0, .string ⟨#[102]⟩, .slice (some ⟨w.heap.size, 0, none⟩) 2 2] 26) (.cells #[.int .i64 3, .int .i64 0, .string ⟨#[102]⟩, .slice (some ⟨w.heap.size, 0, none⟩) 2 2] 26)
  generalize hW : ((w.alloc (.cells #[.int .i64 0, .int .i64 3, .string ⟨#[]⟩, .slice none 0 0, .int .i64 2, .int .i64 7, .string ⟨#[]⟩, .slice none 0 0] 26)).alloc (.cells #[.int .i64 3, .int .i64 0, .string ⟨#[102]⟩, .slice (some ⟨w.heap.size, 0, none⟩) 2 2] 26)).alloc (.cells #[.int .i64 3, .int .i64 0, .string ⟨#[102]⟩, .slice (some ⟨w.heap.size, 0, none⟩) 2 2] 26) = W at hq ⊢
  have HBW := hid (show Below w.heap.size w W by subst hW; exact below_pure (below_pure (below_pure (Below.refl _ _))))
  clear hW
  obtain ⟨q0, q1, q2⟩ := hq
  have hin : TmsR (fun _ => True) W [tt 3] (.slice (some ⟨w.heap.size + 1 + 1, 0, none⟩) 1 1) := by
    refine ⟨w.heap.size + 1 + 1, 0, ⟨by simp, .inr ⟨by simp, trivial, 1, rfl, by simp, by simp [maxLen]⟩⟩, fun i x hx => ?_⟩
    match i, hx with
    | 0, hx =>
      simp at hx; subst hx
      exact ⟨_, rfl, tt_rep I3.out trivial q0, fun j u hj => by
        rw [blk_cell q2]
        match j, hj with
        | 0, hj => exact hj
        | 1, hj => exact hj
        | 2, hj => exact hj
        | 3, hj => exact hj
        | j + 4, hj => simp at hj⟩
    | i + 1, hx => simp at hx
  refine (tidy_ok [tt 3] (by simp [Tm.nodesL, tt_nodes]) _ W _ hin).mono ?_
  rintro e w1 ⟨v', rfl, hb1, hr⟩
  rw [tt_tidy] at hr
  obtain ⟨a, cap, b, off, rfl, -, -, -, ha, he⟩ := hr.at
  obtain ⟨rfl, -⟩ := ha (by simp)
  obtain ⟨vs, -, hrep, hrow⟩ := he 0 _ rfl
  obtain ⟨sa, sc, rfl, -, -, -, -, -, -, hsl⟩ := Tm.rep4 hrep
  obtain ⟨-, -, -, c3⟩ := rowAt4 hrow
  obtain ⟨a', cap', b', off', hv', -, -, -, ha', he'⟩ := hsl.at
  obtain ⟨rfl, -⟩ := ha' (by simp [tt, Tm.args])
  obtain ⟨vs', -, hrep', hrow'⟩ := he' 0 (.mk 0 0 ByteArray.empty []) rfl
  rw [Tm.rep_iff] at hrep'
  obtain ⟨-, -, -, u, rfl, -⟩ := hrep'
  obtain ⟨-, d1, -, -⟩ := rowAt4 hrow'
  have hlen : (tt 0).args.length = 2 := rfl
  rw [hlen] at c3 hv'
  simp only [Nat.zero_mul, Nat.add_zero, Value.slice.injEq] at c3 d1 hv'
  obtain ⟨rfl, -, rfl⟩ := hv'
  obtain ⟨y0, y1, y2, y3, -⟩ := blk4 (blk_below q1 hb1)
  have Q0 := hid (blk_below q0 hb1)
  have HB1 := hid (HBW.out.trans (hb1.mono HBW.out.size))
  clear hb1 hr he ha hrep hrow hsl ha' he' hrow' q0 q1 q2 hin hlen HBW
  go_wp2_with fail
  refine (good_ok (tt 3) 4 (fun _ => True) w1 [_, _, _, _] I4.out (tt_rep I3.out trivial Q0.out)).mono ?_
  rintro e w2 ⟨v, rfl, hb2, r, rfl, hr⟩
  obtain rfl : r = true := hr.2 ((tt_good 3 4).2 (by omega))
  have c3 := bc hb2 c3
  have d1 := bc hb2 d1
  have y0 := bc hb2 y0
  have y1 := bc hb2 y1
  have y2 := bc hb2 y2
  have y3 := bc hb2 y3
  have Q0 := hid (blk_below Q0.out hb2)
  have HB1 := hid (HB1.out.trans (hb2.mono HB1.out.size))
  clear hb2 hr
  go_wp2_with fail
  refine (good_ok (tt 3) 3 (fun _ => True) w2 [_, _, _, _] I3.out (tt_rep I3.out trivial Q0.out)).mono ?_
  rintro e w3 ⟨v, rfl, hb2, r, rfl, hr⟩
  obtain rfl : r = false := by
    cases r with
    | false => rfl
    | true => have := (tt_good 3 3).1 (hr.1 rfl); omega
  have c3 := bc hb2 c3
  have d1 := bc hb2 d1
  have y0 := bc hb2 y0
  have y1 := bc hb2 y1
  have y2 := bc hb2 y2
  have y3 := bc hb2 y3
  have Q0 := hid (blk_below Q0.out hb2)
  have HB1 := hid (HB1.out.trans (hb2.mono HB1.out.size))
  clear hb2 hr
  go_wp2_with fail
  refine (nodes_ok (tt 3) (fun _ => True) w3 [_, _, _, _] (by rw [tt_nodes]; omega) (tt_rep I3.out trivial Q0.out)).mono ?_
  rintro e w4 ⟨v, rfl, hb2, rfl⟩
  rw [tt_nodes]
  have c3 := bc hb2 c3
  have d1 := bc hb2 d1
  have HB1 := hid (HB1.out.trans (hb2.mono HB1.out.size))
  clear hb2 y0 y1 y2 y3
  go_wp2_with fail
  go_ret
  exact ⟨_, rfl, HB1.out, rfl⟩

end Go.Proofs.Ytlpmfkpefoegeaa
