/-
  ReadQueries: Query and Print answer exactly what P2.1, P2.3 and P2.4 say.
-/
import Derived.Test.YtlpmfkpefoegeacGreatDoorQPs11
import Derived.Test.YtlpmfkpefoegeacGreatDoorQPrT
import Derived.Test.YtlpmfkpefoegeacGreatDoorQSameL
import Derived.Test.YtlpmfkpefoegeacGreatDoorQCopy
import Derived.Test.YtlpmfkpefoegeacGreatDoorQReadsL
namespace Go.Proofs.YtlpmfkpefoegeacGreatDoor
set_option linter.unusedVariables false
set_option linter.unusedSimpArgs false
open Go.RowKit
set_option maxRecDepth 100000 in
set_option maxHeartbeats 16000000 in
theorem readQueries_walk (s : ByteArray) (u : Tm) (hs : s.size ≤ 1048576) (hu : u.nodes ≤ 4194304) (w : World) (us : List Value) (hr : Tm.rep (fun _ => True) w u us) (ht : TabsK w.heap.size w) :
    Calls Tryz.prog 4 #[.string s, .agg us.toArray] w (Pure w (fun r _ => r = .bool true)) := by
  obtain ⟨S, hS⟩ : ∃ S : Str, s = bs S := ⟨s.data.toList, (bs_of s).symm⟩
  subst hS
  rw [bs_size] at hs
  obtain ⟨ua, uc, rfl, -⟩ := Tm.rep4 hr
  have HRS := hid (fun (W : World) (hb : Below w.heap.size w W) => readsL_ok w.heap.size W hb.size (ht.below hb))
  have HRD := hid (fun (W : World) (hb : Below w.heap.size w W) => rquery_ok S hs w.heap.size W hb.size (ht.below hb))
  have HPD := hid (fun (W : World) => show Calls _ _ _ _ (QryPost W (queryR S)) from query_same S ▸ pquery_ok S hs W)
  have HCP := hid (fun (W : World) (hb : Below w.heap.size w W) => copyTerm_ok u (fun _ => True) W _ (Tm.rep_lasts.1 _ _ _ _ _ hr (Keeps.of_below hb)))
  have HPT := hid (fun (W : World) (hb : Below w.heap.size w W) => prt_ok u (fun _ => True) W _ hu (Tm.rep_lasts.1 _ _ _ _ _ hr (Keeps.of_below hb)))
  have HPR := hid (fun (W : World) (hb : Below w.heap.size w W) (A : Nat → Prop) (vs : List Value) (h : Tm.rep A W u vs) => print_ok u w.heap.size A W vs hb.size (ht.below hb) hu h)
  have HB0 := hid ((Below.refl w.heap.size w).alloc (Nat.le_refl _) (.cells #[.int .i64 u.kind, .int .i64 u.n, .string u.s, .slice ua u.args.length uc] 34))
  have HX0 := hid (show (w.alloc (.cells #[.int .i64 u.kind, .int .i64 u.n, .string u.s, .slice ua u.args.length uc] 34)).heap[w.heap.size]? = some (.cells #[.int .i64 u.kind, .int .i64 u.n, .string u.s, .slice ua u.args.length uc] 34 (0, 0)) from blk_new _ _)
  clear ht hs hr hu
  generalize queryR S = rq at *
  obtain ⟨gl, vs, er⟩ := rq
  go_enter Tryz.func4, Tryz.ntmps4
  go_wp2_with fail
  generalize w.alloc (.cells #[.int .i64 u.kind, .int .i64 u.n, .string u.s, .slice ua u.args.length uc] 34) = W0 at *
  refine (HRD.out W0 HB0.out).mono ?_
  rintro e w1 ⟨pv, rfl, hb1, hl1⟩
  have HB1 := hid (HB0.out.trans (hb1.mono HB0.out.size))
  have HL1 : Hid (TmsR _ _ gl _) := hid hl1
  have HX1 := hid (blk_below HX0.out hb1)
  clear hb1 hl1
  go_wp2_with fail
  refine (HPD.out w1).mono ?_
  rintro e w2 ⟨qv, rfl, hb2, hl2⟩
  have HB2 := hid (HB1.out.trans (hb2.mono HB1.out.size))
  have HX2 := hid (blk_below HX1.out hb2)
  have hl2 : TmsR _ _ gl _ := hl2
  have HSP := hid (fun (W : World) (hb : Below w2.heap.size w2 W) => sameTerms_ok gl gl (fun _ => True) W _ _ (SlR.keeps Tm.rep_lasts (SlR.mono Tm.rep_lasts (by omega) (SlR.keeps Tm.rep_lasts HL1.out (Keeps.of_below hb2)) fun _ _ _ => trivial) (Keeps.of_below hb)) (SlR.keeps Tm.rep_lasts (SlR.mono Tm.rep_lasts (by omega) hl2 fun _ _ _ => trivial) (Keeps.of_below hb)))
  have dE : (er == er) = true := by simp
  have dV : (vs == vs) = true := by simp
  obtain ⟨pa, pc, pb, po, rfl, -⟩ := SlR.at HL1.out
  obtain ⟨qa, qc, qb, qo, rfl, -⟩ := SlR.at hl2
  clear hb2 hl2 HRD HPD
  have HCE := hid (fun (W : World) (hb : Below w2.heap.size w2 W) => show W.cell? ⟨w.heap.size, 0, none⟩ = some (.int .i64 u.kind) ∧ W.cell? ⟨w.heap.size, 1, none⟩ = some (.int .i64 u.n) ∧ W.cell? ⟨w.heap.size, 2, none⟩ = some (.string u.s) ∧ W.cell? ⟨w.heap.size, 3, none⟩ = some (.slice ua u.args.length uc) from by
    obtain ⟨y0, y1, y2, y3, -⟩ := blk4 (blk_below HX2.out hb)
    exact ⟨y0, y1, y2, y3⟩)
  go_wp2_with fail
  have hBd : Below w2.heap.size w2 w2.drew := (Below.refl _ _).drew
  have hq := HCE.out w2.drew hBd
  refine wp_region_F (F := fun k W => (k = 14 ∨ k = 17) → (W.cell? ⟨w.heap.size, 0, none⟩ = some (.int .i64 u.kind) ∧ W.cell? ⟨w.heap.size, 1, none⟩ = some (.int .i64 u.n) ∧ W.cell? ⟨w.heap.size, 2, none⟩ = some (.string u.s) ∧ W.cell? ⟨w.heap.size, 3, none⟩ = some (.slice ua u.args.length uc))) (by kernel_rfl) ?_
  refine wpTk (i := 0) (v := ?_) rfl (Or.inl ⟨by rfl, ?_⟩) (fun _ => hq) ?_
  rotate_left
  · (intro w' hw; clear hw; go_simp <;> with_reducible rfl)
  try simp only [Act.put, List.setIfInBounds_toArray, List.set_cons_zero, List.set_cons_succ]
  refine wpTk (i := 1) (v := ?_) rfl (Or.inl ⟨by rfl, ?_⟩) (fun _ => hq) ?_
  rotate_left
  · (intro w' hw; clear hw; go_simp <;> with_reducible rfl)
  try simp only [Act.put, List.setIfInBounds_toArray, List.set_cons_zero, List.set_cons_succ]
  refine wpAnyF_one (i := 2) (by kernel_rfl) (wpOp_run rfl (by rfl) ?_)
  go_simp
  refine (HSP.out _ hBd).mono ?_
  rintro e w3 ⟨v, rfl, hb3, r, rfl, hr⟩
  obtain rfl : r = true := hr.2 (by first | rfl | trivial)
  have hB3 : Below w2.heap.size w2 w3 := hBd.trans (hb3.mono hBd.size)
  have hq3 := HCE.out w3 hB3
  clear hb3 hr hq hBd
  refine ⟨fun _ _ _ _ => hq3, ?_⟩
  refine wpTk (i := 3) (v := ?_) rfl (Or.inl ⟨by rfl, ?_⟩) (fun _ => hq3) ?_
  rotate_left
  · (intro w' hw; clear hw; go_simp <;> with_reducible rfl)
  try simp only [Act.put, List.setIfInBounds_toArray, List.set_cons_zero, List.set_cons_succ]
  refine wpTk (i := 4) (v := ?_) rfl (Or.inl ⟨by rfl, ?_⟩) (fun _ => hq3) ?_
  rotate_left
  · (intro w' hw; clear hw; go_simp <;> with_reducible rfl)
  try simp only [Act.put, List.setIfInBounds_toArray, List.set_cons_zero, List.set_cons_succ]
  refine wpTk (i := 5) (v := ?_) rfl (Or.inl ⟨by rfl, ?_⟩) (fun _ => hq3) ?_
  rotate_left
  · (intro w' hw; clear hw; go_simp <;> with_reducible rfl)
  try simp only [Act.put, List.setIfInBounds_toArray, List.set_cons_zero, List.set_cons_succ]
  refine wpTk (i := 6) (v := .bool true) rfl (Or.inl ⟨by rfl, ?_⟩) (fun _ => hq3) ?_
  · (intro w' hw; clear hw; go_simp)
  try simp only [Act.put, List.setIfInBounds_toArray, List.set_cons_zero, List.set_cons_succ]
  refine wpTk (i := 7) (v := ?_) rfl (Or.inl ⟨by rfl, ?_⟩) (fun _ => hq3) ?_
  rotate_left
  · (intro w' hw; clear hw; go_simp <;> with_reducible rfl)
  try simp only [Act.put, List.setIfInBounds_toArray, List.set_cons_zero, List.set_cons_succ]
  refine wpTk (i := 8) (v := ?_) rfl (Or.inl ⟨by rfl, ?_⟩) (fun _ => hq3) ?_
  rotate_left
  · (intro w' hw; clear hw; go_simp <;> with_reducible rfl)
  try simp only [Act.put, List.setIfInBounds_toArray, List.set_cons_zero, List.set_cons_succ]
  refine wpTk (i := 9) (v := ?_) rfl (Or.inl ⟨by rfl, ?_⟩) (fun _ => hq3) ?_
  rotate_left
  · (intro w' hw; clear hw; go_simp <;> with_reducible rfl)
  try simp only [Act.put, List.setIfInBounds_toArray, List.set_cons_zero, List.set_cons_succ]
  refine wpTk (i := 10) (v := ?_) rfl (Or.inl ⟨by rfl, ?_⟩) (fun _ => hq3) ?_
  rotate_left
  · (intro w' hw; clear hw; go_simp <;> with_reducible rfl)
  try simp only [Act.put, List.setIfInBounds_toArray, List.set_cons_zero, List.set_cons_succ]
  refine wpTk (i := 11) (v := .bool true) rfl (Or.inl ⟨by rfl, ?_⟩) (fun _ => hq3) ?_
  · (intro w' hw; clear hw; go_simp)
  try simp only [Act.put, List.setIfInBounds_toArray, List.set_cons_zero, List.set_cons_succ]
  refine wpTk (i := 12) (v := ?_) rfl (Or.inl ⟨by rfl, ?_⟩) (fun _ => hq3) ?_
  rotate_left
  · (intro w' hw; clear hw; go_simp <;> with_reducible rfl)
  try simp only [Act.put, List.setIfInBounds_toArray, List.set_cons_zero, List.set_cons_succ]
  refine wpTk (i := 13) (v := ?_) rfl (Or.inl ⟨by rfl, ?_⟩) (fun _ => hq3) ?_
  rotate_left
  · (intro w' hw; clear hw; go_simp <;> with_reducible rfl)
  try simp only [Act.put, List.setIfInBounds_toArray, List.set_cons_zero, List.set_cons_succ]
  refine wpTk (i := 14) (v := .agg #[.int .i64 u.kind, .int .i64 u.n, .string u.s, .slice ua u.args.length uc]) rfl (Or.inl ⟨by rfl, ?_⟩) (fun _ => hq3) ?_
  · (intro w' hw; obtain ⟨q0, q1, q2, q3⟩ := hw (by omega); go_simp)
  try simp only [Act.put, List.setIfInBounds_toArray, List.set_cons_zero, List.set_cons_succ]
  refine wpTk (i := 17) (v := .agg #[.int .i64 u.kind, .int .i64 u.n, .string u.s, .slice ua u.args.length uc]) rfl (Or.inl ⟨by rfl, ?_⟩) (fun _ => hq3) ?_
  · (intro w' hw; obtain ⟨q0, q1, q2, q3⟩ := hw (by omega); go_simp)
  try simp only [Act.put, List.setIfInBounds_toArray, List.set_cons_zero, List.set_cons_succ]
  refine wpAnyF_one (i := 15) (by kernel_rfl) (wpOp_run rfl (by rfl) ?_)
  go_simp
  have hW3 : Below w.heap.size w w3 := HB2.out.trans (hB3.mono HB2.out.size)
  refine (HCP.out w3 hW3).mono ?_
  rintro e w4 ⟨v, rfl, hb4, cs, rfl, hcr⟩
  have hB4 : Below w2.heap.size w2 w4 := hB3.trans (hb4.mono hB3.size)
  have hq4 := HCE.out w4 hB4
  obtain ⟨ca, cc, rfl, -⟩ := Tm.rep4 hcr
  have HCR := hid hcr
  clear hb4 hcr hq3 hB3
  refine ⟨fun _ _ _ _ => hq4, ?_⟩
  refine wpAnyF_one (i := 16) (by kernel_rfl) (wpOp_run rfl (by rfl) ?_)
  go_simp
  have hW4 : Below w.heap.size w w4 := HB2.out.trans (hB4.mono HB2.out.size)
  refine (HPR.out w4 hW4 _ _ HCR.out).mono ?_
  rintro e w5 ⟨v, rfl, hb5, rfl⟩
  have hB5 : Below w2.heap.size w2 w5 := hB4.trans (hb5.mono hB4.size)
  have hq5 := HCE.out w5 hB5
  clear hb5 hq4 hB4 hW3 hW4
  refine ⟨fun _ _ _ _ => hq5, ?_⟩
  refine wpAnyF_one (i := 18) (by kernel_rfl) (wpOp_run rfl (by rfl) ?_)
  go_simp
  have hW5 : Below w.heap.size w w5 := HB2.out.trans (hB5.mono HB2.out.size)
  refine (HPT.out w5 hW5).mono ?_
  rintro e w6 ⟨v, rfl, hb6, rfl⟩
  have hB6 : Below w2.heap.size w2 w6 := hB5.trans (hb6.mono hB5.size)
  have hq6 := HCE.out w6 hB6
  clear hb6 hq5 hB5 hW5
  refine ⟨fun _ _ _ _ => hq6, ?_⟩
  refine wpTk (i := 19) (v := .bool true) rfl (Or.inl ⟨by rfl, ?_⟩) (fun _ => hq6) ?_
  · (intro w' hw; clear hw; go_simp)
  try simp only [Act.put, List.setIfInBounds_toArray, List.set_cons_zero, List.set_cons_succ]
  refine wpTk (i := 20) (v := ?_) rfl (Or.inl ⟨by rfl, ?_⟩) (fun _ => hq6) ?_
  rotate_left
  · (intro w' hw; clear hw; go_simp <;> with_reducible rfl)
  try simp only [Act.put, List.setIfInBounds_toArray, List.set_cons_zero, List.set_cons_succ]
  refine wpTk (i := 21) (v := ?_) rfl (Or.inl ⟨by rfl, ?_⟩) (fun _ => hq6) ?_
  rotate_left
  · (intro w' hw; clear hw; go_simp <;> with_reducible rfl)
  try simp only [Act.put, List.setIfInBounds_toArray, List.set_cons_zero, List.set_cons_succ]
  refine wpAnyF_one (i := 22) (by kernel_rfl) (wpOp_run rfl (by rfl) ?_)
  go_simp
  have hW6 : Below w.heap.size w w6 := HB2.out.trans (hB6.mono HB2.out.size)
  refine (HRS.out w6 hW6).mono ?_
  rintro e w7 ⟨r, rfl, hb7, rfl⟩
  have hB7 : Below w2.heap.size w2 w7 := hB6.trans (hb7.mono hB6.size)
  have hq7 := HCE.out w7 hB7
  clear hb7 hq6 hB6 hW6
  refine ⟨fun _ _ _ _ => hq7, ?_⟩
  refine wpTk (i := 23) (v := ?_) rfl (Or.inl ⟨by rfl, ?_⟩) (fun _ => hq7) ?_
  rotate_left
  · (intro w' hw; clear hw; go_simp <;> with_reducible rfl)
  try simp only [Act.put, List.setIfInBounds_toArray, List.set_cons_zero, List.set_cons_succ]
  refine wpAnyF_one (i := 24) (by kernel_rfl) (wpOp_run rfl (by rfl) ?_)
  go_simp
  refine ⟨fun _ _ h => h, wpAnyF_done (by kernel_rfl) ?_ _⟩
  have HB7 := hid (HB2.out.trans (hB7.mono HB2.out.size))
  clear hq7 hB7
  go_wp2_with fail
  go_ret
  exact ⟨_, rfl, HB7.out, rfl⟩
end Go.Proofs.YtlpmfkpefoegeacGreatDoor
