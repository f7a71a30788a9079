/-
  CodeBlocks: blocks of clauses and queries, as the document says.
-/
import Derived.Test.YtlpmfkpefoegeabDoorQCBlock
import Derived.Test.YtlpmfkpefoegeabDoorQCodesL
import Derived.Test.YtlpmfkpefoegeabDoorQClauseCopy
namespace Go.Proofs.YtlpmfkpefoegeabDoor
set_option linter.unusedVariables false
set_option linter.unusedSimpArgs false
open Go.RowKit

set_option maxRecDepth 100000 in
set_option maxHeartbeats 8000000 in
theorem codeBlocks_walk (c : Cl) (hnd : c.nodes ≤ 1048576) (w : World) (us : List Value) (hc : Cl.rep (fun _ => True) w c us) :
    Calls Tryd.prog 6 #[.agg us.toArray] w (Pure w (fun r _ => r = .bool true)) := by
  have hcs := cell_set
  have HCR := hid (fun (W : World) (hb : Below w.heap.size w W) => Cl.rep_lasts.1 _ _ W _ _ (Cl.rep_lasts.2.1 _ (fun b => b < w.heap.size) _ _ _ hc (fun b hb _ => hb)) (Keeps.of_below hb))
  have hnb : Tm.nodesL c.body ≤ 1048576 := by unfold Cl.nodes at hnd; omega
  have HCP := hid (fun (W : World) (hb : Below w.heap.size w W) => clauseCopy_ok c _ W us (HCR.out W hb))
  have HCB := hid (fun (W : World) (hb : Below w.heap.size w W) => cblock_ok c hnd W us (Cl.rep_lasts.2.1 _ (fun b => b < W.heap.size) _ _ _ (HCR.out W hb) (fun b hb _ => hb)))
  have HCC := hid (fun (W : World) (vs : List Value) (h : Cl.rep (fun b => b < W.heap.size) W c vs) => clause_ok c (by omega) W vs h)
  have HQY := hid (fun (W : World) (u : Value) (hi : I64 c.vars) (h : TmsR (fun b => b < W.heap.size) W c.body u) => query_ok c.body c.vars hi (by omega) W u h)
  have HQB := hid (fun (W : World) (u : Value) (hi : I64 c.vars) (h : TmsR (fun b => b < W.heap.size) W c.body u) => qblock_ok c.body c.vars hi (by omega) W u h)
  have HCT := hid (fun (W : World) (u : Value) (A : Nat → Prop) (h : TmsR A W c.body u) => copyTerms_ok c.body A W u h)
  generalize clauseF c = xe at *
  generalize queryF c.body c.vars = ye at *
  obtain ⟨x, ex⟩ := xe
  obtain ⟨y, ey⟩ := ye
  obtain ⟨ha, hac, ba, bac, rfl, -, hbr, hvi⟩ := hc
  have HVI := hid hvi
  have HBR := hid (fun (W : World) (hb : Below w.heap.size w W) => SlR.keeps (w' := W) Tm.rep_lasts (SlR.mono (A' := fun b => b < w.heap.size) Tm.rep_lasts (by omega) hbr (fun b hb _ => hb)) (Keeps.of_below hb))
  clear hbr hvi
  go_enter Tryd.func6, Tryd.ntmps6
  go_wp2_with fail
  obtain ⟨W1, hW1⟩ : ∃ W1, W1 = w.alloc (.cells #[.int .i64 c.head.kind, .int .i64 c.head.n, .string c.head.s, .slice ha c.head.args.length hac, .slice ba c.body.length bac, .int .i64 c.vars] 39) := ⟨_, rfl⟩
  have HB1 := hid (show Below w.heap.size w W1 by rw [hW1]; exact (Below.refl _ _).alloc (Nat.le_refl _) _)
  have hx1 : W1.heap[w.heap.size]? = some (.cells #[.int .i64 c.head.kind, .int .i64 c.head.n, .string c.head.s, .slice ha c.head.args.length hac, .slice ba c.body.length bac, .int .i64 c.vars] 39) := by rw [hW1]; exact blk_new _ _
  obtain ⟨cb, hcb⟩ : ∃ cb, cb = w.heap.size := ⟨_, rfl⟩
  rw [← hcb] at hx1
  have hcw : w.heap.size ≤ cb := by omega
  have HXC := hid (fun (W : World) (hb : Below W1.heap.size W1 W) => (show W.heap[cb]? = some (.cells #[.int .i64 c.head.kind, .int .i64 c.head.n, .string c.head.s, .slice ha c.head.args.length hac, .slice ba c.body.length bac, .int .i64 c.vars] 39) from blk_below hx1 hb))
  rw [← hW1]
  try rw [← hcb]
  clear hW1 hcb hx1
  have hz1 := HB1.out.size
  -- the copy, its block
  refine (HCP.out W1 HB1.out).mono ?_
  rintro e w2 ⟨v, rfl, hb2, us2, rfl, hr2⟩
  have HB2 := hid hb2
  have hz2 := hb2.size
  obtain ⟨c2a, c2b, c2c, c2d, rfl, -⟩ := id hr2
  have HR2 := hid (Cl.rep_lasts.2.1 _ (fun b => b < w2.heap.size) _ _ _ hr2 (fun b hb _ => hb))
  clear hb2 hr2
  go_wp2_with fail
  refine (HCC.out w2 [_, _, _, _, _, _] HR2.out).mono ?_
  rintro e w3 ⟨v, rfl, hb3, cv, gv, rfl, hc3, hg3⟩
  have HB3 := hid (HB2.out.trans (hb3.mono hz2))
  have hz3 := HB3.out.size
  obtain ⟨p1, p2, -, -, hcv, -⟩ := SlR.at hc3
  obtain ⟨p3, p4, -, -, hgv, -⟩ := SlR.at hg3
  simp only at hcv hgv
  subst hcv
  subst hgv
  have HC3 := hid (fun (W : World) (hb : Below w3.heap.size w3 W) => (show CesR (fun _ => True) W x.cells (.slice p1 x.cells.length p2) from SlR.keeps Ce.rep_lasts (SlR.mono Ce.rep_lasts (by omega) hc3 (fun _ _ _ => trivial)) (Keeps.of_below hb)))
  have HG3 := hid (fun (W : World) (hb : Below w3.heap.size w3 W) => (show NumsR (fun _ => True) W x.goals (.slice p3 x.goals.length p4) from SlR.keeps numR_lasts (SlR.mono numR_lasts (by omega) hg3 (fun _ _ _ => trivial)) (Keeps.of_below hb)))
  obtain ⟨x0, x1, x2, x3, x4, x5, xf⟩ := blk6 (HXC.out w3 HB3.out)
  have hcbl := blk_lt (HXC.out w3 HB3.out)
  clear hb3 hc3 hg3
  go_wp2_with fail
  obtain ⟨W4, hW4⟩ : ∃ W4, W4 = w3.alloc (.cells #[.slice p1 x.cells.length p2, .int .i64 x.vars, .int .i64 x.head, .slice p3 x.goals.length p4] 50) := ⟨_, rfl⟩
  have HB4 := hid (show Below w3.heap.size w3 W4 by rw [hW4]; exact (Below.refl _ _).alloc (Nat.le_refl _) _)
  have hx4 : W4.heap[w3.heap.size]? = some (.cells #[.slice p1 x.cells.length p2, .int .i64 x.vars, .int .i64 x.head, .slice p3 x.goals.length p4] 50) := by rw [hW4]; exact blk_new _ _
  obtain ⟨d3, hd3⟩ : ∃ d3, d3 = w3.heap.size := ⟨_, rfl⟩
  rw [← hd3] at hx4
  have HXP := hid (fun (W : World) (hb : Below W4.heap.size W4 W) => (show W.heap[d3]? = some (.cells #[.slice p1 x.cells.length p2, .int .i64 x.vars, .int .i64 x.head, .slice p3 x.goals.length p4] 50) from blk_below hx4 hb))
  rw [← hW4]
  try rw [← hd3]
  have hz4 := HB4.out.size
  have HB14 := hid (HB3.out.trans (HB4.out.mono hz3))
  clear hW4 hd3 hx4 x0 x1 x2 x3 x4 x5 xf hcbl
  try (obtain ⟨x0, x1, x2, x3, x4, x5, xf⟩ := blk6 (HXC.out W4 HB14.out); have hcbl := blk_lt (HXC.out W4 HB14.out); go_wp2_with fail)
  refine (HCB.out W4 (HB1.out.trans (HB14.out.mono hz1))).mono ?_
  rintro e w5 ⟨v, rfl, hb5, cv, gv, rfl, hc5, hg5⟩
  have HB5 := hid hb5
  have HB15 := hid (HB14.out.trans (hb5.mono HB14.out.size))
  have hz5 := hb5.size
  obtain ⟨q1, q2, -, -, hcv, -⟩ := SlR.at hc5
  obtain ⟨q3, q4, -, -, hgv, -⟩ := SlR.at hg5
  simp only at hcv hgv
  subst hcv
  subst hgv
  have HC5 := hid (fun (W : World) (hb : Below w5.heap.size w5 W) => (show CesR (fun _ => True) W x.cells (.slice q1 x.cells.length q2) from SlR.keeps Ce.rep_lasts (SlR.mono Ce.rep_lasts (by omega) hc5 (fun _ _ _ => trivial)) (Keeps.of_below hb)))
  have HG5 := hid (fun (W : World) (hb : Below w5.heap.size w5 W) => (show NumsR (fun _ => True) W x.goals (.slice q3 x.goals.length q4) from SlR.keeps numR_lasts (SlR.mono numR_lasts (by omega) hg5 (fun _ _ _ => trivial)) (Keeps.of_below hb)))
  clear hb5 hc5 hg5
  try clear x0 x1 x2 x3 x4 x5 xf hcbl
  go_wp2_with fail
  obtain ⟨W6, hW6⟩ : ∃ W6, W6 = w5.alloc (.cells #[.slice q1 x.cells.length q2, .int .i64 x.vars, .int .i64 x.head, .slice q3 x.goals.length q4] 50) := ⟨_, rfl⟩
  have HB6 := hid (show Below w5.heap.size w5 W6 by rw [hW6]; exact (Below.refl _ _).alloc (Nat.le_refl _) _)
  have hx6 : W6.heap[w5.heap.size]? = some (.cells #[.slice q1 x.cells.length q2, .int .i64 x.vars, .int .i64 x.head, .slice q3 x.goals.length q4] 50) := by rw [hW6]; exact blk_new _ _
  obtain ⟨d5, hd5⟩ : ∃ d5, d5 = w5.heap.size := ⟨_, rfl⟩
  rw [← hd5] at hx6
  have HXQ := hid (fun (W : World) (hb : Below W6.heap.size W6 W) => (show W.heap[d5]? = some (.cells #[.slice q1 x.cells.length q2, .int .i64 x.vars, .int .i64 x.head, .slice q3 x.goals.length q4] 50) from blk_below hx6 hb))
  rw [← hW6]
  try rw [← hd5]
  have HB56 := hid HB6.out
  have HB16 := hid (HB15.out.trans (HB6.out.mono HB15.out.size))
  have HB46 := hid (HB5.out.trans (HB6.out.mono hz5))
  have HB36 := hid (HB4.out.trans (HB46.out.mono hz4))
  have HBw6 := hid (HB1.out.trans (HB16.out.mono hz1))
  have hw6 := HBw6.out.size
  have hF0 : W6.drew.heap[cb]? = some (.cells #[.int .i64 c.head.kind, .int .i64 c.head.n, .string c.head.s, .slice ha c.head.args.length hac, .slice ba c.body.length bac, .int .i64 c.vars] 39) := HXC.out W6 HB16.out
  clear hW6 hd5 hx6
  go_wp2_with fail
  refine wp_region_F (F := fun k w' => k ≤ 4 → w'.heap[cb]? = some (.cells #[.int .i64 c.head.kind, .int .i64 c.head.n, .string c.head.s, .slice ha c.head.args.length hac, .slice ba c.body.length bac, .int .i64 c.vars] 39)) (by kernel_rfl) ?_
  have HF := hF0
  refine wpAnyF_take (i := 0) (v := ?_) rfl (by kernel_rfl) (by kernel_rfl) (by kernel_rfl) (fun _ _ _ h => h) (Or.inl ⟨by rfl, ?_⟩) (fun _ => HF) ?_
  rotate_left
  · (intro w' hw; clear hw; go_simp <;> with_reducible rfl)
  try simp only [Act.put, List.setIfInBounds_toArray, List.set_cons_zero, List.set_cons_succ]
  refine wpAnyF_take (i := 1) (v := ?_) rfl (by kernel_rfl) (by kernel_rfl) (by kernel_rfl) (fun _ _ _ h => h) (Or.inl ⟨by rfl, ?_⟩) (fun _ => HF) ?_
  rotate_left
  · (intro w' hw; obtain ⟨f0, f1, f2, f3, f4, f5, -⟩ := blk6 (hw (by omega)); clear hw; go_simp <;> with_reducible rfl)
  try simp only [Act.put, List.setIfInBounds_toArray, List.set_cons_zero, List.set_cons_succ]
  refine wpAnyF_take (i := 3) (v := ?_) rfl (by kernel_rfl) (by kernel_rfl) (by kernel_rfl) (fun _ _ _ h => h) (Or.inl ⟨by rfl, ?_⟩) (fun _ => HF) ?_
  rotate_left
  · (intro w' hw; clear hw; go_simp <;> with_reducible rfl)
  try simp only [Act.put, List.setIfInBounds_toArray, List.set_cons_zero, List.set_cons_succ]
  refine wpAnyF_take (i := 4) (v := ?_) rfl (by kernel_rfl) (by kernel_rfl) (by kernel_rfl) (fun _ _ _ h => h) (Or.inl ⟨by rfl, ?_⟩) (fun _ => HF) ?_
  rotate_left
  · (intro w' hw; obtain ⟨f0, f1, f2, f3, f4, f5, -⟩ := blk6 (hw (by omega)); clear hw; go_simp <;> with_reducible rfl)
  try simp only [Act.put, List.setIfInBounds_toArray, List.set_cons_zero, List.set_cons_succ]
  generalize hwd : W6.drew = wd at *
  have HBo_wd := hid (show Below W6.heap.size W6 wd from by rw [← hwd]; exact (Below.refl _ _).drew)
  have HBw_wd := hid (HBw6.out.trans (HBo_wd.out.mono hw6))
  have hsz_wd := HBo_wd.out.size
  clear hwd
  refine wpAnyF_two (i := 2) (j := 9) (by kernel_rfl) (wpOp_run rfl (by rfl) ?_) (wpOp_run rfl (by rfl) ?_)
  · go_simp
    refine (HCT.out wd _ _ (HBR.out wd HBw_wd.out)).mono ?_
    rintro e u2 ⟨tv, rfl, hb9, htv⟩
    have HBa_u2 := HBo_wd.out.trans (hb9.mono hsz_wd)
    have HTV_u2 := hid (SlR.mono (A' := fun b => b < u2.heap.size) Tm.rep_lasts (by omega) htv (fun b hb _ => hb))
    obtain ⟨ta, tc, -, -, htve, -⟩ := SlR.at htv
    subst htve
    refine ⟨fun _ _ _ _ => (HXC.out _ (HB16.out.trans ((hid HBa_u2).out.mono HB16.out.size))), ?_⟩
    clear hb9 htv
    have HBo_u2 := hid (show Below W6.heap.size W6 u2 from HBa_u2)
    have HBw_u2 := hid (HBw6.out.trans (HBo_u2.out.mono hw6))
    have hsz_u2 := HBo_u2.out.size
    clear HBa_u2
    refine wpAnyF_two (i := 5) (j := 9) (by kernel_rfl) (wpOp_run rfl (by rfl) ?_) (wpOp_run rfl (by rfl) ?_)
    · go_simp
      refine (HQY.out u2 _ HVI.out HTV_u2.out).mono ?_
      rintro e u5 ⟨r, rfl, hb8, cv, gv, rfl, hc8, hg8⟩
      simp only at hc8 hg8
      have HBa_u5 := HBo_u2.out.trans (hb8.mono hsz_u2)
      have HCE_u5 := hid (SlR.mono (A' := fun _ => True) Ce.rep_lasts (by omega) hc8 (fun b _ h => trivial))
      have HNE_u5 := hid (SlR.mono (A' := fun _ => True) numR_lasts (by omega) hg8 (fun b _ h => trivial))
      refine ⟨fun _ _ _ _ => (HXC.out _ (HB16.out.trans ((hid HBa_u5).out.mono HB16.out.size))), ?_⟩
      clear hb8 hc8 hg8
      have HBo_u5 := hid (show Below W6.heap.size W6 u5 from HBa_u5)
      have HBw_u5 := hid (HBw6.out.trans (HBo_u5.out.mono hw6))
      have hsz_u5 := HBo_u5.out.size
      clear HBa_u5
      try simp only [Act.put, List.setIfInBounds_toArray, List.set_cons_zero, List.set_cons_succ]
      refine wpAnyF_take (i := 6) (v := ?_) rfl (by kernel_rfl) (by kernel_rfl) (by kernel_rfl) (fun _ _ _ h => h) (Or.inl ⟨by rfl, ?_⟩) (fun h => by omega) ?_
      rotate_left
      · (intro w' hw; clear hw; go_simp <;> with_reducible rfl)
      try simp only [Act.put, List.setIfInBounds_toArray, List.set_cons_zero, List.set_cons_succ]
      refine wpAnyF_take (i := 7) (v := ?_) rfl (by kernel_rfl) (by kernel_rfl) (by kernel_rfl) (fun _ _ _ h => h) (Or.inl ⟨by rfl, ?_⟩) (fun h => by omega) ?_
      rotate_left
      · (intro w' hw; clear hw; go_simp <;> with_reducible rfl)
      try simp only [Act.put, List.setIfInBounds_toArray, List.set_cons_zero, List.set_cons_succ]
      refine wpAnyF_take (i := 8) (v := ?_) rfl (by kernel_rfl) (by kernel_rfl) (by kernel_rfl) (fun _ _ _ h => h) (Or.inl ⟨by rfl, ?_⟩) (fun h => by omega) ?_
      rotate_left
      · (intro w' hw; clear hw; go_simp <;> with_reducible rfl)
      try simp only [Act.put, List.setIfInBounds_toArray, List.set_cons_zero, List.set_cons_succ]
      refine wpAnyF_one (i := 9) (by kernel_rfl) (wpOp_run rfl (by rfl) ?_)
      go_simp
      have HXB_u9 := hid (show (u5.alloc (.cells #[.slice none 0 0, .int .i64 0, .int .i64 0, .slice none 0 0] 50)).heap[u5.heap.size]? = some (.cells #[.slice none 0 0, .int .i64 0, .int .i64 0, .slice none 0 0] 50) from blk_new _ _)
      have HBa_u9 := HBo_u5.out.alloc hsz_u5 (.cells #[.slice none 0 0, .int .i64 0, .int .i64 0, .slice none 0 0] 50)
      have HKa_u9 := Keeps.alloc (fun _ => True) u5 (.cells #[.slice none 0 0, .int .i64 0, .int .i64 0, .slice none 0 0] 50)
      obtain ⟨bb, hbb⟩ : ∃ bb, bb = u5.heap.size := ⟨_, rfl⟩
      rw [← hbb] at HXB_u9
      rw [← hbb]
      have hbbw : W6.heap.size ≤ bb := by omega
      have HCE_u9 := hid (SlR.keeps Ce.rep_lasts (SlR.mono (A' := fun b => b ≠ bb) Ce.rep_lasts (by omega) HCE_u5.out (fun b hb h => by omega)) (HKa_u9.mono (fun _ _ _ => trivial)))
      have HNE_u9 := hid (SlR.keeps numR_lasts (SlR.mono (A' := fun b => b ≠ bb) numR_lasts (by omega) HNE_u5.out (fun b hb h => by omega)) (HKa_u9.mono (fun _ _ _ => trivial)))
      refine ⟨fun _ _ _ _ => (HXC.out _ (HB16.out.trans ((hid HBa_u9).out.mono HB16.out.size))), ?_⟩
      generalize u5.alloc (.cells #[.slice none 0 0, .int .i64 0, .int .i64 0, .slice none 0 0] 50) = u9 at *
      have HBo_u9 := hid (show Below W6.heap.size W6 u9 from HBa_u9)
      have HBw_u9 := hid (HBw6.out.trans (HBo_u9.out.mono hw6))
      have hsz_u9 := HBo_u9.out.size
      clear hbb HBa_u9 HKa_u9
      obtain ⟨r1, r2, _, _, hcv, -⟩ := SlR.at HCE_u9.out
      obtain ⟨r3, r4, _, _, hgv, -⟩ := SlR.at HNE_u9.out
      subst hcv
      subst hgv
      have hbl := blk_lt HXB_u9.out
      obtain ⟨y0, y1, y2, y3, yf⟩ := blk4 HXB_u9.out
      try simp only [Act.put, List.setIfInBounds_toArray, List.set_cons_zero, List.set_cons_succ]
      refine wpAnyF_one (i := 10) (by kernel_rfl) (wpOp_run rfl (by rfl) ?_)
      go_simp
      refine ⟨fun _ _ _ _ => HXC.out _ (HB16.out.trans ((Below.setCell (Below.setCell (Below.setCell (Below.setCell HBo_u9.out hbbw _) hbbw _) hbbw _) hbbw _).mono HB16.out.size)), ?_⟩
      refine wpAnyF_one (i := 11) (by kernel_rfl) (wpOp_run rfl (by rfl) ?_)
      go_simp
      refine ⟨fun _ _ h => h, wpAnyF_done (by kernel_rfl) ?_ _⟩
      obtain ⟨W8, hW8⟩ : ∃ W8, W8 = ((((u9.setCell ⟨bb, 0, none⟩ (.slice r1 y.cells.length r2)).setCell ⟨bb, 1, none⟩ (.int .i64 y.vars)).setCell ⟨bb, 2, none⟩ (.int .i64 y.head)).setCell ⟨bb, 3, none⟩ (.slice r3 y.goals.length r4)) := ⟨_, rfl⟩
      have hx8 : W8.heap[bb]? = some (.cells #[.slice r1 y.cells.length r2, .int .i64 y.vars, .int .i64 y.head, .slice r3 y.goals.length r4] 50) := by
        rw [hW8]; exact (blk_set (blk_set (blk_set (blk_set HXB_u9.out 0 _) 1 _) 2 _) 3 _).trans rfl
      have hk8 : Keeps (fun b => b ≠ bb) u9 W8 := by
        rw [hW8]
        exact ((((Keeps.setCell _ _ _ _ (fun h => h rfl)).trans (Keeps.setCell _ _ _ _ (fun h => h rfl))).trans (Keeps.setCell _ _ _ _ (fun h => h rfl))).trans (Keeps.setCell _ _ _ _ (fun h => h rfl)))
      have HB8 := hid (show Below W6.heap.size W6 W8 by
        rw [hW8]
        exact Below.setCell (Below.setCell (Below.setCell (Below.setCell HBo_u9.out hbbw _) hbbw _) hbbw _) hbbw _)
      have HCE8 := hid (SlR.keeps Ce.rep_lasts HCE_u9.out hk8)
      have HNE8 := hid (SlR.keeps numR_lasts HNE_u9.out hk8)
      have HXR := hid (fun (W : World) (hb : Below W8.heap.size W8 W) => (show W.heap[bb]? = some (.cells #[.slice r1 y.cells.length r2, .int .i64 y.vars, .int .i64 y.head, .slice r3 y.goals.length r4] 50) from blk_below hx8 hb))
      rw [← hW8]
      clear hW8 y0 y1 y2 y3 yf HF hF0 hx8 hk8
      have HBw8 := hid (HBw6.out.trans (HB8.out.mono hw6))
      have HB18 := hid (HB16.out.trans (HB8.out.mono HB16.out.size))
      obtain ⟨x0, x1, x2, x3, x4, x5, xf⟩ := blk6 (HXC.out W8 HB18.out)
      have hcbl := blk_lt (HXC.out W8 HB18.out)
      have hz8 := HB8.out.size
      go_wp2_with fail
      refine (HQB.out W8 _ HVI.out (SlR.mono (A' := fun b => b < W8.heap.size) Tm.rep_lasts (by omega) (HBR.out W8 HBw8.out) (fun b hb _ => hb))).mono ?_
      rintro e w9 ⟨v, rfl, hb9, cv, gv, rfl, hc9, hg9⟩
      have HB9 := hid hb9
      have HB89 := hid (HB8.out.trans (hb9.mono hz8))
      obtain ⟨t1, t2, -, -, hcv, -⟩ := SlR.at hc9
      obtain ⟨t3, t4, -, -, hgv, -⟩ := SlR.at hg9
      simp only at hcv hgv
      subst hcv
      subst hgv
      have HC9 := hid (fun (W : World) (hb : Below w9.heap.size w9 W) => (show CesR (fun _ => True) W y.cells (.slice t1 y.cells.length t2) from SlR.keeps Ce.rep_lasts (SlR.mono Ce.rep_lasts (by omega) hc9 (fun _ _ _ => trivial)) (Keeps.of_below hb)))
      have HG9 := hid (fun (W : World) (hb : Below w9.heap.size w9 W) => (show NumsR (fun _ => True) W y.goals (.slice t3 y.goals.length t4) from SlR.keeps numR_lasts (SlR.mono numR_lasts (by omega) hg9 (fun _ _ _ => trivial)) (Keeps.of_below hb)))
      clear hb9 hc9 hg9 x0 x1 x2 x3 x4 x5 xf hcbl
      have hz9 := HB9.out.size
      have HX3 := hid (HXP.out w9 (HB46.out.trans (HB89.out.mono HB46.out.size)))
      have HX5 := hid (HXQ.out w9 HB89.out)
      have HX7 := hid (HXR.out w9 HB9.out)
      obtain ⟨a0, a1, a2, a3, af⟩ := blk4 HX3.out
      have hal := blk_lt HX3.out
      obtain ⟨e0, e1, e2, e3, ef⟩ := blk4 HX5.out
      have hel := blk_lt HX5.out
      obtain ⟨g0, g1, g2, g3, gf⟩ := blk4 HX7.out
      have hgl := blk_lt HX7.out
      go_wp2_with fail
      obtain ⟨W10, hW10⟩ : ∃ W10, W10 = w9.alloc (.cells #[.slice t1 y.cells.length t2, .int .i64 y.vars, .int .i64 y.head, .slice t3 y.goals.length t4] 50) := ⟨_, rfl⟩
      have HB10 := hid (show Below w9.heap.size w9 W10 by rw [hW10]; exact (Below.refl _ _).alloc (Nat.le_refl _) _)
      have hx10 : W10.heap[w9.heap.size]? = some (.cells #[.slice t1 y.cells.length t2, .int .i64 y.vars, .int .i64 y.head, .slice t3 y.goals.length t4] 50) := by rw [hW10]; exact blk_new _ _
      obtain ⟨d9, hd9⟩ : ∃ d9, d9 = w9.heap.size := ⟨_, rfl⟩
      rw [← hd9] at hx10
      have HXT := hid (fun (W : World) (hb : Below W10.heap.size W10 W) => (show W.heap[d9]? = some (.cells #[.slice t1 y.cells.length t2, .int .i64 y.vars, .int .i64 y.head, .slice t3 y.goals.length t4] 50) from blk_below hx10 hb))
      rw [← hW10]
      try rw [← hd9]
      clear hW10 hd9 hx10 a0 a1 a2 a3 af hal e0 e1 e2 e3 ef hel g0 g1 g2 g3 gf hgl
      have HB610 := hid (HB89.out.trans (HB10.out.mono HB89.out.size))
      have HB810 := hid (HB9.out.trans (HB10.out.mono hz9))
      have hz10 := HB10.out.size
      -- the first two are alike
      refine (sameBlock_same x (fun _ => True) W10 _ _ _ _ (HC3.out W10 (HB36.out.trans (HB610.out.mono HB36.out.size))) (HC5.out W10 (HB56.out.trans (HB610.out.mono HB56.out.size))) (HG3.out W10 (HB36.out.trans (HB610.out.mono HB36.out.size))) (HG5.out W10 (HB56.out.trans (HB610.out.mono HB56.out.size)))).mono ?_
      rintro e w11 ⟨v, rfl, hb11, rfl⟩
      have HB11 := hid hb11
      have HB811 := hid (HB810.out.trans (hb11.mono HB810.out.size))
      have HB911 := hid (HB10.out.trans (hb11.mono hz10))
      have HX7 := hid (HXR.out w11 HB811.out)
      have HX9 := hid (HXT.out w11 hb11)
      obtain ⟨g0, g1, g2, g3, gf⟩ := blk4 HX7.out
      have hgl := blk_lt HX7.out
      obtain ⟨k0, k1, k2, k3, kf⟩ := blk4 HX9.out
      have hkl := blk_lt HX9.out
      have hee : (ex == ex) = true := by simp
      have hee2 : (ey == ey) = true := by simp
      clear hb11
      go_wp2_with fail
      have HCE11 := hid (SlR.keeps Ce.rep_lasts (SlR.mono (A' := fun _ => True) Ce.rep_lasts (by omega) HCE8.out (fun _ _ _ => trivial)) (Keeps.of_below HB811.out))
      have HNE11 := hid (SlR.keeps numR_lasts (SlR.mono (A' := fun _ => True) numR_lasts (by omega) HNE8.out (fun _ _ _ => trivial)) (Keeps.of_below HB811.out))
      refine (sameBlock_same y (fun _ => True) w11 _ _ _ _ HCE11.out (HC9.out w11 HB911.out) HNE11.out (HG9.out w11 HB911.out)).mono ?_
      rintro e w12 ⟨v, rfl, hb12, rfl⟩
      have HB12 := hid (HB811.out.trans (hb12.mono HB811.out.size))
      clear hb12 g0 g1 g2 g3 gf hgl k0 k1 k2 k3 kf hkl
      go_wp2_with fail
      refine (codesL_ok w12).mono ?_
      rintro e w13 ⟨v, rfl, hb13, rfl⟩
      have HBF := hid (HBw8.out.trans ((HB12.out.trans (hb13.mono HB12.out.size)).mono HBw8.out.size))
      clear hb13
      go_wp2_with fail
      go_ret
      exact ⟨_, rfl, HBF.out, rfl⟩
    · go_simp
      have HXB_u5 := hid (show (u2.alloc (.cells #[.slice none 0 0, .int .i64 0, .int .i64 0, .slice none 0 0] 50)).heap[u2.heap.size]? = some (.cells #[.slice none 0 0, .int .i64 0, .int .i64 0, .slice none 0 0] 50) from blk_new _ _)
      have HBa_u5 := HBo_u2.out.alloc hsz_u2 (.cells #[.slice none 0 0, .int .i64 0, .int .i64 0, .slice none 0 0] 50)
      have HKa_u5 := Keeps.alloc (fun _ => True) u2 (.cells #[.slice none 0 0, .int .i64 0, .int .i64 0, .slice none 0 0] 50)
      obtain ⟨bb, hbb⟩ : ∃ bb, bb = u2.heap.size := ⟨_, rfl⟩
      rw [← hbb] at HXB_u5
      rw [← hbb]
      have hbbw : W6.heap.size ≤ bb := by omega
      have HTV_u5 := hid (SlR.mono (A' := fun b => b < (u2.alloc (.cells #[.slice none 0 0, .int .i64 0, .int .i64 0, .slice none 0 0] 50)).heap.size) Tm.rep_lasts (by omega) (SlR.keeps Tm.rep_lasts HTV_u2.out (HKa_u5.mono (fun _ _ _ => trivial))) (fun b hb _ => hb))
      refine ⟨fun _ _ _ _ => (HXC.out _ (HB16.out.trans ((hid HBa_u5).out.mono HB16.out.size))), ?_⟩
      generalize u2.alloc (.cells #[.slice none 0 0, .int .i64 0, .int .i64 0, .slice none 0 0] 50) = u5 at *
      have HBo_u5 := hid (show Below W6.heap.size W6 u5 from HBa_u5)
      have HBw_u5 := hid (HBw6.out.trans (HBo_u5.out.mono hw6))
      have hsz_u5 := HBo_u5.out.size
      clear hbb HBa_u5 HKa_u5
      refine wpAnyF_one (i := 5) (by kernel_rfl) (wpOp_run rfl (by rfl) ?_)
      go_simp
      refine (HQY.out u5 _ HVI.out HTV_u5.out).mono ?_
      rintro e u9 ⟨r, rfl, hb8, cv, gv, rfl, hc8, hg8⟩
      simp only at hc8 hg8
      have HBa_u9 := HBo_u5.out.trans (hb8.mono hsz_u5)
      have HXB_u9 := hid (blk_below HXB_u5.out hb8)
      have hbu_u9 := blk_lt HXB_u5.out
      have HCE_u9 := hid (SlR.mono (A' := fun b => b ≠ bb) Ce.rep_lasts (by omega) hc8 (fun b _ h => by unfold New at h; omega))
      have HNE_u9 := hid (SlR.mono (A' := fun b => b ≠ bb) numR_lasts (by omega) hg8 (fun b _ h => by unfold New at h; omega))
      refine ⟨fun _ _ _ _ => (HXC.out _ (HB16.out.trans ((hid HBa_u9).out.mono HB16.out.size))), ?_⟩
      clear hb8 hc8 hg8
      have HBo_u9 := hid (show Below W6.heap.size W6 u9 from HBa_u9)
      have HBw_u9 := hid (HBw6.out.trans (HBo_u9.out.mono hw6))
      have hsz_u9 := HBo_u9.out.size
      clear HBa_u9
      try simp only [Act.put, List.setIfInBounds_toArray, List.set_cons_zero, List.set_cons_succ]
      refine wpAnyF_take (i := 6) (v := ?_) rfl (by kernel_rfl) (by kernel_rfl) (by kernel_rfl) (fun _ _ _ h => h) (Or.inl ⟨by rfl, ?_⟩) (fun h => by omega) ?_
      rotate_left
      · (intro w' hw; clear hw; go_simp <;> with_reducible rfl)
      try simp only [Act.put, List.setIfInBounds_toArray, List.set_cons_zero, List.set_cons_succ]
      refine wpAnyF_take (i := 7) (v := ?_) rfl (by kernel_rfl) (by kernel_rfl) (by kernel_rfl) (fun _ _ _ h => h) (Or.inl ⟨by rfl, ?_⟩) (fun h => by omega) ?_
      rotate_left
      · (intro w' hw; clear hw; go_simp <;> with_reducible rfl)
      try simp only [Act.put, List.setIfInBounds_toArray, List.set_cons_zero, List.set_cons_succ]
      refine wpAnyF_take (i := 8) (v := ?_) rfl (by kernel_rfl) (by kernel_rfl) (by kernel_rfl) (fun _ _ _ h => h) (Or.inl ⟨by rfl, ?_⟩) (fun h => by omega) ?_
      rotate_left
      · (intro w' hw; clear hw; go_simp <;> with_reducible rfl)
      try simp only [Act.put, List.setIfInBounds_toArray, List.set_cons_zero, List.set_cons_succ]
      obtain ⟨r1, r2, _, _, hcv, -⟩ := SlR.at HCE_u9.out
      obtain ⟨r3, r4, _, _, hgv, -⟩ := SlR.at HNE_u9.out
      subst hcv
      subst hgv
      have hbl := blk_lt HXB_u9.out
      obtain ⟨y0, y1, y2, y3, yf⟩ := blk4 HXB_u9.out
      try simp only [Act.put, List.setIfInBounds_toArray, List.set_cons_zero, List.set_cons_succ]
      refine wpAnyF_one (i := 10) (by kernel_rfl) (wpOp_run rfl (by rfl) ?_)
      go_simp
      refine ⟨fun _ _ _ _ => HXC.out _ (HB16.out.trans ((Below.setCell (Below.setCell (Below.setCell (Below.setCell HBo_u9.out hbbw _) hbbw _) hbbw _) hbbw _).mono HB16.out.size)), ?_⟩
      refine wpAnyF_one (i := 11) (by kernel_rfl) (wpOp_run rfl (by rfl) ?_)
      go_simp
      refine ⟨fun _ _ h => h, wpAnyF_done (by kernel_rfl) ?_ _⟩
      obtain ⟨W8, hW8⟩ : ∃ W8, W8 = ((((u9.setCell ⟨bb, 0, none⟩ (.slice r1 y.cells.length r2)).setCell ⟨bb, 1, none⟩ (.int .i64 y.vars)).setCell ⟨bb, 2, none⟩ (.int .i64 y.head)).setCell ⟨bb, 3, none⟩ (.slice r3 y.goals.length r4)) := ⟨_, rfl⟩
      have hx8 : W8.heap[bb]? = some (.cells #[.slice r1 y.cells.length r2, .int .i64 y.vars, .int .i64 y.head, .slice r3 y.goals.length r4] 50) := by
        rw [hW8]; exact (blk_set (blk_set (blk_set (blk_set HXB_u9.out 0 _) 1 _) 2 _) 3 _).trans rfl
      have hk8 : Keeps (fun b => b ≠ bb) u9 W8 := by
        rw [hW8]
        exact ((((Keeps.setCell _ _ _ _ (fun h => h rfl)).trans (Keeps.setCell _ _ _ _ (fun h => h rfl))).trans (Keeps.setCell _ _ _ _ (fun h => h rfl))).trans (Keeps.setCell _ _ _ _ (fun h => h rfl)))
      have HB8 := hid (show Below W6.heap.size W6 W8 by
        rw [hW8]
        exact Below.setCell (Below.setCell (Below.setCell (Below.setCell HBo_u9.out hbbw _) hbbw _) hbbw _) hbbw _)
      have HCE8 := hid (SlR.keeps Ce.rep_lasts HCE_u9.out hk8)
      have HNE8 := hid (SlR.keeps numR_lasts HNE_u9.out hk8)
      have HXR := hid (fun (W : World) (hb : Below W8.heap.size W8 W) => (show W.heap[bb]? = some (.cells #[.slice r1 y.cells.length r2, .int .i64 y.vars, .int .i64 y.head, .slice r3 y.goals.length r4] 50) from blk_below hx8 hb))
      rw [← hW8]
      clear hW8 y0 y1 y2 y3 yf HF hF0 hx8 hk8
      have HBw8 := hid (HBw6.out.trans (HB8.out.mono hw6))
      have HB18 := hid (HB16.out.trans (HB8.out.mono HB16.out.size))
      obtain ⟨x0, x1, x2, x3, x4, x5, xf⟩ := blk6 (HXC.out W8 HB18.out)
      have hcbl := blk_lt (HXC.out W8 HB18.out)
      have hz8 := HB8.out.size
      go_wp2_with fail
      refine (HQB.out W8 _ HVI.out (SlR.mono (A' := fun b => b < W8.heap.size) Tm.rep_lasts (by omega) (HBR.out W8 HBw8.out) (fun b hb _ => hb))).mono ?_
      rintro e w9 ⟨v, rfl, hb9, cv, gv, rfl, hc9, hg9⟩
      have HB9 := hid hb9
      have HB89 := hid (HB8.out.trans (hb9.mono hz8))
      obtain ⟨t1, t2, -, -, hcv, -⟩ := SlR.at hc9
      obtain ⟨t3, t4, -, -, hgv, -⟩ := SlR.at hg9
      simp only at hcv hgv
      subst hcv
      subst hgv
      have HC9 := hid (fun (W : World) (hb : Below w9.heap.size w9 W) => (show CesR (fun _ => True) W y.cells (.slice t1 y.cells.length t2) from SlR.keeps Ce.rep_lasts (SlR.mono Ce.rep_lasts (by omega) hc9 (fun _ _ _ => trivial)) (Keeps.of_below hb)))
      have HG9 := hid (fun (W : World) (hb : Below w9.heap.size w9 W) => (show NumsR (fun _ => True) W y.goals (.slice t3 y.goals.length t4) from SlR.keeps numR_lasts (SlR.mono numR_lasts (by omega) hg9 (fun _ _ _ => trivial)) (Keeps.of_below hb)))
      clear hb9 hc9 hg9 x0 x1 x2 x3 x4 x5 xf hcbl
      have hz9 := HB9.out.size
      have HX3 := hid (HXP.out w9 (HB46.out.trans (HB89.out.mono HB46.out.size)))
      have HX5 := hid (HXQ.out w9 HB89.out)
      have HX7 := hid (HXR.out w9 HB9.out)
      obtain ⟨a0, a1, a2, a3, af⟩ := blk4 HX3.out
      have hal := blk_lt HX3.out
      obtain ⟨e0, e1, e2, e3, ef⟩ := blk4 HX5.out
      have hel := blk_lt HX5.out
      obtain ⟨g0, g1, g2, g3, gf⟩ := blk4 HX7.out
      have hgl := blk_lt HX7.out
      go_wp2_with fail
      obtain ⟨W10, hW10⟩ : ∃ W10, W10 = w9.alloc (.cells #[.slice t1 y.cells.length t2, .int .i64 y.vars, .int .i64 y.head, .slice t3 y.goals.length t4] 50) := ⟨_, rfl⟩
      have HB10 := hid (show Below w9.heap.size w9 W10 by rw [hW10]; exact (Below.refl _ _).alloc (Nat.le_refl _) _)
      have hx10 : W10.heap[w9.heap.size]? = some (.cells #[.slice t1 y.cells.length t2, .int .i64 y.vars, .int .i64 y.head, .slice t3 y.goals.length t4] 50) := by rw [hW10]; exact blk_new _ _
      obtain ⟨d9, hd9⟩ : ∃ d9, d9 = w9.heap.size := ⟨_, rfl⟩
      rw [← hd9] at hx10
      have HXT := hid (fun (W : World) (hb : Below W10.heap.size W10 W) => (show W.heap[d9]? = some (.cells #[.slice t1 y.cells.length t2, .int .i64 y.vars, .int .i64 y.head, .slice t3 y.goals.length t4] 50) from blk_below hx10 hb))
      rw [← hW10]
      try rw [← hd9]
      clear hW10 hd9 hx10 a0 a1 a2 a3 af hal e0 e1 e2 e3 ef hel g0 g1 g2 g3 gf hgl
      have HB610 := hid (HB89.out.trans (HB10.out.mono HB89.out.size))
      have HB810 := hid (HB9.out.trans (HB10.out.mono hz9))
      have hz10 := HB10.out.size
      -- the first two are alike
      refine (sameBlock_same x (fun _ => True) W10 _ _ _ _ (HC3.out W10 (HB36.out.trans (HB610.out.mono HB36.out.size))) (HC5.out W10 (HB56.out.trans (HB610.out.mono HB56.out.size))) (HG3.out W10 (HB36.out.trans (HB610.out.mono HB36.out.size))) (HG5.out W10 (HB56.out.trans (HB610.out.mono HB56.out.size)))).mono ?_
      rintro e w11 ⟨v, rfl, hb11, rfl⟩
      have HB11 := hid hb11
      have HB811 := hid (HB810.out.trans (hb11.mono HB810.out.size))
      have HB911 := hid (HB10.out.trans (hb11.mono hz10))
      have HX7 := hid (HXR.out w11 HB811.out)
      have HX9 := hid (HXT.out w11 hb11)
      obtain ⟨g0, g1, g2, g3, gf⟩ := blk4 HX7.out
      have hgl := blk_lt HX7.out
      obtain ⟨k0, k1, k2, k3, kf⟩ := blk4 HX9.out
      have hkl := blk_lt HX9.out
      have hee : (ex == ex) = true := by simp
      have hee2 : (ey == ey) = true := by simp
      clear hb11
      go_wp2_with fail
      have HCE11 := hid (SlR.keeps Ce.rep_lasts (SlR.mono (A' := fun _ => True) Ce.rep_lasts (by omega) HCE8.out (fun _ _ _ => trivial)) (Keeps.of_below HB811.out))
      have HNE11 := hid (SlR.keeps numR_lasts (SlR.mono (A' := fun _ => True) numR_lasts (by omega) HNE8.out (fun _ _ _ => trivial)) (Keeps.of_below HB811.out))
      refine (sameBlock_same y (fun _ => True) w11 _ _ _ _ HCE11.out (HC9.out w11 HB911.out) HNE11.out (HG9.out w11 HB911.out)).mono ?_
      rintro e w12 ⟨v, rfl, hb12, rfl⟩
      have HB12 := hid (HB811.out.trans (hb12.mono HB811.out.size))
      clear hb12 g0 g1 g2 g3 gf hgl k0 k1 k2 k3 kf hkl
      go_wp2_with fail
      refine (codesL_ok w12).mono ?_
      rintro e w13 ⟨v, rfl, hb13, rfl⟩
      have HBF := hid (HBw8.out.trans ((HB12.out.trans (hb13.mono HB12.out.size)).mono HBw8.out.size))
      clear hb13
      go_wp2_with fail
      go_ret
      exact ⟨_, rfl, HBF.out, rfl⟩
  · go_simp
    have HXB_u2 := hid (show (wd.alloc (.cells #[.slice none 0 0, .int .i64 0, .int .i64 0, .slice none 0 0] 50)).heap[wd.heap.size]? = some (.cells #[.slice none 0 0, .int .i64 0, .int .i64 0, .slice none 0 0] 50) from blk_new _ _)
    have HBa_u2 := HBo_wd.out.alloc hsz_wd (.cells #[.slice none 0 0, .int .i64 0, .int .i64 0, .slice none 0 0] 50)
    have HKa_u2 := Keeps.alloc (fun _ => True) wd (.cells #[.slice none 0 0, .int .i64 0, .int .i64 0, .slice none 0 0] 50)
    obtain ⟨bb, hbb⟩ : ∃ bb, bb = wd.heap.size := ⟨_, rfl⟩
    rw [← hbb] at HXB_u2
    rw [← hbb]
    have hbbw : W6.heap.size ≤ bb := by omega
    refine ⟨fun _ _ _ _ => (HXC.out _ (HB16.out.trans ((hid HBa_u2).out.mono HB16.out.size))), ?_⟩
    generalize wd.alloc (.cells #[.slice none 0 0, .int .i64 0, .int .i64 0, .slice none 0 0] 50) = u2 at *
    have HBo_u2 := hid (show Below W6.heap.size W6 u2 from HBa_u2)
    have HBw_u2 := hid (HBw6.out.trans (HBo_u2.out.mono hw6))
    have hsz_u2 := HBo_u2.out.size
    clear hbb HBa_u2 HKa_u2
    refine wpAnyF_one (i := 2) (by kernel_rfl) (wpOp_run rfl (by rfl) ?_)
    go_simp
    refine (HCT.out u2 _ _ (HBR.out u2 HBw_u2.out)).mono ?_
    rintro e u5 ⟨tv, rfl, hb9, htv⟩
    have HBa_u5 := HBo_u2.out.trans (hb9.mono hsz_u2)
    have HTV_u5 := hid (SlR.mono (A' := fun b => b < u5.heap.size) Tm.rep_lasts (by omega) htv (fun b hb _ => hb))
    obtain ⟨ta, tc, -, -, htve, -⟩ := SlR.at htv
    subst htve
    have HXB_u5 := hid (blk_below HXB_u2.out hb9)
    refine ⟨fun _ _ _ _ => (HXC.out _ (HB16.out.trans ((hid HBa_u5).out.mono HB16.out.size))), ?_⟩
    clear hb9 htv
    have HBo_u5 := hid (show Below W6.heap.size W6 u5 from HBa_u5)
    have HBw_u5 := hid (HBw6.out.trans (HBo_u5.out.mono hw6))
    have hsz_u5 := HBo_u5.out.size
    clear HBa_u5
    refine wpAnyF_one (i := 5) (by kernel_rfl) (wpOp_run rfl (by rfl) ?_)
    go_simp
    refine (HQY.out u5 _ HVI.out HTV_u5.out).mono ?_
    rintro e u9 ⟨r, rfl, hb8, cv, gv, rfl, hc8, hg8⟩
    simp only at hc8 hg8
    have HBa_u9 := HBo_u5.out.trans (hb8.mono hsz_u5)
    have HXB_u9 := hid (blk_below HXB_u5.out hb8)
    have hbu_u9 := blk_lt HXB_u5.out
    have HCE_u9 := hid (SlR.mono (A' := fun b => b ≠ bb) Ce.rep_lasts (by omega) hc8 (fun b _ h => by unfold New at h; omega))
    have HNE_u9 := hid (SlR.mono (A' := fun b => b ≠ bb) numR_lasts (by omega) hg8 (fun b _ h => by unfold New at h; omega))
    refine ⟨fun _ _ _ _ => (HXC.out _ (HB16.out.trans ((hid HBa_u9).out.mono HB16.out.size))), ?_⟩
    clear hb8 hc8 hg8
    have HBo_u9 := hid (show Below W6.heap.size W6 u9 from HBa_u9)
    have HBw_u9 := hid (HBw6.out.trans (HBo_u9.out.mono hw6))
    have hsz_u9 := HBo_u9.out.size
    clear HBa_u9
    try simp only [Act.put, List.setIfInBounds_toArray, List.set_cons_zero, List.set_cons_succ]
    refine wpAnyF_take (i := 6) (v := ?_) rfl (by kernel_rfl) (by kernel_rfl) (by kernel_rfl) (fun _ _ _ h => h) (Or.inl ⟨by rfl, ?_⟩) (fun h => by omega) ?_
    rotate_left
    · (intro w' hw; clear hw; go_simp <;> with_reducible rfl)
    try simp only [Act.put, List.setIfInBounds_toArray, List.set_cons_zero, List.set_cons_succ]
    refine wpAnyF_take (i := 7) (v := ?_) rfl (by kernel_rfl) (by kernel_rfl) (by kernel_rfl) (fun _ _ _ h => h) (Or.inl ⟨by rfl, ?_⟩) (fun h => by omega) ?_
    rotate_left
    · (intro w' hw; clear hw; go_simp <;> with_reducible rfl)
    try simp only [Act.put, List.setIfInBounds_toArray, List.set_cons_zero, List.set_cons_succ]
    refine wpAnyF_take (i := 8) (v := ?_) rfl (by kernel_rfl) (by kernel_rfl) (by kernel_rfl) (fun _ _ _ h => h) (Or.inl ⟨by rfl, ?_⟩) (fun h => by omega) ?_
    rotate_left
    · (intro w' hw; clear hw; go_simp <;> with_reducible rfl)
    try simp only [Act.put, List.setIfInBounds_toArray, List.set_cons_zero, List.set_cons_succ]
    obtain ⟨r1, r2, _, _, hcv, -⟩ := SlR.at HCE_u9.out
    obtain ⟨r3, r4, _, _, hgv, -⟩ := SlR.at HNE_u9.out
    subst hcv
    subst hgv
    have hbl := blk_lt HXB_u9.out
    obtain ⟨y0, y1, y2, y3, yf⟩ := blk4 HXB_u9.out
    try simp only [Act.put, List.setIfInBounds_toArray, List.set_cons_zero, List.set_cons_succ]
    refine wpAnyF_one (i := 10) (by kernel_rfl) (wpOp_run rfl (by rfl) ?_)
    go_simp
    refine ⟨fun _ _ _ _ => HXC.out _ (HB16.out.trans ((Below.setCell (Below.setCell (Below.setCell (Below.setCell HBo_u9.out hbbw _) hbbw _) hbbw _) hbbw _).mono HB16.out.size)), ?_⟩
    refine wpAnyF_one (i := 11) (by kernel_rfl) (wpOp_run rfl (by rfl) ?_)
    go_simp
    refine ⟨fun _ _ h => h, wpAnyF_done (by kernel_rfl) ?_ _⟩
    obtain ⟨W8, hW8⟩ : ∃ W8, W8 = ((((u9.setCell ⟨bb, 0, none⟩ (.slice r1 y.cells.length r2)).setCell ⟨bb, 1, none⟩ (.int .i64 y.vars)).setCell ⟨bb, 2, none⟩ (.int .i64 y.head)).setCell ⟨bb, 3, none⟩ (.slice r3 y.goals.length r4)) := ⟨_, rfl⟩
    have hx8 : W8.heap[bb]? = some (.cells #[.slice r1 y.cells.length r2, .int .i64 y.vars, .int .i64 y.head, .slice r3 y.goals.length r4] 50) := by
      rw [hW8]; exact (blk_set (blk_set (blk_set (blk_set HXB_u9.out 0 _) 1 _) 2 _) 3 _).trans rfl
    have hk8 : Keeps (fun b => b ≠ bb) u9 W8 := by
      rw [hW8]
      exact ((((Keeps.setCell _ _ _ _ (fun h => h rfl)).trans (Keeps.setCell _ _ _ _ (fun h => h rfl))).trans (Keeps.setCell _ _ _ _ (fun h => h rfl))).trans (Keeps.setCell _ _ _ _ (fun h => h rfl)))
    have HB8 := hid (show Below W6.heap.size W6 W8 by
      rw [hW8]
      exact Below.setCell (Below.setCell (Below.setCell (Below.setCell HBo_u9.out hbbw _) hbbw _) hbbw _) hbbw _)
    have HCE8 := hid (SlR.keeps Ce.rep_lasts HCE_u9.out hk8)
    have HNE8 := hid (SlR.keeps numR_lasts HNE_u9.out hk8)
    have HXR := hid (fun (W : World) (hb : Below W8.heap.size W8 W) => (show W.heap[bb]? = some (.cells #[.slice r1 y.cells.length r2, .int .i64 y.vars, .int .i64 y.head, .slice r3 y.goals.length r4] 50) from blk_below hx8 hb))
    rw [← hW8]
    clear hW8 y0 y1 y2 y3 yf HF hF0 hx8 hk8
    have HBw8 := hid (HBw6.out.trans (HB8.out.mono hw6))
    have HB18 := hid (HB16.out.trans (HB8.out.mono HB16.out.size))
    obtain ⟨x0, x1, x2, x3, x4, x5, xf⟩ := blk6 (HXC.out W8 HB18.out)
    have hcbl := blk_lt (HXC.out W8 HB18.out)
    have hz8 := HB8.out.size
    go_wp2_with fail
    refine (HQB.out W8 _ HVI.out (SlR.mono (A' := fun b => b < W8.heap.size) Tm.rep_lasts (by omega) (HBR.out W8 HBw8.out) (fun b hb _ => hb))).mono ?_
    rintro e w9 ⟨v, rfl, hb9, cv, gv, rfl, hc9, hg9⟩
    have HB9 := hid hb9
    have HB89 := hid (HB8.out.trans (hb9.mono hz8))
    obtain ⟨t1, t2, -, -, hcv, -⟩ := SlR.at hc9
    obtain ⟨t3, t4, -, -, hgv, -⟩ := SlR.at hg9
    simp only at hcv hgv
    subst hcv
    subst hgv
    have HC9 := hid (fun (W : World) (hb : Below w9.heap.size w9 W) => (show CesR (fun _ => True) W y.cells (.slice t1 y.cells.length t2) from SlR.keeps Ce.rep_lasts (SlR.mono Ce.rep_lasts (by omega) hc9 (fun _ _ _ => trivial)) (Keeps.of_below hb)))
    have HG9 := hid (fun (W : World) (hb : Below w9.heap.size w9 W) => (show NumsR (fun _ => True) W y.goals (.slice t3 y.goals.length t4) from SlR.keeps numR_lasts (SlR.mono numR_lasts (by omega) hg9 (fun _ _ _ => trivial)) (Keeps.of_below hb)))
    clear hb9 hc9 hg9 x0 x1 x2 x3 x4 x5 xf hcbl
    have hz9 := HB9.out.size
    have HX3 := hid (HXP.out w9 (HB46.out.trans (HB89.out.mono HB46.out.size)))
    have HX5 := hid (HXQ.out w9 HB89.out)
    have HX7 := hid (HXR.out w9 HB9.out)
    obtain ⟨a0, a1, a2, a3, af⟩ := blk4 HX3.out
    have hal := blk_lt HX3.out
    obtain ⟨e0, e1, e2, e3, ef⟩ := blk4 HX5.out
    have hel := blk_lt HX5.out
    obtain ⟨g0, g1, g2, g3, gf⟩ := blk4 HX7.out
    have hgl := blk_lt HX7.out
    go_wp2_with fail
    obtain ⟨W10, hW10⟩ : ∃ W10, W10 = w9.alloc (.cells #[.slice t1 y.cells.length t2, .int .i64 y.vars, .int .i64 y.head, .slice t3 y.goals.length t4] 50) := ⟨_, rfl⟩
    have HB10 := hid (show Below w9.heap.size w9 W10 by rw [hW10]; exact (Below.refl _ _).alloc (Nat.le_refl _) _)
    have hx10 : W10.heap[w9.heap.size]? = some (.cells #[.slice t1 y.cells.length t2, .int .i64 y.vars, .int .i64 y.head, .slice t3 y.goals.length t4] 50) := by rw [hW10]; exact blk_new _ _
    obtain ⟨d9, hd9⟩ : ∃ d9, d9 = w9.heap.size := ⟨_, rfl⟩
    rw [← hd9] at hx10
    have HXT := hid (fun (W : World) (hb : Below W10.heap.size W10 W) => (show W.heap[d9]? = some (.cells #[.slice t1 y.cells.length t2, .int .i64 y.vars, .int .i64 y.head, .slice t3 y.goals.length t4] 50) from blk_below hx10 hb))
    rw [← hW10]
    try rw [← hd9]
    clear hW10 hd9 hx10 a0 a1 a2 a3 af hal e0 e1 e2 e3 ef hel g0 g1 g2 g3 gf hgl
    have HB610 := hid (HB89.out.trans (HB10.out.mono HB89.out.size))
    have HB810 := hid (HB9.out.trans (HB10.out.mono hz9))
    have hz10 := HB10.out.size
    -- the first two are alike
    refine (sameBlock_same x (fun _ => True) W10 _ _ _ _ (HC3.out W10 (HB36.out.trans (HB610.out.mono HB36.out.size))) (HC5.out W10 (HB56.out.trans (HB610.out.mono HB56.out.size))) (HG3.out W10 (HB36.out.trans (HB610.out.mono HB36.out.size))) (HG5.out W10 (HB56.out.trans (HB610.out.mono HB56.out.size)))).mono ?_
    rintro e w11 ⟨v, rfl, hb11, rfl⟩
    have HB11 := hid hb11
    have HB811 := hid (HB810.out.trans (hb11.mono HB810.out.size))
    have HB911 := hid (HB10.out.trans (hb11.mono hz10))
    have HX7 := hid (HXR.out w11 HB811.out)
    have HX9 := hid (HXT.out w11 hb11)
    obtain ⟨g0, g1, g2, g3, gf⟩ := blk4 HX7.out
    have hgl := blk_lt HX7.out
    obtain ⟨k0, k1, k2, k3, kf⟩ := blk4 HX9.out
    have hkl := blk_lt HX9.out
    have hee : (ex == ex) = true := by simp
    have hee2 : (ey == ey) = true := by simp
    clear hb11
    go_wp2_with fail
    have HCE11 := hid (SlR.keeps Ce.rep_lasts (SlR.mono (A' := fun _ => True) Ce.rep_lasts (by omega) HCE8.out (fun _ _ _ => trivial)) (Keeps.of_below HB811.out))
    have HNE11 := hid (SlR.keeps numR_lasts (SlR.mono (A' := fun _ => True) numR_lasts (by omega) HNE8.out (fun _ _ _ => trivial)) (Keeps.of_below HB811.out))
    refine (sameBlock_same y (fun _ => True) w11 _ _ _ _ HCE11.out (HC9.out w11 HB911.out) HNE11.out (HG9.out w11 HB911.out)).mono ?_
    rintro e w12 ⟨v, rfl, hb12, rfl⟩
    have HB12 := hid (HB811.out.trans (hb12.mono HB811.out.size))
    clear hb12 g0 g1 g2 g3 gf hgl k0 k1 k2 k3 kf hkl
    go_wp2_with fail
    refine (codesL_ok w12).mono ?_
    rintro e w13 ⟨v, rfl, hb13, rfl⟩
    have HBF := hid (HBw8.out.trans ((HB12.out.trans (hb13.mono HB12.out.size)).mono HBw8.out.size))
    clear hb13
    go_wp2_with fail
    go_ret
    exact ⟨_, rfl, HBF.out, rfl⟩
end Go.Proofs.YtlpmfkpefoegeabDoor
