/-
  The solver: look.
-/
import Derived.Test.YtlpmfkpefoegeabQSolve1
namespace Go.Proofs.Ytlpmfkpefoegeab
set_option linter.unusedVariables false
set_option linter.unusedSimpArgs false
open Go.RowKit

/-- a term comes back -/
def TmPost (A : Nat → Prop) (w : World) (t : Tm) (e : Ending) (w' : World) : Prop := ∃ v, e = .returned v ∧ Below w.heap.size w w' ∧ TmV A w' t v

set_option maxRecDepth 100000 in
set_option maxHeartbeats 4000000 in
theorem slook_ok {base : Nat} {P : List Cl} {q g mb xb : Nat} {pv tv cv ov : Value} {s : Sv} {N : Int} (t : Tm) (A : Nat → Prop) (w : World) (vs : List Value) (h : SvI base P q g mb xb pv tv cv ov s w) (hE : EnvOk N s.env) (ht : t.In N) (hen : EnvR A w mb s.env) (hv : Tm.rep A w t vs) :
    Calls Try.prog 77 #[.pointer (some ⟨g, 0, none⟩), .agg vs.toArray] w (TmPost A w (slook s.env t)) := by
  have HU := hid h
  have HE := hid hE
  have HT := hid ht
  have HV := hid hv
  obtain ⟨a, cap, rfl, -⟩ := Tm.rep4 hv
  have hlt := h.lt
  obtain ⟨hl1, hl2, hl3⟩ := hlt
  have HV' := hid (Tm.rep_lasts.2.1 _ (fun b => A b ∧ b < w.heap.size) _ _ _ hv fun b hb hA => ⟨hA, hb⟩)
  obtain ⟨L, hM0, hL0⟩ := hen
  have HM0 := hid hM0
  have HL0 := hid (hL0.mono (A' := fun b => A b ∧ b < w.heap.size) fun b hb hA => ⟨hA, hb⟩)
  clear h hE ht hv hM0 hL0
  go_enter Try.func77, Try.ntmps77
  go_wp2_with fail
  have HB0 := hid (((Below.refl _ w).alloc (Nat.le_refl _) (.cells #[.int .i64 t.kind, .int .i64 t.n, .string t.s, .slice a t.args.length cap] 24)).alloc (by simp) (.cells #[.int .i64 0, .int .i64 0, .string ByteArray.empty, .slice none 0 0] 24))
  have HX0 := hid (heap2 w (.cells #[.int .i64 t.kind, .int .i64 t.n, .string t.s, .slice a t.args.length cap] 24) (.cells #[.int .i64 0, .int .i64 0, .string ByteArray.empty, .slice none 0 0] 24))
  go_loopw [5] (fun _ wr => ∃ (t' : Tm) (a' : Option Addr) (cap' : Nat), Below w.heap.size w wr ∧ wr.heap[w.heap.size]? = some (.cells #[.int .i64 t'.kind, .int .i64 t'.n, .string t'.s, .slice a' t'.args.length cap'] 24 (0, 0)) ∧ wr.heap[w.heap.size + 1]? = some (.cells #[.int .i64 0, .int .i64 0, .string ByteArray.empty, .slice none 0 0] 24 (0, 0)) ∧
      Tm.rep (fun b => A b ∧ b < w.heap.size) wr t' [.int .i64 t'.kind, .int .i64 t'.n, .string t'.s, .slice a' t'.args.length cap'] ∧ t'.In N ∧ slook s.env t' = slook s.env t) (fun _ wr => boxMu w.heap.size wr)
  case atStart => exact ⟨t, a, cap, HB0.out, HX0.out.1, HX0.out.2, Tm.rep_lasts.1 _ _ _ _ _ HV'.out (Keeps.of_below HB0.out), HT.out, rfl⟩
  case round =>
    obtain ⟨t', a', cap', hb, hx, hy, hr, hin, hsl⟩ := hrel
    have HB := hid hb
    have HX := hid hx
    have HY := hid hy
    have HR := hid hr
    have HIN := hid hin
    have HSL := hid hsl
    have hz := blk_lt hy
    have hz0 : w.heap.size < wr.heap.size := by omega
    have hzg : g < wr.heap.size := by omega
    have hU := HU.out.below hb
    obtain ⟨x0, x1, x2, x3, xf⟩ := blk4 hx
    obtain ⟨y0, y1, y2, y3, yf⟩ := blk4 hy
    obtain ⟨b0, b1, -, -, -, -, -, -, bf⟩ := box8 hU.box
    have hcs := cell_set
    have HUW := hid hU
    clear hb hx hy hr hin hsl hU
    by_cases hk : t'.kind = 0
    · rw [hk] at x0
      have hnn := (HIN.out.n hk).1
      have hM := HM0.out.keeps (Keeps.of_below (A := fun _ => True) HB.out) trivial
      have hL := HL0.out.keeps (Keeps.of_below HB.out)
      have HK := hid hk
      rcases hL.get t'.n with ⟨e1, e2⟩ | ⟨z, zv, e1, e2, hz2⟩
      · have HRES := hid (HSL.out.symm.trans (slook_stop (.inr e1)))
        have HLK := hid (fun (W : World) (hW : Below wr.drew.heap.size wr.drew W) => (by
          have := run_mlookup_ok (n := t'.n) tyEnv (hM.keeps ((Keeps.drew (fun _ => True) wr).trans (Keeps.of_below hW)) trivial)
          rw [e2] at this
          exact this : (Instr.lookup 90 (.map (some mb)) (.int .i64 t'.n) true).run Try.prog W = .ok (.tuple #[.agg #[.int .i64 0, .int .i64 0, .string ByteArray.empty, .slice none 0 0], .bool false]) W))
        clear hk e1 e2 hM hL
        go_wp2_with fail
        refine wp_region_F (F := fun _ w' => Below wr.drew.heap.size wr.drew w') (by kernel_rfl) ?_
        have HF : Below wr.drew.heap.size wr.drew wr.drew := Below.refl _ _
        refine wpAnyF_take (i := 0) (v := ?_) rfl (by kernel_rfl) (by kernel_rfl) (by kernel_rfl) (fun _ _ _ h => h) (Or.inl ⟨by rfl, ?_⟩) HF ?_
        rotate_left
        · (intro w' hw; clear hw; go_simp <;> with_reducible rfl)
        try simp only [Act.put, List.setIfInBounds_toArray, List.set_cons_zero, List.set_cons_succ]
        refine wpAnyF_take (i := 1) (v := ?_) rfl (by kernel_rfl) (by kernel_rfl) (by kernel_rfl) (fun _ _ _ h => h) (Or.inl ⟨by rfl, ?_⟩) HF ?_
        rotate_left
        · (intro w' hw; clear hw; go_simp <;> with_reducible rfl)
        try simp only [Act.put, List.setIfInBounds_toArray, List.set_cons_zero, List.set_cons_succ]
        refine wpAnyF_take (i := 2) (v := ?_) rfl (by kernel_rfl) (by kernel_rfl) (by kernel_rfl) (fun _ _ _ h => h) (Or.inl ⟨by rfl, ?_⟩) HF ?_
        rotate_left
        · (intro w' hw; clear hw; go_simp <;> with_reducible rfl)
        try simp only [Act.put, List.setIfInBounds_toArray, List.set_cons_zero, List.set_cons_succ]
        refine wpAnyF_take (i := 3) (v := ?_) rfl (by kernel_rfl) (by kernel_rfl) (by kernel_rfl) (fun _ _ _ h => h) (Or.inl ⟨by rfl, ?_⟩) HF ?_
        rotate_left
        · (intro w' hw; have q1 := (hw.cell (p := ⟨g, 1, none⟩) (by simp only [World.size_drew]; omega)).trans b1; clear hw; go_simp <;> with_reducible rfl)
        try simp only [Act.put, List.setIfInBounds_toArray, List.set_cons_zero, List.set_cons_succ]
        refine wpAnyF_take (i := 4) (v := ?_) rfl (by kernel_rfl) (by kernel_rfl) (by kernel_rfl) (fun _ _ _ h => h) (Or.inl ⟨by rfl, ?_⟩) HF ?_
        rotate_left
        · (intro w' hw; clear hw; go_simp <;> with_reducible rfl)
        try simp only [Act.put, List.setIfInBounds_toArray, List.set_cons_zero, List.set_cons_succ]
        refine wpAnyF_take (i := 5) (v := ?_) rfl (by kernel_rfl) (by kernel_rfl) (by kernel_rfl) (fun _ _ _ h => h) (Or.inl ⟨by rfl, ?_⟩) HF ?_
        rotate_left
        · (intro w' hw; have q1 := (hw.cell (p := ⟨w.heap.size, 1, none⟩) (by simp only [World.size_drew]; omega)).trans x1; clear hw; go_simp <;> with_reducible rfl)
        try simp only [Act.put, List.setIfInBounds_toArray, List.set_cons_zero, List.set_cons_succ]
        refine wpAnyF_take (i := 6) (v := .tuple #[.agg #[.int .i64 0, .int .i64 0, .string ByteArray.empty, .slice none 0 0], .bool false]) rfl (by kernel_rfl) (by kernel_rfl) (by kernel_rfl) (fun _ _ _ h => h) (Or.inl ⟨by rfl, ?_⟩) HF ?_
        · (intro w' hw; have q1 := HLK.out w' hw; clear hw; go_simp)
        try simp only [Act.put, List.setIfInBounds_toArray, List.set_cons_zero, List.set_cons_succ]
        refine wpAnyF_take (i := 7) (v := ?_) rfl (by kernel_rfl) (by kernel_rfl) (by kernel_rfl) (fun _ _ _ h => h) (Or.inl ⟨by rfl, ?_⟩) HF ?_
        rotate_left
        · (intro w' hw; clear hw; go_simp <;> with_reducible rfl)
        try simp only [Act.put, List.setIfInBounds_toArray, List.set_cons_zero, List.set_cons_succ]
        refine wpAnyF_take (i := 8) (v := ?_) rfl (by kernel_rfl) (by kernel_rfl) (by kernel_rfl) (fun _ _ _ h => h) (Or.inl ⟨by rfl, ?_⟩) HF ?_
        rotate_left
        · (intro w' hw; clear hw; go_simp <;> with_reducible rfl)
        try simp only [Act.put, List.setIfInBounds_toArray, List.set_cons_zero, List.set_cons_succ]
        refine wpAnyF_take (i := 9) (v := ?_) rfl (by kernel_rfl) (by kernel_rfl) (by kernel_rfl) (fun _ _ _ h => h) (Or.inl ⟨by rfl, ?_⟩) HF ?_
        rotate_left
        · (intro w' hw; clear hw; go_simp <;> with_reducible rfl)
        try simp only [Act.put, List.setIfInBounds_toArray, List.set_cons_zero, List.set_cons_succ]
        refine wpAnyF_one (i := 10) (by kernel_rfl) (wpOp_run rfl (by rfl) ?_)
        go_simp
        refine ⟨fun _ _ h => h.alloc (Nat.le_refl _) _, ?_⟩
        refine wpAnyF_one (i := 11) (by kernel_rfl) (wpOp_run rfl (by rfl) ?_)
        go_simp
        refine ⟨fun _ _ _ => (Below.refl _ wr.drew).alloc (Nat.le_refl _) _, ?_⟩
        refine wpAnyF_one (i := 12) (by kernel_rfl) (wpOp_run rfl (by rfl) ?_)
        go_simp
        refine ⟨fun _ _ h => h, ?_⟩
        refine wpAnyF_done (by kernel_rfl) ?_ _
        go_wp2_with fail
        refine bodyPost_ret (v := .agg #[.int .i64 0, .int .i64 t'.n, .string t'.s, .slice a' t'.args.length cap']) (by simp [results, Try.results77, go_sem, hcs, y0, y1, y2, y3, hz]) rfl ⟨_, rfl, ?_, _, rfl, ?_⟩
        · exact ((below_set4 HB.out (by omega) _ _ _ _).alloc (by simp; omega) _).drew
        · rw [HRES.out]
          have hr := HR.out
          rw [HK.out] at hr
          exact Tm.rep_lasts.2.1 _ _ _ _ _ (Tm.rep_lasts.1 _ _ _ _ _ hr (((keeps_set4 _ _ (fun h => by omega) _ _ _ _).trans (Keeps.alloc _ _ _)).trans (Keeps.drew _ _))) fun b _ h => h.1
      · obtain ⟨zs, rfl, hzr⟩ := hz2
        have HZR := hid hzr
        obtain ⟨za, zc, rfl, -⟩ := Tm.rep4 hzr
        have HNX := hid ((slook_step HE.out HIN.out hk e1).symm.trans HSL.out)
        have HZI := hid (show z.In N from HE.out.tm _ (eget_mem e1))
        have HLS := hid (show z.kind = 0 → z.n < t'.n from HE.out.less _ (eget_mem e1))
        have HLK := hid (fun (W : World) (hW : Below wr.drew.heap.size wr.drew W) => (by
          have := run_mlookup_ok (n := t'.n) tyEnv (hM.keeps ((Keeps.drew (fun _ => True) wr).trans (Keeps.of_below hW)) trivial)
          rw [e2] at this
          exact this : (Instr.lookup 90 (.map (some mb)) (.int .i64 t'.n) true).run Try.prog W = .ok (.tuple #[.agg #[.int .i64 z.kind, .int .i64 z.n, .string z.s, .slice za z.args.length zc], .bool true]) W))
        clear hk e1 e2 hM hL hzr
        go_wp2_with fail
        refine wp_region_F (F := fun _ w' => Below wr.drew.heap.size wr.drew w') (by kernel_rfl) ?_
        have HF : Below wr.drew.heap.size wr.drew wr.drew := Below.refl _ _
        refine wpAnyF_take (i := 0) (v := ?_) rfl (by kernel_rfl) (by kernel_rfl) (by kernel_rfl) (fun _ _ _ h => h) (Or.inl ⟨by rfl, ?_⟩) HF ?_
        rotate_left
        · (intro w' hw; clear hw; go_simp <;> with_reducible rfl)
        try simp only [Act.put, List.setIfInBounds_toArray, List.set_cons_zero, List.set_cons_succ]
        refine wpAnyF_take (i := 1) (v := ?_) rfl (by kernel_rfl) (by kernel_rfl) (by kernel_rfl) (fun _ _ _ h => h) (Or.inl ⟨by rfl, ?_⟩) HF ?_
        rotate_left
        · (intro w' hw; clear hw; go_simp <;> with_reducible rfl)
        try simp only [Act.put, List.setIfInBounds_toArray, List.set_cons_zero, List.set_cons_succ]
        refine wpAnyF_take (i := 2) (v := ?_) rfl (by kernel_rfl) (by kernel_rfl) (by kernel_rfl) (fun _ _ _ h => h) (Or.inl ⟨by rfl, ?_⟩) HF ?_
        rotate_left
        · (intro w' hw; clear hw; go_simp <;> with_reducible rfl)
        try simp only [Act.put, List.setIfInBounds_toArray, List.set_cons_zero, List.set_cons_succ]
        refine wpAnyF_take (i := 3) (v := ?_) rfl (by kernel_rfl) (by kernel_rfl) (by kernel_rfl) (fun _ _ _ h => h) (Or.inl ⟨by rfl, ?_⟩) HF ?_
        rotate_left
        · (intro w' hw; have q1 := (hw.cell (p := ⟨g, 1, none⟩) (by simp only [World.size_drew]; omega)).trans b1; clear hw; go_simp <;> with_reducible rfl)
        try simp only [Act.put, List.setIfInBounds_toArray, List.set_cons_zero, List.set_cons_succ]
        refine wpAnyF_take (i := 4) (v := ?_) rfl (by kernel_rfl) (by kernel_rfl) (by kernel_rfl) (fun _ _ _ h => h) (Or.inl ⟨by rfl, ?_⟩) HF ?_
        rotate_left
        · (intro w' hw; clear hw; go_simp <;> with_reducible rfl)
        try simp only [Act.put, List.setIfInBounds_toArray, List.set_cons_zero, List.set_cons_succ]
        refine wpAnyF_take (i := 5) (v := ?_) rfl (by kernel_rfl) (by kernel_rfl) (by kernel_rfl) (fun _ _ _ h => h) (Or.inl ⟨by rfl, ?_⟩) HF ?_
        rotate_left
        · (intro w' hw; have q1 := (hw.cell (p := ⟨w.heap.size, 1, none⟩) (by simp only [World.size_drew]; omega)).trans x1; clear hw; go_simp <;> with_reducible rfl)
        try simp only [Act.put, List.setIfInBounds_toArray, List.set_cons_zero, List.set_cons_succ]
        refine wpAnyF_take (i := 6) (v := .tuple #[.agg #[.int .i64 z.kind, .int .i64 z.n, .string z.s, .slice za z.args.length zc], .bool true]) rfl (by kernel_rfl) (by kernel_rfl) (by kernel_rfl) (fun _ _ _ h => h) (Or.inl ⟨by rfl, ?_⟩) HF ?_
        · (intro w' hw; have q1 := HLK.out w' hw; clear hw; go_simp)
        try simp only [Act.put, List.setIfInBounds_toArray, List.set_cons_zero, List.set_cons_succ]
        refine wpAnyF_take (i := 7) (v := ?_) rfl (by kernel_rfl) (by kernel_rfl) (by kernel_rfl) (fun _ _ _ h => h) (Or.inl ⟨by rfl, ?_⟩) HF ?_
        rotate_left
        · (intro w' hw; clear hw; go_simp <;> with_reducible rfl)
        try simp only [Act.put, List.setIfInBounds_toArray, List.set_cons_zero, List.set_cons_succ]
        refine wpAnyF_take (i := 8) (v := ?_) rfl (by kernel_rfl) (by kernel_rfl) (by kernel_rfl) (fun _ _ _ h => h) (Or.inl ⟨by rfl, ?_⟩) HF ?_
        rotate_left
        · (intro w' hw; clear hw; go_simp <;> with_reducible rfl)
        try simp only [Act.put, List.setIfInBounds_toArray, List.set_cons_zero, List.set_cons_succ]
        refine wpAnyF_take (i := 9) (v := ?_) rfl (by kernel_rfl) (by kernel_rfl) (by kernel_rfl) (fun _ _ _ h => h) (Or.inl ⟨by rfl, ?_⟩) HF ?_
        rotate_left
        · (intro w' hw; clear hw; go_simp <;> with_reducible rfl)
        try simp only [Act.put, List.setIfInBounds_toArray, List.set_cons_zero, List.set_cons_succ]
        refine wpAnyF_one (i := 10) (by kernel_rfl) (wpOp_run rfl (by rfl) ?_)
        go_simp
        refine ⟨fun _ _ h => h.alloc (Nat.le_refl _) _, ?_⟩
        refine wpAnyF_one (i := 11) (by kernel_rfl) (wpOp_run rfl (by rfl) ?_)
        go_simp
        refine ⟨fun _ _ _ => (Below.refl _ wr.drew).alloc (Nat.le_refl _) _, ?_⟩
        refine wpAnyF_one (i := 12) (by kernel_rfl) (wpOp_run rfl (by rfl) ?_)
        go_simp
        refine ⟨fun _ _ h => h, ?_⟩
        refine wpAnyF_done (by kernel_rfl) ?_ _
        go_wp2_with fail
        go_roundw
        case rel =>
          refine ⟨z, za, zc, ((below_set4 HB.out (Nat.le_refl _) _ _ _ _).alloc (by simp; omega) _).drew, blk_alloc (set4 HX.out) _, blk_alloc ((set4_other _ _ _ _ _ _ _ (by omega)).trans HY.out) _, ?_, HZI.out, HNX.out⟩
          exact Tm.rep_lasts.1 _ _ _ _ _ HZR.out (((keeps_set4 _ _ (fun h => by omega) _ _ _ _).trans (Keeps.alloc _ _ _)).trans (Keeps.drew _ _))
        case measure =>
          have e1 := boxMu_of HX.out
          rw [HK.out] at e1
          have e2 := fun o => boxMu_of (w := (((((wr.setCell _ _).setCell _ _).setCell _ _).setCell _ _).alloc o).drew) (blk_alloc (set4 (v0 := .int .i64 z.kind) (v1 := .int .i64 z.n) (v2 := .string z.s) (v3 := .slice za z.args.length zc) HX.out) o)
          have h3 := HLS.out
          have h4 := HZI.out.n
          rw [e1, e2]
          by_cases e : z.kind = 0
          · have := h3 e
            have := h4 e
            rw [if_pos e, if_pos rfl]; omega
          · rw [if_neg e, if_pos rfl]; omega
    · have hk' : (t'.kind == 0) = false := by simpa using hk
      have HRES := hid (HSL.out.symm.trans (slook_stop (.inl hk)))
      clear hk
      go_wp2_with fail
      refine bodyPost_ret (v := .agg #[.int .i64 t'.kind, .int .i64 t'.n, .string t'.s, .slice a' t'.args.length cap']) (by simp [results, Try.results77, go_sem, hcs, y0, y1, y2, y3]) rfl ⟨_, rfl, below_set4 HB.out (by omega) _ _ _ _, _, rfl, ?_⟩
      rw [HRES.out]
      exact Tm.rep_lasts.2.1 _ _ _ _ _ (Tm.rep_lasts.1 _ _ _ _ _ HR.out (keeps_set4 _ _ (fun h => by omega) _ _ _ _)) fun b _ h => h.1
end Go.Proofs.Ytlpmfkpefoegeab
