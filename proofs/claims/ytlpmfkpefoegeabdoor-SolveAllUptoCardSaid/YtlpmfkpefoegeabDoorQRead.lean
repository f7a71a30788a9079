/-
  The solver: look.
  The solver: in, bind.
  What Undo, Cut and Term answer, in plain data.
  heap.read: the term at a place.
-/
import Derived.Test.YtlpmfkpefoegeabDoorQSolve1
import Derived.Test.YtlpmfkpefoegeabDoorQIsHeap
import Derived.Test.YtlpmfkpefoegeabDoorQShift
import Derived.Test.YtlpmfkpefoegeabDoorQUbind
import Derived.Test.YtlpmfkpefoegeabDoorQNamed
namespace Go.Proofs.YtlpmfkpefoegeabDoor
set_option linter.unusedVariables false
set_option linter.unusedSimpArgs false
open Go.RowKit
def TmPost (A : Nat → Prop) (w : World) (t : Tm) (e : Ending) (w' : World) : Prop := ∃ v, e = .returned v ∧ Below w.heap.size w w' ∧ TmV A w' t v
set_option maxRecDepth 100000 in
set_option maxHeartbeats 4000000 in
theorem slook_ok {base : Nat} {P : List Cl} {q g mb xb : Nat} {pv tv cv ov : Value} {s : Sv} {N : Int} (t : Tm) (A : Nat → Prop) (w : World) (vs : List Value) (h : SvI base P q g mb xb pv tv cv ov s w) (hE : EnvOk N s.env) (ht : t.In N) (hen : EnvR A w mb s.env) (hv : Tm.rep A w t vs) :
    Calls Tryd.prog 120 #[.pointer (some ⟨g, 0, none⟩), .agg vs.toArray] w (TmPost A w (slook s.env t)) := by
  have HU := hid h
  have HE := hid hE
  have HT := hid ht
  have HV := hid hv
  obtain ⟨a, cap, rfl, -⟩ := Tm.rep4 hv
  have hlt := h.lt
  obtain ⟨hl1, hl2, hl3⟩ := hlt
  have HV' := hid (Tm.rep_lasts.2.1 _ (fun b => A b ∧ b < w.heap.size) _ _ _ hv fun b hb hA => ⟨hA, hb⟩)
  obtain ⟨L, hM0, hL0⟩ := hen
  have HM0 := hid hM0
  have HL0 := hid (hL0.mono (A' := fun b => A b ∧ b < w.heap.size) fun b hb hA => ⟨hA, hb⟩)
  clear h hE ht hv hM0 hL0
  go_enter Tryd.func120, Tryd.ntmps120
  go_wp2_with fail
  have HB0 := hid (((Below.refl _ w).alloc (Nat.le_refl _) (.cells #[.int .i64 t.kind, .int .i64 t.n, .string t.s, .slice a t.args.length cap] 31)).alloc (by simp) (.cells #[.int .i64 0, .int .i64 0, .string ByteArray.empty, .slice none 0 0] 31))
  have HX0 := hid (heap2 w (.cells #[.int .i64 t.kind, .int .i64 t.n, .string t.s, .slice a t.args.length cap] 31) (.cells #[.int .i64 0, .int .i64 0, .string ByteArray.empty, .slice none 0 0] 31))
  go_loopw [5] (fun _ wr => ∃ (t' : Tm) (a' : Option Addr) (cap' : Nat), Below w.heap.size w wr ∧ wr.heap[w.heap.size]? = some (.cells #[.int .i64 t'.kind, .int .i64 t'.n, .string t'.s, .slice a' t'.args.length cap'] 31 (0, 0)) ∧ wr.heap[w.heap.size + 1]? = some (.cells #[.int .i64 0, .int .i64 0, .string ByteArray.empty, .slice none 0 0] 31 (0, 0)) ∧
      Tm.rep (fun b => A b ∧ b < w.heap.size) wr t' [.int .i64 t'.kind, .int .i64 t'.n, .string t'.s, .slice a' t'.args.length cap'] ∧ t'.In N ∧ slook s.env t' = slook s.env t) (fun _ wr => boxMu w.heap.size wr)
  case atStart => exact ⟨t, a, cap, HB0.out, HX0.out.1, HX0.out.2, Tm.rep_lasts.1 _ _ _ _ _ HV'.out (Keeps.of_below HB0.out), HT.out, rfl⟩
  case round =>
    obtain ⟨t', a', cap', hb, hx, hy, hr, hin, hsl⟩ := hrel
    have HB := hid hb
    have HX := hid hx
    have HY := hid hy
    have HR := hid hr
    have HIN := hid hin
    have HSL := hid hsl
    have hz := blk_lt hy
    have hz0 : w.heap.size < wr.heap.size := by omega
    have hzg : g < wr.heap.size := by omega
    have hU := HU.out.below hb
    obtain ⟨x0, x1, x2, x3, xf⟩ := blk4 hx
    obtain ⟨y0, y1, y2, y3, yf⟩ := blk4 hy
    obtain ⟨b0, b1, -, -, -, -, -, -, bf⟩ := box8 hU.box
    have hcs := cell_set
    have HUW := hid hU
    clear hb hx hy hr hin hsl hU
    by_cases hk : t'.kind = 0
    · rw [hk] at x0
      have hnn := (HIN.out.n hk).1
      have hM := HM0.out.keeps (Keeps.of_below (A := fun _ => True) HB.out) trivial
      have hL := HL0.out.keeps (Keeps.of_below HB.out)
      have HK := hid hk
      rcases hL.get t'.n with ⟨e1, e2⟩ | ⟨z, zv, e1, e2, hz2⟩
      · have HRES := hid (HSL.out.symm.trans (slook_stop (.inr e1)))
        have HLK := hid (fun (W : World) (hW : Below wr.drew.heap.size wr.drew W) => (by
          have := run_mlookup_ok (n := t'.n) tyEnv (hM.keeps ((Keeps.drew (fun _ => True) wr).trans (Keeps.of_below hW)) trivial)
          rw [e2] at this
          exact this : (Instr.lookup 82 (.map (some mb)) (.int .i64 t'.n) true).run Tryd.prog W = .ok (.tuple #[.agg #[.int .i64 0, .int .i64 0, .string ByteArray.empty, .slice none 0 0], .bool false]) W))
        clear hk e1 e2 hM hL
        go_wp2_with fail
        refine wp_region_F (F := fun _ w' => Below wr.drew.heap.size wr.drew w') (by kernel_rfl) ?_
        have HF : Below wr.drew.heap.size wr.drew wr.drew := Below.refl _ _
        refine wpAnyF_take (i := 0) (v := ?_) rfl (by kernel_rfl) (by kernel_rfl) (by kernel_rfl) (fun _ _ _ h => h) (Or.inl ⟨by rfl, ?_⟩) HF ?_
        rotate_left
        · (intro w' hw; clear hw; go_simp <;> with_reducible rfl)
        try simp only [Act.put, List.setIfInBounds_toArray, List.set_cons_zero, List.set_cons_succ]
        refine wpAnyF_take (i := 1) (v := ?_) rfl (by kernel_rfl) (by kernel_rfl) (by kernel_rfl) (fun _ _ _ h => h) (Or.inl ⟨by rfl, ?_⟩) HF ?_
        rotate_left
        · (intro w' hw; clear hw; go_simp <;> with_reducible rfl)
        try simp only [Act.put, List.setIfInBounds_toArray, List.set_cons_zero, List.set_cons_succ]
        refine wpAnyF_take (i := 2) (v := ?_) rfl (by kernel_rfl) (by kernel_rfl) (by kernel_rfl) (fun _ _ _ h => h) (Or.inl ⟨by rfl, ?_⟩) HF ?_
        rotate_left
        · (intro w' hw; clear hw; go_simp <;> with_reducible rfl)
        try simp only [Act.put, List.setIfInBounds_toArray, List.set_cons_zero, List.set_cons_succ]
        refine wpAnyF_take (i := 3) (v := ?_) rfl (by kernel_rfl) (by kernel_rfl) (by kernel_rfl) (fun _ _ _ h => h) (Or.inl ⟨by rfl, ?_⟩) HF ?_
        rotate_left
        · (intro w' hw; have q1 := (hw.cell (p := ⟨g, 1, none⟩) (by simp only [World.size_drew]; omega)).trans b1; clear hw; go_simp <;> with_reducible rfl)
        try simp only [Act.put, List.setIfInBounds_toArray, List.set_cons_zero, List.set_cons_succ]
        refine wpAnyF_take (i := 4) (v := ?_) rfl (by kernel_rfl) (by kernel_rfl) (by kernel_rfl) (fun _ _ _ h => h) (Or.inl ⟨by rfl, ?_⟩) HF ?_
        rotate_left
        · (intro w' hw; clear hw; go_simp <;> with_reducible rfl)
        try simp only [Act.put, List.setIfInBounds_toArray, List.set_cons_zero, List.set_cons_succ]
        refine wpAnyF_take (i := 5) (v := ?_) rfl (by kernel_rfl) (by kernel_rfl) (by kernel_rfl) (fun _ _ _ h => h) (Or.inl ⟨by rfl, ?_⟩) HF ?_
        rotate_left
        · (intro w' hw; have q1 := (hw.cell (p := ⟨w.heap.size, 1, none⟩) (by simp only [World.size_drew]; omega)).trans x1; clear hw; go_simp <;> with_reducible rfl)
        try simp only [Act.put, List.setIfInBounds_toArray, List.set_cons_zero, List.set_cons_succ]
        refine wpAnyF_take (i := 6) (v := .tuple #[.agg #[.int .i64 0, .int .i64 0, .string ByteArray.empty, .slice none 0 0], .bool false]) rfl (by kernel_rfl) (by kernel_rfl) (by kernel_rfl) (fun _ _ _ h => h) (Or.inl ⟨by rfl, ?_⟩) HF ?_
        · (intro w' hw; have q1 := HLK.out w' hw; clear hw; go_simp)
        try simp only [Act.put, List.setIfInBounds_toArray, List.set_cons_zero, List.set_cons_succ]
        refine wpAnyF_take (i := 7) (v := ?_) rfl (by kernel_rfl) (by kernel_rfl) (by kernel_rfl) (fun _ _ _ h => h) (Or.inl ⟨by rfl, ?_⟩) HF ?_
        rotate_left
        · (intro w' hw; clear hw; go_simp <;> with_reducible rfl)
        try simp only [Act.put, List.setIfInBounds_toArray, List.set_cons_zero, List.set_cons_succ]
        refine wpAnyF_take (i := 8) (v := ?_) rfl (by kernel_rfl) (by kernel_rfl) (by kernel_rfl) (fun _ _ _ h => h) (Or.inl ⟨by rfl, ?_⟩) HF ?_
        rotate_left
        · (intro w' hw; clear hw; go_simp <;> with_reducible rfl)
        try simp only [Act.put, List.setIfInBounds_toArray, List.set_cons_zero, List.set_cons_succ]
        refine wpAnyF_take (i := 9) (v := ?_) rfl (by kernel_rfl) (by kernel_rfl) (by kernel_rfl) (fun _ _ _ h => h) (Or.inl ⟨by rfl, ?_⟩) HF ?_
        rotate_left
        · (intro w' hw; clear hw; go_simp <;> with_reducible rfl)
        try simp only [Act.put, List.setIfInBounds_toArray, List.set_cons_zero, List.set_cons_succ]
        refine wpAnyF_one (i := 10) (by kernel_rfl) (wpOp_run rfl (by rfl) ?_)
        go_simp
        refine ⟨fun _ _ h => h.alloc (Nat.le_refl _) _, ?_⟩
        refine wpAnyF_one (i := 11) (by kernel_rfl) (wpOp_run rfl (by rfl) ?_)
        go_simp
        refine ⟨fun _ _ _ => (Below.refl _ wr.drew).alloc (Nat.le_refl _) _, ?_⟩
        refine wpAnyF_one (i := 12) (by kernel_rfl) (wpOp_run rfl (by rfl) ?_)
        go_simp
        refine ⟨fun _ _ h => h, ?_⟩
        refine wpAnyF_done (by kernel_rfl) ?_ _
        go_wp2_with fail
        refine bodyPost_ret (v := .agg #[.int .i64 0, .int .i64 t'.n, .string t'.s, .slice a' t'.args.length cap']) (by simp [results, Tryd.results120, go_sem, hcs, y0, y1, y2, y3, hz]) rfl ⟨_, rfl, ?_, _, rfl, ?_⟩
        · exact ((below_set4 HB.out (by omega) _ _ _ _).alloc (by simp; omega) _).drew
        · rw [HRES.out]
          have hr := HR.out
          rw [HK.out] at hr
          exact Tm.rep_lasts.2.1 _ _ _ _ _ (Tm.rep_lasts.1 _ _ _ _ _ hr (((keeps_set4 _ _ (fun h => by omega) _ _ _ _).trans (Keeps.alloc _ _ _)).trans (Keeps.drew _ _))) fun b _ h => h.1
      · obtain ⟨zs, rfl, hzr⟩ := hz2
        have HZR := hid hzr
        obtain ⟨za, zc, rfl, -⟩ := Tm.rep4 hzr
        have HNX := hid ((slook_step HE.out HIN.out hk e1).symm.trans HSL.out)
        have HZI := hid (show z.In N from HE.out.tm _ (eget_mem e1))
        have HLS := hid (show z.kind = 0 → z.n < t'.n from HE.out.less _ (eget_mem e1))
        have HLK := hid (fun (W : World) (hW : Below wr.drew.heap.size wr.drew W) => (by
          have := run_mlookup_ok (n := t'.n) tyEnv (hM.keeps ((Keeps.drew (fun _ => True) wr).trans (Keeps.of_below hW)) trivial)
          rw [e2] at this
          exact this : (Instr.lookup 82 (.map (some mb)) (.int .i64 t'.n) true).run Tryd.prog W = .ok (.tuple #[.agg #[.int .i64 z.kind, .int .i64 z.n, .string z.s, .slice za z.args.length zc], .bool true]) W))
        clear hk e1 e2 hM hL hzr
        go_wp2_with fail
        refine wp_region_F (F := fun _ w' => Below wr.drew.heap.size wr.drew w') (by kernel_rfl) ?_
        have HF : Below wr.drew.heap.size wr.drew wr.drew := Below.refl _ _
        refine wpAnyF_take (i := 0) (v := ?_) rfl (by kernel_rfl) (by kernel_rfl) (by kernel_rfl) (fun _ _ _ h => h) (Or.inl ⟨by rfl, ?_⟩) HF ?_
        rotate_left
        · (intro w' hw; clear hw; go_simp <;> with_reducible rfl)
        try simp only [Act.put, List.setIfInBounds_toArray, List.set_cons_zero, List.set_cons_succ]
        refine wpAnyF_take (i := 1) (v := ?_) rfl (by kernel_rfl) (by kernel_rfl) (by kernel_rfl) (fun _ _ _ h => h) (Or.inl ⟨by rfl, ?_⟩) HF ?_
        rotate_left
        · (intro w' hw; clear hw; go_simp <;> with_reducible rfl)
        try simp only [Act.put, List.setIfInBounds_toArray, List.set_cons_zero, List.set_cons_succ]
        refine wpAnyF_take (i := 2) (v := ?_) rfl (by kernel_rfl) (by kernel_rfl) (by kernel_rfl) (fun _ _ _ h => h) (Or.inl ⟨by rfl, ?_⟩) HF ?_
        rotate_left
        · (intro w' hw; clear hw; go_simp <;> with_reducible rfl)
        try simp only [Act.put, List.setIfInBounds_toArray, List.set_cons_zero, List.set_cons_succ]
        refine wpAnyF_take (i := 3) (v := ?_) rfl (by kernel_rfl) (by kernel_rfl) (by kernel_rfl) (fun _ _ _ h => h) (Or.inl ⟨by rfl, ?_⟩) HF ?_
        rotate_left
        · (intro w' hw; have q1 := (hw.cell (p := ⟨g, 1, none⟩) (by simp only [World.size_drew]; omega)).trans b1; clear hw; go_simp <;> with_reducible rfl)
        try simp only [Act.put, List.setIfInBounds_toArray, List.set_cons_zero, List.set_cons_succ]
        refine wpAnyF_take (i := 4) (v := ?_) rfl (by kernel_rfl) (by kernel_rfl) (by kernel_rfl) (fun _ _ _ h => h) (Or.inl ⟨by rfl, ?_⟩) HF ?_
        rotate_left
        · (intro w' hw; clear hw; go_simp <;> with_reducible rfl)
        try simp only [Act.put, List.setIfInBounds_toArray, List.set_cons_zero, List.set_cons_succ]
        refine wpAnyF_take (i := 5) (v := ?_) rfl (by kernel_rfl) (by kernel_rfl) (by kernel_rfl) (fun _ _ _ h => h) (Or.inl ⟨by rfl, ?_⟩) HF ?_
        rotate_left
        · (intro w' hw; have q1 := (hw.cell (p := ⟨w.heap.size, 1, none⟩) (by simp only [World.size_drew]; omega)).trans x1; clear hw; go_simp <;> with_reducible rfl)
        try simp only [Act.put, List.setIfInBounds_toArray, List.set_cons_zero, List.set_cons_succ]
        refine wpAnyF_take (i := 6) (v := .tuple #[.agg #[.int .i64 z.kind, .int .i64 z.n, .string z.s, .slice za z.args.length zc], .bool true]) rfl (by kernel_rfl) (by kernel_rfl) (by kernel_rfl) (fun _ _ _ h => h) (Or.inl ⟨by rfl, ?_⟩) HF ?_
        · (intro w' hw; have q1 := HLK.out w' hw; clear hw; go_simp)
        try simp only [Act.put, List.setIfInBounds_toArray, List.set_cons_zero, List.set_cons_succ]
        refine wpAnyF_take (i := 7) (v := ?_) rfl (by kernel_rfl) (by kernel_rfl) (by kernel_rfl) (fun _ _ _ h => h) (Or.inl ⟨by rfl, ?_⟩) HF ?_
        rotate_left
        · (intro w' hw; clear hw; go_simp <;> with_reducible rfl)
        try simp only [Act.put, List.setIfInBounds_toArray, List.set_cons_zero, List.set_cons_succ]
        refine wpAnyF_take (i := 8) (v := ?_) rfl (by kernel_rfl) (by kernel_rfl) (by kernel_rfl) (fun _ _ _ h => h) (Or.inl ⟨by rfl, ?_⟩) HF ?_
        rotate_left
        · (intro w' hw; clear hw; go_simp <;> with_reducible rfl)
        try simp only [Act.put, List.setIfInBounds_toArray, List.set_cons_zero, List.set_cons_succ]
        refine wpAnyF_take (i := 9) (v := ?_) rfl (by kernel_rfl) (by kernel_rfl) (by kernel_rfl) (fun _ _ _ h => h) (Or.inl ⟨by rfl, ?_⟩) HF ?_
        rotate_left
        · (intro w' hw; clear hw; go_simp <;> with_reducible rfl)
        try simp only [Act.put, List.setIfInBounds_toArray, List.set_cons_zero, List.set_cons_succ]
        refine wpAnyF_one (i := 10) (by kernel_rfl) (wpOp_run rfl (by rfl) ?_)
        go_simp
        refine ⟨fun _ _ h => h.alloc (Nat.le_refl _) _, ?_⟩
        refine wpAnyF_one (i := 11) (by kernel_rfl) (wpOp_run rfl (by rfl) ?_)
        go_simp
        refine ⟨fun _ _ _ => (Below.refl _ wr.drew).alloc (Nat.le_refl _) _, ?_⟩
        refine wpAnyF_one (i := 12) (by kernel_rfl) (wpOp_run rfl (by rfl) ?_)
        go_simp
        refine ⟨fun _ _ h => h, ?_⟩
        refine wpAnyF_done (by kernel_rfl) ?_ _
        go_wp2_with fail
        go_roundw
        case rel =>
          refine ⟨z, za, zc, ((below_set4 HB.out (Nat.le_refl _) _ _ _ _).alloc (by simp; omega) _).drew, blk_alloc (set4 HX.out) _, blk_alloc ((set4_other _ _ _ _ _ _ _ (by omega)).trans HY.out) _, ?_, HZI.out, HNX.out⟩
          exact Tm.rep_lasts.1 _ _ _ _ _ HZR.out (((keeps_set4 _ _ (fun h => by omega) _ _ _ _).trans (Keeps.alloc _ _ _)).trans (Keeps.drew _ _))
        case measure =>
          have e1 := boxMu_of HX.out
          rw [HK.out] at e1
          have e2 := fun o => boxMu_of (w := (((((wr.setCell _ _).setCell _ _).setCell _ _).setCell _ _).alloc o).drew) (blk_alloc (set4 (v0 := .int .i64 z.kind) (v1 := .int .i64 z.n) (v2 := .string z.s) (v3 := .slice za z.args.length zc) HX.out) o)
          have h3 := HLS.out
          have h4 := HZI.out.n
          rw [e1, e2]
          by_cases e : z.kind = 0
          · have := h3 e
            have := h4 e
            rw [if_pos e, if_pos rfl]; omega
          · rw [if_neg e, if_pos rfl]; omega
    · have hk' : (t'.kind == 0) = false := by simpa using hk
      have HRES := hid (HSL.out.symm.trans (slook_stop (.inl hk)))
      clear hk
      go_wp2_with fail
      refine bodyPost_ret (v := .agg #[.int .i64 t'.kind, .int .i64 t'.n, .string t'.s, .slice a' t'.args.length cap']) (by simp [results, Tryd.results120, go_sem, hcs, y0, y1, y2, y3]) rfl ⟨_, rfl, below_set4 HB.out (by omega) _ _ _ _, _, rfl, ?_⟩
      rw [HRES.out]
      exact Tm.rep_lasts.2.1 _ _ _ _ _ (Tm.rep_lasts.1 _ _ _ _ _ HR.out (keeps_set4 _ _ (fun h => by omega) _ _ _ _)) fun b _ h => h.1
end Go.Proofs.YtlpmfkpefoegeabDoor

namespace Go.Proofs.YtlpmfkpefoegeabDoor
set_option linter.unusedVariables false
set_option linter.unusedSimpArgs false
open Go.RowKit
def WkAt (xb : Nat) (k : Int) (w : World) : Prop := w.heap[xb]? = some (.cells #[.int .i64 k] 3 (0, 0))
theorem WkAt.cell {xb : Nat} {k : Int} {w : World} (h : WkAt xb k w) : w.cell? ⟨xb, 0, none⟩ = some (.int .i64 k) ∧ (∀ o, w.frozen? ⟨xb, o, none⟩ = false) ∧ xb < w.heap.size :=
  ⟨(blk_cell h 0).trans rfl, fun o => by simp [World.frozen?, show w.heap[xb]? = _ from h], blk_lt h⟩
def SInPost (xb : Nat) (w : World) (p : Bool × Int) (e : Ending) (w' : World) : Prop := e = .returned (.bool p.1) ∧ Ch (fun b => b = xb) w w' ∧ WkAt xb p.2 w'
def SInOK (base : Nat) (P : List Cl) (q g mb xb : Nat) (pv tv cv ov : Value) (s : Sv) (N v : Int) (k : Nat) : Prop := ∀ (t : Tm) (w : World) (vs : List Value), SvI base P q g mb xb pv tv cv ov s w → WkAt xb k w → t.In N → Tm.rep (SA g mb xb tv cv ov) w t vs →
  Calls Tryd.prog 144 #[.pointer (some ⟨g, 0, none⟩), .int .i64 v, .agg vs.toArray, .pointer (some ⟨xb, 0, none⟩)] w (SInPost xb w (inS s.env v k [t]))
section
variable {base : Nat} {P : List Cl} {q g mb xb : Nat} {pv tv cv ov : Value} {s : Sv} {N : Int}
theorem ch_wk (xb o : Nat) (w : World) (u : Value) : Ch (fun b => b = xb) w (w.setCell ⟨xb, o, none⟩ u) := ch_box xb o w u
theorem WkAt.set {k k' : Int} {w : World} (h : WkAt xb k w) : WkAt xb k' (w.setCell ⟨xb, 0, none⟩ (.int .i64 k')) := (blk_set h 0 _).trans rfl
set_option maxHeartbeats 1000000 in
theorem sin_zero (v : Int) (hx : xb ≠ g) : SInOK base P q g mb xb pv tv cv ov s N v 0 := by
  intro t w vs h hw ht hv
  obtain ⟨a, cap, rfl, -⟩ := Tm.rep4 hv
  obtain ⟨x0, xf, xl⟩ := hw.cell
  have HW := hid hw
  have hcs := cell_set
  rw [show ((0 : Nat) : Int) = 0 from rfl] at x0
  clear hv ht h hw
  go_enter Tryd.func144, Tryd.ntmps144
  go_wp2_with fail
  go_ret
  refine ⟨rfl, ?_, ?_⟩
  · exact ((ch_wk _ _ _ _).alloc _)
  · exact blk_alloc (HW.out.set (k' := -1)) _
set_option maxRecDepth 100000 in
set_option maxHeartbeats 4000000 in
theorem sin_succ (v : Int) (hv : I64 v) (hx : xb ≠ g) (hE : EnvOk N s.env) (k : Nat) (hk4 : k ≤ 400) (ih : ∀ m, m ≤ k → SInOK base P q g mb xb pv tv cv ov s N v m) : SInOK base P q g mb xb pv tv cv ov s N v (k + 1) := by
  intro t w vs h hw ht hvv
  have HU := hid h
  have HE := hid hE
  have HT := hid ht
  have IH := hid ih
  obtain ⟨a, cap, rfl, -⟩ := Tm.rep4 hvv
  have HV := hid hvv
  obtain ⟨x0, xf, xl⟩ := hw.cell
  have HW := hid hw
  have hcs := cell_set
  obtain ⟨hl1, hl2, hl3⟩ := h.lt
  have hk0 : (0 : Int) ≤ (k : Int) := Int.natCast_nonneg _
  have hk400 : (k : Int) ≤ 400 := by omega
  rw [show ((k + 1 : Nat) : Int) = (k : Int) + 1 by omega] at x0
  have HX := hid hx
  have HVV := hid hv
  clear h hE ht ih hvv hw hv
  go_enter Tryd.func144, Tryd.ntmps144
  go_wp2_with fail
  have HC1 := hid (show Ch (fun b => b = xb) w ((w.setCell ⟨xb, 0, none⟩ (.int .i64 (k : Int))).alloc (.cells #[.int .i64 t.kind, .int .i64 t.n, .string t.s, .slice a t.args.length cap] 31)) from (ch_wk _ _ _ _).alloc _)
  have HU1 := hid (HU.out.ch HX.out HC1.out)
  have HV1 := hid (Tm.rep_lasts.1 _ _ _ _ _ (Tm.rep_lasts.2.1 _ (fun b => SA g mb xb tv cv ov b ∧ b < w.heap.size) _ _ _ HV.out fun b hb h => ⟨h, hb⟩) (HC1.out.keeps (A := fun b => SA g mb xb tv cv ov b ∧ b < w.heap.size) fun b _ hb e => hb.1.2 e))
  have HN1 := hid (HU.out.envAt.keeps (HC1.out.keeps (A := fun b => b ≠ xb) fun b _ hb e => hb e) (fun b hb => hb.1.2) (fun e => by
    rcases HU.out.nx with h | h
    · exact HX.out h
    · exact h (e ▸ .inr (.inl rfl))))
  refine (slook_ok t _ _ _ HU1.out HE.out HT.out HN1.out HV1.out).mono ?_
  rintro e w2 ⟨r, rfl, hb2, us, rfl, hr⟩
  have HLI := hid (slook_in HE.out HT.out)
  have HIN := hid (inS_succ s.env v k t [])
  generalize slook s.env t = x at *
  obtain ⟨xa, xc, rfl, -, -, -, hxc1, hxc2, hxc3, hsl⟩ := Tm.rep4 hr
  have HR := hid hr
  have HC2 := hid (HC1.out.then_below hb2)
  have HU2 := hid (HU1.out.below hb2)
  have HW2 := hid (show WkAt xb k w2 from blk_below (blk_alloc (HW.out.set (k' := (k : Int))) _) hb2)
  have HB2 := hid (blk_below (show ((w.setCell ⟨xb, 0, none⟩ (.int .i64 (k : Int))).alloc (.cells #[.int .i64 t.kind, .int .i64 t.n, .string t.s, .slice a t.args.length cap] 31)).heap[w.heap.size]? = _ by have := blk_new (w.setCell ⟨xb, 0, none⟩ (.int .i64 (k : Int))) (.cells #[.int .i64 t.kind, .int .i64 t.n, .string t.s, .slice a t.args.length cap] 31); simpa using this) hb2)
  obtain ⟨y0, y1, y2, y3, yf⟩ := blk4 HB2.out
  obtain ⟨z0, zf, zl⟩ := HW2.out.cell
  have hz2 := hb2.size
  simp only [World.size_alloc, World.size_setCell] at hz2
  have HSL := hid hsl
  have hne : xb ≠ w.heap.size := by omega
  have hne' : w.heap.size ≠ xb := by omega
  have hzz : w.heap.size < w2.heap.size := by omega
  clear x0 xf hb2 hr hsl
  have hK4 : Keeps (fun b => b ≠ w.heap.size) w2 (((((w2.setCell ⟨w.heap.size, 0, none⟩ (.int .i64 x.kind)).setCell ⟨w.heap.size, 1, none⟩ (.int .i64 x.n)).setCell ⟨w.heap.size, 2, none⟩ (.string x.s)).setCell ⟨w.heap.size, 3, none⟩ (.slice xa x.args.length xc))) := keeps_set4 _ _ (fun h => h rfl) _ _ _ _
  have HC3 := hid (show Ch (fun b => b = xb) w (((((w2.setCell ⟨w.heap.size, 0, none⟩ (.int .i64 x.kind)).setCell ⟨w.heap.size, 1, none⟩ (.int .i64 x.n)).setCell ⟨w.heap.size, 2, none⟩ (.string x.s)).setCell ⟨w.heap.size, 3, none⟩ (.slice xa x.args.length xc))) from
    (((HC2.out.setCell (p := ⟨w.heap.size, 0, none⟩) (.inr (Nat.le_refl _)) _).setCell (p := ⟨w.heap.size, 1, none⟩) (.inr (Nat.le_refl _)) _).setCell (p := ⟨w.heap.size, 2, none⟩) (.inr (Nat.le_refl _)) _).setCell (p := ⟨w.heap.size, 3, none⟩) (.inr (Nat.le_refl _)) _)
  have HW3 := hid (show WkAt xb k (((((w2.setCell ⟨w.heap.size, 0, none⟩ (.int .i64 x.kind)).setCell ⟨w.heap.size, 1, none⟩ (.int .i64 x.n)).setCell ⟨w.heap.size, 2, none⟩ (.string x.s)).setCell ⟨w.heap.size, 3, none⟩ (.slice xa x.args.length xc))) from blk_keeps HW2.out hK4 hne)
  have HK4 := hid hK4
  have HB3 := hid (set4 (v0 := .int .i64 x.kind) (v1 := .int .i64 x.n) (v2 := .string x.s) (v3 := .slice xa x.args.length xc) HB2.out)
  clear hK4
  by_cases hk : x.kind = 0
  · have HK := hid hk
    have hnx := (HLI.out.n hk)
    rw [hk]
    by_cases hxv : x.n = v
    · have hr := hid (show inS s.env v (k + 1) [t] = (true, (k : Int)) by rw [HIN.out, if_pos hk, if_pos hxv])
      have hq : (x.n == v) = true := by simpa using hxv
      rw [hk] at HC3 HW3
      clear hxv hk
      go_wp2_with fail
      go_ret
      rw [hr.out]
      exact ⟨rfl, HC3.out, HW3.out⟩
    · have hr := hid (show inS s.env v (k + 1) [t] = (false, (k : Int)) by rw [HIN.out, if_pos hk, if_neg hxv, inS_nil])
      have hq : (x.n == v) = false := by simpa using hxv
      rw [hk] at HC3 HW3
      clear hxv hk
      go_wp2_with fail
      go_ret
      rw [hr.out]
      exact ⟨rfl, HC3.out, HW3.out⟩
  · have hk' : (x.kind == 0) = false := by simpa using hk
    have hr := hid (show inS s.env v (k + 1) [t] = inS s.env v k x.args by rw [HIN.out, if_neg hk, List.append_nil])
    clear hk
    unfold maxLen at hxc2
    go_wp2_with fail
    have HU3 := hid (HU.out.ch HX.out HC3.out)
    obtain ⟨_, _, eb, eo, e9, -, -, -, hea, hee⟩ := HSL.out.at
    simp only [Value.slice.injEq, true_and] at e9
    obtain ⟨rfl, rfl⟩ := e9
    have HEE := hid (hee.keeps Tm.rep_lasts (fun hne => (hea (List.length_pos_iff.2 hne)).2) (HK4.out.mono fun b _ hb => by have := hb.2; omega))
    have HEA := hid hea
    clear hea hee
    generalize (((((w2.setCell ⟨w.heap.size, 0, none⟩ (.int .i64 x.kind)).setCell ⟨w.heap.size, 1, none⟩ (.int .i64 x.n)).setCell ⟨w.heap.size, 2, none⟩ (.string x.s)).setCell ⟨w.heap.size, 3, none⟩ (.slice xa x.args.length xc))) = w3 at *
    go_loopw [33] (fun i wr => ∃ j m : Nat, j ≤ x.args.length ∧ i = .int .i64 (j : Int) ∧ m ≤ k ∧ inS s.env v k (x.args.take j) = (false, (m : Int)) ∧ WkAt xb m wr ∧ Ch (fun b => b = xb) w3 wr) (fun i _ => x.args.length - (intOf i).toNat)
    case atStart => exact ⟨0, k, Nat.zero_le _, rfl, Nat.le_refl _, by rw [List.take_zero, inS_nil], HW3.out, Ch.refl _ _⟩
    case round =>
      obtain ⟨j, m, hj, rfl, hm, htk, hw, hch⟩ := hrel
      have HTK := hid htk
      have HW4 := hid hw
      have HC4 := hid hch
      obtain ⟨q0, qf, ql⟩ := hw.cell
      clear htk hw hch
      by_cases hlt : j < x.args.length
      · obtain ⟨rfl, hAb⟩ := HEA.out (by omega)
        obtain ⟨sa, sc, c0, c1, c2, c3, hr3⟩ := tm_cells HEE.out hAb (HC4.out.keeps fun b _ hb e => hb.1.2 e) hlt
        have HA3 := hid (Tm.rep_lasts.2.1 _ (SA g mb xb tv cv ov) _ _ _ hr3 fun b _ h => h.1)
        have hsplit : x.args = x.args.take j ++ ([x.args[j]] ++ x.args.drop (j + 1)) := by
          conv => lhs; rw [← List.take_append_drop j x.args, List.drop_eq_getElem_cons hlt]
          rfl
        have HSP := hid (show inS s.env v k x.args = inS s.env v m ([x.args[j]] ++ x.args.drop (j + 1)) by
          conv => lhs; rw [hsplit]
          rw [inS_app, HTK.out, if_neg (by simp)]
          simp)
        have HNX := hid (show inS s.env v k (x.args.take (j + 1)) = inS s.env v m [x.args[j]] by
          rw [List.take_succ_eq_append_getElem hlt, inS_app, HTK.out, if_neg (by simp)]
          simp)
        have HGI := hid (HLI.out.arg (List.getElem_mem hlt))
        have hz4 := HC4.out.size
        have HCC := hid (show Ch (fun b => b = xb) w3 (wr.alloc (.cells #[.int .i64 x.args[j].kind, .int .i64 x.args[j].n, .string x.args[j].s, .slice sa x.args[j].args.length sc] 31)) from HC4.out.alloc _)
        clear hsplit hr3
        go_wp2_with fail
        refine (IH.out m hm x.args[j] _ _ (HU3.out.ch HX.out HCC.out) (blk_alloc HW4.out _) HGI.out (Tm.rep_lasts.1 _ _ _ _ _ HA3.out (Keeps.alloc _ _ _))).mono ?_
        rintro e w5 ⟨rfl, hch5, hw5⟩
        have HC5 := hid (HCC.out.trans hch5 (fun _ h => .inl h))
        have HW5 := hid hw5
        obtain ⟨r0, rf, rl⟩ := hw5.cell
        have hple := inS_le s.env v m [x.args[j]]
        have happ := inS_app s.env v m [x.args[j]] (x.args.drop (j + 1))
        have htru := inS_true s.env v m [x.args[j]]
        generalize inS s.env v m [x.args[j]] = p at *
        obtain ⟨pf, pw⟩ := p
        simp only at hple happ htru r0
        have HAPP := hid happ
        have HTRU := hid htru
        clear hw5 hch5 happ htru q0 qf c0 c1 c2 c3
        obtain ⟨hp1, hp2⟩ := hple
        cases pf with
        | true =>
          have hpw : 0 ≤ pw := HTRU.out rfl
          have hres := hid (show inS s.env v (k + 1) [t] = (true, pw) by rw [hr.out, HSP.out, HAPP.out, if_pos (.inl rfl)])
          go_wp2_with fail
          go_ret
          rw [hres.out]
          exact ⟨rfl, HC3.out.trans HC5.out (fun _ h => .inl h), HW5.out⟩
        | false =>
          by_cases hpw : pw < 0
          · have hres := hid (show inS s.env v (k + 1) [t] = (false, pw) by rw [hr.out, HSP.out, HAPP.out, if_pos (.inr hpw)])
            have hpd := hid (decide_eq_false (show ¬ (0 : Int) ≤ pw by omega))
            go_wp2_with fail
            go_ret
            rw [hres.out]
            exact ⟨congrArg Ending.returned (congrArg Value.bool hpd.out), HC3.out.trans HC5.out (fun _ h => .inl h), HW5.out⟩
          · obtain ⟨pm, rfl⟩ := Int.eq_ofNat_of_zero_le (show 0 ≤ pw by omega)
            go_wp2_with fail
            go_roundw
            case rel => exact ⟨j + 1, pm, by omega, by go_num, by omega, HNX.out, HW5.out, HC5.out⟩
            case measure => simp [intOf]; omega
      · have hje : j = x.args.length := by omega
        have hres := hid (show inS s.env v (k + 1) [t] = (false, (m : Int)) by
          have := HTK.out
          rw [List.take_of_length_le (by omega)] at this
          rw [hr.out, this])
        clear hje
        go_wp2_with fail
        go_ret
        rw [hres.out]
        exact ⟨rfl, HC3.out.trans HC4.out (fun _ h => .inl h), HW4.out⟩
theorem sin_ok (v : Int) (hv : I64 v) (hx : xb ≠ g) (hE : EnvOk N s.env) : ∀ k, k ≤ 400 → SInOK base P q g mb xb pv tv cv ov s N v k := by
  intro k
  induction k using Nat.strongRecOn with
  | _ k ih =>
    intro hk
    cases k with
    | zero => exact sin_zero v hx
    | succ k => exact sin_succ v hv hx hE k (by omega) fun m hm => ih m (by omega) (by omega)
end
end Go.Proofs.YtlpmfkpefoegeabDoor

namespace Go.Proofs.YtlpmfkpefoegeabDoor
set_option linter.unusedVariables false
set_option linter.unusedSimpArgs false
def tm0 : Tm := .mk 0 0 ByteArray.empty []
end Go.Proofs.YtlpmfkpefoegeabDoor

namespace Go.Proofs.YtlpmfkpefoegeabDoor
set_option linter.unusedVariables false
set_option linter.unusedSimpArgs false
open Go.RowKit
theorem tm0_rep (A : Nat → Prop) (w : World) : Tm.rep A w tm0 [.int .i64 0, .int .i64 0, .string ByteArray.empty, .slice none 0 0] := by
  rw [tm0, Tm.rep_iff]
  exact ⟨by unfold I64; omega, by unfold I64; omega, by decide, _, rfl, SlR.nil ..⟩
theorem leaf_rep (A : Nat → Prop) (w : World) (k n : Int) (s : ByteArray) (hk : I64 k) (hn : I64 n) (hs : s.size ≤ 1048576) : Tm.rep A w (.mk k n s []) [.int .i64 k, .int .i64 n, .string s, .slice none 0 0] := by
  rw [Tm.rep_iff]
  exact ⟨hk, hn, hs, _, rfl, SlR.nil ..⟩
end Go.Proofs.YtlpmfkpefoegeabDoor
