/-
  The machine: answer.
-/
import Derived.Test.YtlpmfkpefoegeabQMach10
import Derived.Test.YtlpmfkpefoegeabQTermH
import Derived.Test.YtlpmfkpefoegeabQFront2
import Derived.Test.YtlpmfkpefoegeabQTwo
namespace Go.Proofs.Ytlpmfkpefoegeab
set_option linter.unusedVariables false
set_option linter.unusedSimpArgs false
open Go.RowKit
theorem rdL_nodes (l : List Ce) : ∀ (w : Nat) (s : List Int) (ts : List Tm) (w' : Nat), rdL l w s = some (ts, w') → Tm.nodesL ts + w' = w := by
  intro w
  induction w using Nat.strongRecOn with
  | _ w ih =>
    intro s ts w' h
    match w, s, ih, h with
    | w, [], _, h => rw [rdL_nil] at h; simp at h; obtain ⟨rfl, rfl⟩ := h; simp [Tm.nodesL]
    | 0, _ :: _, _, h => rw [rdL_zero] at h; cases h
    | w + 1, a :: r, ih, h =>
      rw [rdL] at h
      try simp only at h
      split at h
      · cases h
      · split at h
        · split at h
          · simp at h
          · rename_i _ ts1 w1 h1
            have k0 := (rdL_le l w _ _ _ h1).1
            have k1 := ih w (by omega) _ _ _ h1
            rw [Nat.min_eq_right k0] at h
            split at h
            · simp at h
            · rename_i _ rs w2 h2
              have k2 := ih w1 (by omega) _ _ _ h2
              simp only [Option.some.injEq, Prod.mk.injEq] at h
              obtain ⟨rfl, rfl⟩ := h
              simp only [Tm.nodesL, Tm.nodes]
              omega
        · split at h
          · simp at h
          · rename_i _ rs w2 h2
            have k2 := ih w (by omega) _ _ _ h2
            simp only [Option.some.injEq, Prod.mk.injEq] at h
            obtain ⟨rfl, rfl⟩ := h
            simp only [Tm.nodesL]
            split <;> simp only [Tm.nodes, Tm.nodesL] <;> omega
theorem termF_left {h : Hp} {a : Int} {left : Int} (hl : 0 ≤ left ∧ left ≤ 200) (he : (termF h a left).2.2 = 0) : (((termF h a left).1.nodes : Nat) : Int) = (termF h a left).2.1 ∧ (termF h a left).2.1 ≤ left := by
  have hlo : leftOf left = left := by unfold leftOf; omega
  unfold termF at he ⊢
  split at he
  · exact absurd he (by decide)
  · rename_i hg
    rw [if_neg hg]
    split at he
    · exact absurd he (by decide)
    · rename_i hi
      rw [if_neg hi]
      rw [hlo] at he ⊢
      unfold rd1 at he ⊢
      cases hr : rdL h.cells left.toNat [a] with
      | none => rw [hr] at he; exact absurd he (by simp [termOf])
      | some p =>
        obtain ⟨ts, w1⟩ := p
        have h1 := (rdL_le _ _ _ _ _ hr).2
        have h2 := rdL_nodes _ _ _ _ _ hr
        cases ts with
        | nil => simp at h1
        | cons t r =>
          cases r with
          | cons _ _ => simp at h1
          | nil =>
            simp only [termOf, Tm.nodesL] at h2 ⊢
            omega
theorem tellM_none {h : Hp} {qr : Int} {j : Nat} : ∀ {n : Nat}, j ≤ n → tellM h qr j = none → tellM h qr n = none
  | 0, hj, e => by rw [show j = 0 by omega] at e; exact e
  | n + 1, hj, e => by
    by_cases hh : j = n + 1
    · rw [← hh]; exact e
    · rw [tellM, tellM_none (n := n) (by omega) e]
theorem tellM_some {h : Hp} {qr : Int} : ∀ {j : Nat} {ts : List Tm} {left : Int}, tellM h qr j = some (ts, left) → ts.length = j ∧ 0 ≤ left ∧ (Tm.nodesL ts : Int) + left = 200
  | 0, ts, left, e => by simp only [tellM, Option.some.injEq, Prod.mk.injEq] at e; obtain ⟨rfl, rfl⟩ := e; simp [Tm.nodesL]
  | j + 1, ts, left, e => by
    rw [tellM] at e
    split at e
    · cases e
    · rename_i _ l lf h1
      obtain ⟨k1, k2, k3⟩ := tellM_some h1
      split at e
      · cases e
      · rename_i h2
        obtain ⟨k4, k5⟩ := termF_left ⟨k2, by omega⟩ (Classical.not_not.1 h2)
        simp only [Option.some.injEq, Prod.mk.injEq] at e
        obtain ⟨rfl, rfl⟩ := e
        refine ⟨by simp [k1], by omega, ?_⟩
        rw [Tm.nodesL_append]
        simp only [Tm.nodesL]
        omega
section
variable {base : Nat} {P : List Cl} {q g : Nat} {pv hc ht : Value} {o : Mo} {m : Mv} {w : World}
set_option maxRecDepth 100000 in
set_option maxHeartbeats 8000000 in
theorem manswer_ok (h : MvI base P q g pv hc ht o m w) (hP : GoodP P) (hpre : ∀ e : Ev, BkPre P m.choices { m with out := m.out ++ [e] }) (hqr : ∀ v : Nat, v < q → I64 (m.query + (v : Nat))) (hfew : m.choices.length < 900) (hfit : m.goals.length ≤ 5900) (hout : m.out.length + 2 ≤ 20) :
    Calls Try.prog 52 #[.pointer (some ⟨g, 0, none⟩)] w (MBackPost base P q g pv o (answerM P q m) w) := by
  have HU := hid h
  have HP := hid hP
  have HPRE := hid hpre
  have HQR := hid hqr
  have HFEW := hid hfew
  have HFIT := hid hfit
  have HOUT := hid hout
  obtain ⟨hl1, hl2⟩ := h.lt
  obtain ⟨gv, cv, ov⟩ := o
  obtain ⟨pa, pc, ga, gc, ca, cc, oa, oc, ha, hac, hb, hbc, rfl, rfl, rfl, rfl, rfl, rfl, -, -, -, -, -, -, o1, o2⟩ := h.vals
  obtain ⟨b0, b1, b2, b3, b4, b5, b6, b7, b8, b9, bf⟩ := box10 h.box
  simp only at b3 b4 b9
  unfold maxLen at o2
  have hq8 := h.qq
  have hqb := h.qb
  have hAF : answerM P q m = match tellM m.h m.query q with
    | none => (.off, m.put 4)
    | some (l, _) => if m.out.length + 1 ≥ 12 then (.off, ({ m with out := m.out ++ [⟨1, tidy l⟩] } : Mv).put 6) else backM P m.choices { m with out := m.out ++ [⟨1, tidy l⟩] } := by
    unfold answerM
    cases tellM m.h m.query q with
    | none => rfl
    | some p => simp only [List.length_append, List.length_singleton]
  have HAF := hid hAF
  clear h hP hpre hqr hfew hfit hout hAF
  go_enter Try.func52, Try.ntmps52
  go_wp2_with fail
  go_loopw [13, 3, 4] (fun i lf v wr => ∃ (j : Nat) (left : Int) (ts : List Tm), j ≤ q ∧ i = .int .i64 (j : Int) ∧ lf = .int .i64 left ∧ tellM m.h m.query j = some (ts, left) ∧ Below w.heap.size w wr ∧ OwnR wr w.heap.size 24 4 Tm.rep (fun b => w.heap.size ≤ b) ts v) (fun i _ _ _ => q - (intOf i).toNat)
  case atStart => exact ⟨0, 200, [], Nat.zero_le _, rfl, rfl, rfl, Below.refl _ _, OwnR.nil ..⟩
  case round =>
    obtain ⟨j, left, ts, hj, rfl, rfl, htk, hbw, hown⟩ := hrel
    obtain ⟨htl, hl0, hnn⟩ := tellM_some htk
    have HTK := hid htk
    have HTL := hid htl
    have HNN := hid hnn
    have HBW := hid hbw
    have HO := hid hown
    have HV := hid (HU.out.below hbw)
    have hsz := hbw.size
    have hl200 : left ≤ 200 := by omega
    obtain ⟨va, vc, rfl, hvc⟩ := hown.val
    have htl4 : ts.length ≤ 8 := by omega
    clear htk htl hnn hbw hown b0 b1 b2 b3 b4 b5 b6 b7 b8 b9 bf
    obtain ⟨b0, b1, b2, b3, b4, b5, b6, b7, b8, b9, bf⟩ := box10 HV.out.box
    simp only at b1 b2 b3 b4 b9
    have hgl2 := HV.out.lt.1
    by_cases hlt : j < q
    · have hlt' : (j : Int) < (q : Int) := by omega
      have hj0 : (0 : Int) ≤ (j : Int) := Int.natCast_nonneg _
      have hIq := HQR.out j hlt
      have HIQ := hid hIq
      obtain ⟨pl, hpl⟩ : ∃ pl, pl = m.query + (j : Int) := ⟨_, rfl⟩
      have HPL := hid hpl
      have hwr : IntKind.i64.wrap (m.query + (j : Int)) = pl := by rw [hpl]; exact IntWalk.i64_in _ hIq
      have HNX := hid (show tellM m.h m.query (j + 1) = if (termF m.h pl left).2.2 ≠ 0 then none else some (ts ++ [(termF m.h pl left).1], left - (termF m.h pl left).2.1) by
        rw [tellM, HTK.out, hpl])
      have HA := hid (fun (W : World) (hbw : Below wr.heap.size wr W) => (show W.cell? ⟨g, 1, none⟩ = some (.slice ha m.h.cells.length hac) ∧ W.cell? ⟨g, 2, none⟩ = some (.slice hb m.h.trail.length hbc) ∧ W.cell? ⟨g, 7, none⟩ = some (.int .i64 m.query) from ⟨bc hbw b1, bc hbw b2, bc hbw b7⟩))
      have HTE := hid (fun (W : World) (hbw : Below wr.heap.size wr W) => termH_okN m.h pl left (by rw [HPL.out]; exact HIQ.out) (by unfold I64; omega) _ W _ (HV.out.below hbw).heap)
      have htl2 : left < 9223372036854775808 := by omega
      clear hpl hIq
      go_wp2_with fail
      have HF : ∀ {k : Nat}, Below wr.heap.size wr wr.drew := fun {k} => (Below.refl _ _).drew
      refine wp_region_F (F := fun k w' => Below wr.heap.size wr w') (by kernel_rfl) ?_
      refine wpTk (i := 0) (v := ?_) rfl (Or.inl ⟨by rfl, ?_⟩) (HF (k := 0)) ?_
      rotate_left
      · (intro w' hw; clear hw; go_simp <;> with_reducible rfl)
      try simp only [Act.put, List.setIfInBounds_toArray, List.set_cons_zero, List.set_cons_succ]
      refine wpTk (i := 1) (v := ?_) rfl (Or.inl ⟨by rfl, ?_⟩) (HF (k := 0)) ?_
      rotate_left
      · (intro w' hw; clear hw; go_simp <;> with_reducible rfl)
      try simp only [Act.put, List.setIfInBounds_toArray, List.set_cons_zero, List.set_cons_succ]
      refine wpTk (i := 2) (v := ?_) rfl (Or.inl ⟨by rfl, ?_⟩) (HF (k := 0)) ?_
      rotate_left
      · (intro w' hw; clear hw; go_simp <;> with_reducible rfl)
      try simp only [Act.put, List.setIfInBounds_toArray, List.set_cons_zero, List.set_cons_succ]
      refine wpTk (i := 3) (v := .agg #[.slice ha m.h.cells.length hac, .slice hb m.h.trail.length hbc]) rfl (Or.inl ⟨by rfl, ?_⟩) (HF (k := 0)) ?_
      · (intro w' hw; obtain ⟨d1, d2, d3⟩ := HA.out w' hw; clear hw; go_simp)
      try simp only [Act.put, List.setIfInBounds_toArray, List.set_cons_zero, List.set_cons_succ]
      refine wpTk (i := 4) (v := ?_) rfl (Or.inl ⟨by rfl, ?_⟩) (HF (k := 0)) ?_
      rotate_left
      · (intro w' hw; clear hw; go_simp <;> with_reducible rfl)
      try simp only [Act.put, List.setIfInBounds_toArray, List.set_cons_zero, List.set_cons_succ]
      refine wpTk (i := 5) (v := ?_) rfl (Or.inl ⟨by rfl, ?_⟩) (HF (k := 0)) ?_
      rotate_left
      · (intro w' hw; clear hw; go_simp <;> with_reducible rfl)
      try simp only [Act.put, List.setIfInBounds_toArray, List.set_cons_zero, List.set_cons_succ]
      refine wpTk (i := 6) (v := ?_) rfl (Or.inl ⟨by rfl, ?_⟩) (HF (k := 0)) ?_
      rotate_left
      · (intro w' hw; clear hw; go_simp <;> with_reducible rfl)
      try simp only [Act.put, List.setIfInBounds_toArray, List.set_cons_zero, List.set_cons_succ]
      refine wpTk (i := 7) (v := ?_) rfl (Or.inl ⟨by rfl, ?_⟩) (HF (k := 0)) ?_
      rotate_left
      · (intro w' hw; obtain ⟨d1, d2, d3⟩ := HA.out w' hw; clear hw; go_simp <;> with_reducible rfl)
      try simp only [Act.put, List.setIfInBounds_toArray, List.set_cons_zero, List.set_cons_succ]
      refine wpTk (i := 8) (v := ?_) rfl (Or.inl ⟨by rfl, ?_⟩) (HF (k := 0)) ?_
      rotate_left
      · (intro w' hw; clear hw; go_simp <;> with_reducible rfl)
      try simp only [Act.put, List.setIfInBounds_toArray, List.set_cons_zero, List.set_cons_succ]
      refine wpTk (i := 9) (v := .int .i64 pl) rfl (Or.inl ⟨by rfl, ?_⟩) (HF (k := 0)) ?_
      · (intro w' hw; clear hw; go_simp)
      try simp only [Act.put, List.setIfInBounds_toArray, List.set_cons_zero, List.set_cons_succ]
      refine wpTk (i := 10) (v := ?_) rfl (Or.inl ⟨by rfl, ?_⟩) (HF (k := 0)) ?_
      rotate_left
      · (intro w' hw; clear hw; go_simp <;> with_reducible rfl)
      try simp only [Act.put, List.setIfInBounds_toArray, List.set_cons_zero, List.set_cons_succ]
      clear HF
      have HBWd := hid (show Below wr.heap.size wr wr.drew from (Below.refl _ _).drew)
      have hzd : wr.heap.size ≤ wr.drew.heap.size := Nat.le_refl _
      generalize wr.drew = Wd at *
      refine wpAnyF_two (i := 11) (j := 16) (by kernel_rfl) (wpOp_run rfl (by rfl) ?_) (wpOp_run rfl (by rfl) ?_)
      · go_simp
        refine (HTE.out Wd HBWd.out).mono ?_
        rintro e w5 ⟨r, rfl, hb5, us, rfl, hus⟩
        obtain ⟨sa, sc, rfl, -⟩ := Tm.rep4 hus
        have HB5 := hid (HBWd.out.trans (hb5.mono HBWd.out.size))
        have hz5 := hb5.size
        have HUS := hid hus
        clear hb5 hus
        refine ⟨fun _ _ _ => HB5.out, ?_⟩
        try simp only [Act.put, List.setIfInBounds_toArray, List.set_cons_zero, List.set_cons_succ]
        refine wpTk (i := 12) (v := ?_) rfl (Or.inl ⟨by rfl, ?_⟩) HB5.out ?_
        rotate_left
        · (intro w' hw; clear hw; go_simp <;> with_reducible rfl)
        try simp only [Act.put, List.setIfInBounds_toArray, List.set_cons_zero, List.set_cons_succ]
        refine wpTk (i := 13) (v := ?_) rfl (Or.inl ⟨by rfl, ?_⟩) HB5.out ?_
        rotate_left
        · (intro w' hw; clear hw; go_simp <;> with_reducible rfl)
        try simp only [Act.put, List.setIfInBounds_toArray, List.set_cons_zero, List.set_cons_succ]
        refine wpTk (i := 14) (v := ?_) rfl (Or.inl ⟨by rfl, ?_⟩) HB5.out ?_
        rotate_left
        · (intro w' hw; clear hw; go_simp <;> with_reducible rfl)
        try simp only [Act.put, List.setIfInBounds_toArray, List.set_cons_zero, List.set_cons_succ]
        refine wpTk (i := 15) (v := ?_) rfl (Or.inl ⟨by rfl, ?_⟩) HB5.out ?_
        rotate_left
        · (intro w' hw; clear hw; go_simp <;> with_reducible rfl)
        try simp only [Act.put, List.setIfInBounds_toArray, List.set_cons_zero, List.set_cons_succ]
        refine wpAnyF_one (i := 16) (by kernel_rfl) (wpOp_run rfl (by rfl) ?_)
        go_simp
        have HX6 := hid (show (w5.alloc (.cells #[.int .i64 0, .int .i64 0, .string { data := #[] }, .slice none 0 0] 24)).heap[w5.heap.size]? = _ from blk_new _ _)
        have HB6 := hid (HB5.out.alloc HB5.out.size (.cells #[.int .i64 0, .int .i64 0, .string { data := #[] }, .slice none 0 0] 24))
        have HT6 := hid (Tm.rep_lasts.1 _ _ (w5.alloc (.cells #[.int .i64 0, .int .i64 0, .string { data := #[] }, .slice none 0 0] 24)) _ _ (Tm.rep_lasts.2.1 _ (fun b => wr.heap.size ≤ b ∧ b ≠ w5.heap.size) _ _ _ HUS.out (fun b hb h => ⟨by unfold New at h; omega, by omega⟩)) (Keeps.alloc _ w5 _))
        have hbx : wr.heap.size ≤ w5.heap.size := HB5.out.size
        obtain ⟨bx, hbxe⟩ : ∃ bx, bx = w5.heap.size := ⟨_, rfl⟩
        rw [← hbxe] at HX6 HT6 hbx
        rw [← hbxe]
        clear hbxe
        refine ⟨fun _ _ _ => HB6.out, ?_⟩
        generalize w5.alloc (.cells #[.int .i64 0, .int .i64 0, .string { data := #[] }, .slice none 0 0] 24) = W6 at *
        try simp only [Act.put, List.setIfInBounds_toArray, List.set_cons_zero, List.set_cons_succ]
        obtain ⟨x0, x1, x2, x3, xf⟩ := blk4 HX6.out
        have hxl6 := blk_lt HX6.out
        have hcs := cell_set
        refine wpAnyF_one (i := 17) (by kernel_rfl) (wpOp_run rfl (by rfl) ?_)
        go_simp
        have HBX := hid (show Below wr.heap.size wr ((((W6.setCell ⟨bx, 0, none⟩ (.int .i64 (termF m.h pl left).1.kind)).setCell ⟨bx, 1, none⟩ (.int .i64 (termF m.h pl left).1.n)).setCell ⟨bx, 2, none⟩ (.string (termF m.h pl left).1.s)).setCell ⟨bx, 3, none⟩ (.slice sa (termF m.h pl left).1.args.length sc)) from (((HB6.out.setCell hbx _).setCell hbx _).setCell hbx _).setCell hbx _)
        have HTX := hid (show Tm.rep (fun b => wr.heap.size ≤ b ∧ b ≠ bx) ((((W6.setCell ⟨bx, 0, none⟩ (.int .i64 (termF m.h pl left).1.kind)).setCell ⟨bx, 1, none⟩ (.int .i64 (termF m.h pl left).1.n)).setCell ⟨bx, 2, none⟩ (.string (termF m.h pl left).1.s)).setCell ⟨bx, 3, none⟩ (.slice sa (termF m.h pl left).1.args.length sc)) (termF m.h pl left).1 [.int .i64 (termF m.h pl left).1.kind, .int .i64 (termF m.h pl left).1.n, .string (termF m.h pl left).1.s, .slice sa (termF m.h pl left).1.args.length sc] from Tm.rep_lasts.1 _ _ _ _ _ HT6.out ((((Keeps.setCell _ W6 ⟨bx, 0, none⟩ _ (fun h => h.2 rfl)).trans (Keeps.setCell _ _ ⟨bx, 1, none⟩ _ (fun h => h.2 rfl))).trans (Keeps.setCell _ _ ⟨bx, 2, none⟩ _ (fun h => h.2 rfl))).trans (Keeps.setCell _ _ ⟨bx, 3, none⟩ _ (fun h => h.2 rfl))))
        have HXX := hid (show ((((W6.setCell ⟨bx, 0, none⟩ (.int .i64 (termF m.h pl left).1.kind)).setCell ⟨bx, 1, none⟩ (.int .i64 (termF m.h pl left).1.n)).setCell ⟨bx, 2, none⟩ (.string (termF m.h pl left).1.s)).setCell ⟨bx, 3, none⟩ (.slice sa (termF m.h pl left).1.args.length sc)).heap[bx]? = some (.cells #[.int .i64 (termF m.h pl left).1.kind, .int .i64 (termF m.h pl left).1.n, .string (termF m.h pl left).1.s, .slice sa (termF m.h pl left).1.args.length sc] 24 (0, 0)) from (blk_set ((blk_set ((blk_set ((blk_set HX6.out 0 _).trans rfl) 1 _).trans rfl) 2 _).trans rfl) 3 _).trans rfl)
        refine ⟨fun _ _ _ => HBX.out, ?_⟩
        generalize (((W6.setCell ⟨bx, 0, none⟩ (.int .i64 (termF m.h pl left).1.kind)).setCell ⟨bx, 1, none⟩ (.int .i64 (termF m.h pl left).1.n)).setCell ⟨bx, 2, none⟩ (.string (termF m.h pl left).1.s)).setCell ⟨bx, 3, none⟩ (.slice sa (termF m.h pl left).1.args.length sc) = W8 at *
        try simp only [Act.put, List.setIfInBounds_toArray, List.set_cons_zero, List.set_cons_succ]
        clear x0 x1 x2 x3 xf
        refine wpAnyF_one (i := 18) (by kernel_rfl) (wpOp_run rfl (by rfl) ?_)
        go_simp
        refine ⟨fun _ _ h => h, ?_⟩
        try simp only [Act.put, List.setIfInBounds_toArray, List.set_cons_zero, List.set_cons_succ]
        refine wpAnyF_one (i := 19) (by kernel_rfl) (wpOp_run rfl (by rfl) ?_)
        go_simp
        refine ⟨fun _ _ h => h, wpAnyF_done (by kernel_rfl) ?_ _⟩
        have hz8 := HBX.out.size
        have HV8 := hid (HV.out.below HBX.out)
        have HO8 := hid (HO.out.below Tm.rep_lasts HBX.out)
        have hgl8 : g < W8.heap.size := by omega
        have hxl8 := blk_lt HXX.out
        by_cases he0 : (termF m.h pl left).2.2 = 0
        · have HNX2 := hid (HNX.out.trans (if_neg (not_not_intro he0)))
          obtain ⟨hle1, hle2⟩ := termF_left ⟨hl0, hl200⟩ he0
          have hle3 : (0 : Int) ≤ ((termF m.h pl left).1.nodes : Int) := Int.natCast_nonneg _
          rw [he0]
          have hwr2 : IntKind.i64.wrap (left - (termF m.h pl left).2.1) = left - (termF m.h pl left).2.1 := IntWalk.i64_in _ (by omega)
          have HL0 := hid (show 0 ≤ left - (termF m.h pl left).2.1 by omega)
          clear hle1 hle2 hle3 he0 hlt' hwr b0 b1 b2 b3 b4 b5 b6 b7 b8 b9 bf
          obtain ⟨x0, x1, x2, x3, xf⟩ := blk4 HXX.out
          have hq9 : j + 1 ≤ q := hlt
          have hLn := hid (show ts.length < 4194304 ∧ w.heap.size ≤ W8.heap.size by omega)
          have HLT := hid HO.out.lt
          go_wp2_with (at_builtin; go_must (refine wpList_app1 rfl (.tmp 39) (.tmp 41) 22 rfl w.heap.size 24 4 56 tyTerm Tm.rep_lasts (A := fun b => w.heap.size ≤ b) _ _ rfl HO8.out (termF m.h pl left).1 [_, _, _, _] rfl rfl (Tm.rep_lasts.2.1 _ _ _ _ _ HTX.out (fun b hb h => ⟨by omega, fun e => by have := (HLT.out b e).2; have := h.1; omega⟩)) hLn.out ?_); go_must (intro v2 w6 hown2 hgrew; obtain ⟨va2, vc2, hv2, hvc2⟩ := hown2.val; rw [show (ts ++ [(termF m.h pl left).1]).length = ts.length + 1 by simp] at hv2; subst hv2; have HO2 := hid hown2; have HG2 := hid hgrew; clear hown2 hgrew))
          have HB9 := hid (HG2.out.below ((HBW.out.trans (HBX.out.mono hsz)).alloc (by omega) _) (by simp; omega) (fun k hk => (HLT.out k hk).1))
          go_roundw
          case rel => exact ⟨j + 1, _, ts ++ [(termF m.h pl left).1], hq9, by go_num, rfl, HNX2.out, HB9.out, HO2.out⟩
          case measure => simp [intOf]; omega
        · have HNX2 := hid (HNX.out.trans (if_pos he0))
          have hres := hid (show answerM P q m = (.off, m.put 4) by rw [HAF.out, tellM_none (j := j + 1) hlt HNX2.out])
          have HEN := hid (mend_ok 4 (by unfold I64; omega) HV8.out (by have := HOUT.out; omega))
          clear hlt' hwr b0 b1 b2 b3 b4 b5 b6 b7 b8 b9 bf
          go_wp2_with fail
          refine HEN.out.mono ?_
          rintro e W9 ⟨rfl, hst⟩
          have HST := hid (MaStep.trans (Ch.of_below (HBW.out.trans (HBX.out.mono hsz))) (MGrow.refl w _) hst)
          clear hst
          go_wp2_with fail
          go_ret
          rw [hres.out]
          exact ⟨rfl, HST.out⟩
      · go_simp
        have HX3 := hid (show (Wd.alloc (.cells #[.int .i64 0, .int .i64 0, .string { data := #[] }, .slice none 0 0] 24)).heap[Wd.heap.size]? = _ from blk_new _ _)
        have HBW3 := hid (HBWd.out.alloc HBWd.out.size (.cells #[.int .i64 0, .int .i64 0, .string { data := #[] }, .slice none 0 0] 24))
        obtain ⟨bx, hbxe⟩ : ∃ bx, bx = Wd.heap.size := ⟨_, rfl⟩
        have hbx : wr.heap.size ≤ bx := by omega
        have hs3 : (Wd.alloc (.cells #[.int .i64 0, .int .i64 0, .string { data := #[] }, .slice none 0 0] 24)).heap.size = bx + 1 := by simp [hbxe]
        rw [← hbxe] at HX3
        rw [← hbxe]
        clear hbxe
        refine ⟨fun _ _ _ => HBW3.out, ?_⟩
        generalize Wd.alloc (.cells #[.int .i64 0, .int .i64 0, .string { data := #[] }, .slice none 0 0] 24) = W3 at *
        try simp only [Act.put, List.setIfInBounds_toArray, List.set_cons_zero, List.set_cons_succ]
        refine wpAnyF_one (i := 11) (by kernel_rfl) (wpOp_run rfl (by rfl) ?_)
        go_simp
        refine (HTE.out W3 HBW3.out).mono ?_
        rintro e w5 ⟨r, rfl, hb5, us, rfl, hus⟩
        obtain ⟨sa, sc, rfl, -⟩ := Tm.rep4 hus
        have HB5 := hid (HBW3.out.trans (hb5.mono HBW3.out.size))
        have hz5 := hb5.size
        have HUS := hid hus
        have HX6 := hid (blk_below HX3.out hb5)
        clear hb5 hus
        refine ⟨fun _ _ _ => HB5.out, ?_⟩
        try simp only [Act.put, List.setIfInBounds_toArray, List.set_cons_zero, List.set_cons_succ]
        refine wpTk (i := 12) (v := ?_) rfl (Or.inl ⟨by rfl, ?_⟩) HB5.out ?_
        rotate_left
        · (intro w' hw; clear hw; go_simp <;> with_reducible rfl)
        try simp only [Act.put, List.setIfInBounds_toArray, List.set_cons_zero, List.set_cons_succ]
        refine wpTk (i := 13) (v := ?_) rfl (Or.inl ⟨by rfl, ?_⟩) HB5.out ?_
        rotate_left
        · (intro w' hw; clear hw; go_simp <;> with_reducible rfl)
        try simp only [Act.put, List.setIfInBounds_toArray, List.set_cons_zero, List.set_cons_succ]
        refine wpTk (i := 14) (v := ?_) rfl (Or.inl ⟨by rfl, ?_⟩) HB5.out ?_
        rotate_left
        · (intro w' hw; clear hw; go_simp <;> with_reducible rfl)
        try simp only [Act.put, List.setIfInBounds_toArray, List.set_cons_zero, List.set_cons_succ]
        refine wpTk (i := 15) (v := ?_) rfl (Or.inl ⟨by rfl, ?_⟩) HB5.out ?_
        rotate_left
        · (intro w' hw; clear hw; go_simp <;> with_reducible rfl)
        try simp only [Act.put, List.setIfInBounds_toArray, List.set_cons_zero, List.set_cons_succ]
        have HB6 := hid HB5.out
        have HT6 := hid (Tm.rep_lasts.2.1 _ (fun b => wr.heap.size ≤ b ∧ b ≠ bx) _ _ _ HUS.out (fun b hb h => ⟨by unfold New at h; omega, by unfold New at h; omega⟩))
        generalize w5 = W6 at *
        obtain ⟨x0, x1, x2, x3, xf⟩ := blk4 HX6.out
        have hxl6 := blk_lt HX6.out
        have hcs := cell_set
        refine wpAnyF_one (i := 17) (by kernel_rfl) (wpOp_run rfl (by rfl) ?_)
        go_simp
        have HBX := hid (show Below wr.heap.size wr ((((W6.setCell ⟨bx, 0, none⟩ (.int .i64 (termF m.h pl left).1.kind)).setCell ⟨bx, 1, none⟩ (.int .i64 (termF m.h pl left).1.n)).setCell ⟨bx, 2, none⟩ (.string (termF m.h pl left).1.s)).setCell ⟨bx, 3, none⟩ (.slice sa (termF m.h pl left).1.args.length sc)) from (((HB6.out.setCell hbx _).setCell hbx _).setCell hbx _).setCell hbx _)
        have HTX := hid (show Tm.rep (fun b => wr.heap.size ≤ b ∧ b ≠ bx) ((((W6.setCell ⟨bx, 0, none⟩ (.int .i64 (termF m.h pl left).1.kind)).setCell ⟨bx, 1, none⟩ (.int .i64 (termF m.h pl left).1.n)).setCell ⟨bx, 2, none⟩ (.string (termF m.h pl left).1.s)).setCell ⟨bx, 3, none⟩ (.slice sa (termF m.h pl left).1.args.length sc)) (termF m.h pl left).1 [.int .i64 (termF m.h pl left).1.kind, .int .i64 (termF m.h pl left).1.n, .string (termF m.h pl left).1.s, .slice sa (termF m.h pl left).1.args.length sc] from Tm.rep_lasts.1 _ _ _ _ _ HT6.out ((((Keeps.setCell _ W6 ⟨bx, 0, none⟩ _ (fun h => h.2 rfl)).trans (Keeps.setCell _ _ ⟨bx, 1, none⟩ _ (fun h => h.2 rfl))).trans (Keeps.setCell _ _ ⟨bx, 2, none⟩ _ (fun h => h.2 rfl))).trans (Keeps.setCell _ _ ⟨bx, 3, none⟩ _ (fun h => h.2 rfl))))
        have HXX := hid (show ((((W6.setCell ⟨bx, 0, none⟩ (.int .i64 (termF m.h pl left).1.kind)).setCell ⟨bx, 1, none⟩ (.int .i64 (termF m.h pl left).1.n)).setCell ⟨bx, 2, none⟩ (.string (termF m.h pl left).1.s)).setCell ⟨bx, 3, none⟩ (.slice sa (termF m.h pl left).1.args.length sc)).heap[bx]? = some (.cells #[.int .i64 (termF m.h pl left).1.kind, .int .i64 (termF m.h pl left).1.n, .string (termF m.h pl left).1.s, .slice sa (termF m.h pl left).1.args.length sc] 24 (0, 0)) from (blk_set ((blk_set ((blk_set ((blk_set HX6.out 0 _).trans rfl) 1 _).trans rfl) 2 _).trans rfl) 3 _).trans rfl)
        refine ⟨fun _ _ _ => HBX.out, ?_⟩
        generalize (((W6.setCell ⟨bx, 0, none⟩ (.int .i64 (termF m.h pl left).1.kind)).setCell ⟨bx, 1, none⟩ (.int .i64 (termF m.h pl left).1.n)).setCell ⟨bx, 2, none⟩ (.string (termF m.h pl left).1.s)).setCell ⟨bx, 3, none⟩ (.slice sa (termF m.h pl left).1.args.length sc) = W8 at *
        try simp only [Act.put, List.setIfInBounds_toArray, List.set_cons_zero, List.set_cons_succ]
        clear x0 x1 x2 x3 xf
        refine wpAnyF_one (i := 18) (by kernel_rfl) (wpOp_run rfl (by rfl) ?_)
        go_simp
        refine ⟨fun _ _ h => h, ?_⟩
        try simp only [Act.put, List.setIfInBounds_toArray, List.set_cons_zero, List.set_cons_succ]
        refine wpAnyF_one (i := 19) (by kernel_rfl) (wpOp_run rfl (by rfl) ?_)
        go_simp
        refine ⟨fun _ _ h => h, wpAnyF_done (by kernel_rfl) ?_ _⟩
        have hz8 := HBX.out.size
        have HV8 := hid (HV.out.below HBX.out)
        have HO8 := hid (HO.out.below Tm.rep_lasts HBX.out)
        have hgl8 : g < W8.heap.size := by omega
        have hxl8 := blk_lt HXX.out
        by_cases he0 : (termF m.h pl left).2.2 = 0
        · have HNX2 := hid (HNX.out.trans (if_neg (not_not_intro he0)))
          obtain ⟨hle1, hle2⟩ := termF_left ⟨hl0, hl200⟩ he0
          have hle3 : (0 : Int) ≤ ((termF m.h pl left).1.nodes : Int) := Int.natCast_nonneg _
          rw [he0]
          have hwr2 : IntKind.i64.wrap (left - (termF m.h pl left).2.1) = left - (termF m.h pl left).2.1 := IntWalk.i64_in _ (by omega)
          have HL0 := hid (show 0 ≤ left - (termF m.h pl left).2.1 by omega)
          clear hle1 hle2 hle3 he0 hlt' hwr b0 b1 b2 b3 b4 b5 b6 b7 b8 b9 bf
          obtain ⟨x0, x1, x2, x3, xf⟩ := blk4 HXX.out
          have hq9 : j + 1 ≤ q := hlt
          have hLn := hid (show ts.length < 4194304 ∧ w.heap.size ≤ W8.heap.size by omega)
          have HLT := hid HO.out.lt
          go_wp2_with (at_builtin; go_must (refine wpList_app1 rfl (.tmp 39) (.tmp 41) 22 rfl w.heap.size 24 4 56 tyTerm Tm.rep_lasts (A := fun b => w.heap.size ≤ b) _ _ rfl HO8.out (termF m.h pl left).1 [_, _, _, _] rfl rfl (Tm.rep_lasts.2.1 _ _ _ _ _ HTX.out (fun b hb h => ⟨by omega, fun e => by have := (HLT.out b e).2; have := h.1; omega⟩)) hLn.out ?_); go_must (intro v2 w6 hown2 hgrew; obtain ⟨va2, vc2, hv2, hvc2⟩ := hown2.val; rw [show (ts ++ [(termF m.h pl left).1]).length = ts.length + 1 by simp] at hv2; subst hv2; have HO2 := hid hown2; have HG2 := hid hgrew; clear hown2 hgrew))
          have HB9 := hid (HG2.out.below ((HBW.out.trans (HBX.out.mono hsz)).alloc (by omega) _) (by simp; omega) (fun k hk => (HLT.out k hk).1))
          go_roundw
          case rel => exact ⟨j + 1, _, ts ++ [(termF m.h pl left).1], hq9, by go_num, rfl, HNX2.out, HB9.out, HO2.out⟩
          case measure => simp [intOf]; omega
        · have HNX2 := hid (HNX.out.trans (if_pos he0))
          have hres := hid (show answerM P q m = (.off, m.put 4) by rw [HAF.out, tellM_none (j := j + 1) hlt HNX2.out])
          have HEN := hid (mend_ok 4 (by unfold I64; omega) HV8.out (by have := HOUT.out; omega))
          clear hlt' hwr b0 b1 b2 b3 b4 b5 b6 b7 b8 b9 bf
          go_wp2_with fail
          refine HEN.out.mono ?_
          rintro e W9 ⟨rfl, hst⟩
          have HST := hid (MaStep.trans (Ch.of_below (HBW.out.trans (HBX.out.mono hsz))) (MGrow.refl w _) hst)
          clear hst
          go_wp2_with fail
          go_ret
          rw [hres.out]
          exact ⟨rfl, HST.out⟩
    · have hje : j = q := by omega
      have hAF2 := HTK.out
      rw [hje] at hAF2
      have HAF2 := hid (show answerM P q m = if m.out.length + 1 ≥ 12 then (.off, ({ m with out := m.out ++ [⟨1, tidy ts⟩] } : Mv).put 6) else backM P m.choices { m with out := m.out ++ [⟨1, tidy ts⟩] } by rw [HAF.out, hAF2])
      clear hje hAF2
      have HTS := hid (HO.out.sl Tm.rep_lasts (A := fun b => w.heap.size ≤ b) (by omega) (fun b hb => hb))
      have hnd := hid (show Tm.nodesL ts ≤ 4194303 by have := HNN.out; omega)
      have hM1 : wr.drew.cell? ⟨g, 9, none⟩ = some (.slice oa m.out.length oc) := b9
      go_wp2_with fail
      refine wp_region_F (F := fun k w' => k = 4 → w'.cell? ⟨g, 9, none⟩ = some (.slice oa m.out.length oc)) (by kernel_rfl) ?_
      refine wpTk (i := 0) (v := ?_) rfl (Or.inl ⟨by rfl, ?_⟩) (fun _ => hM1) ?_
      rotate_left
      · (intro w' hw; clear hw; go_simp <;> with_reducible rfl)
      try simp only [Act.put, List.setIfInBounds_toArray, List.set_cons_zero, List.set_cons_succ]
      refine wpTk (i := 1) (v := ?_) rfl (Or.inl ⟨by rfl, ?_⟩) (fun _ => hM1) ?_
      rotate_left
      · (intro w' hw; clear hw; go_simp <;> with_reducible rfl)
      try simp only [Act.put, List.setIfInBounds_toArray, List.set_cons_zero, List.set_cons_succ]
      refine wpTk (i := 2) (v := ?_) rfl (Or.inl ⟨by rfl, ?_⟩) (fun _ => hM1) ?_
      rotate_left
      · (intro w' hw; clear hw; go_simp <;> with_reducible rfl)
      try simp only [Act.put, List.setIfInBounds_toArray, List.set_cons_zero, List.set_cons_succ]
      refine wpTk (i := 3) (v := ?_) rfl (Or.inl ⟨by rfl, ?_⟩) (fun _ => hM1) ?_
      rotate_left
      · (intro w' hw; clear hw; go_simp <;> with_reducible rfl)
      try simp only [Act.put, List.setIfInBounds_toArray, List.set_cons_zero, List.set_cons_succ]
      refine wpTk (i := 4) (v := ?_) rfl (Or.inl ⟨by rfl, ?_⟩) (fun _ => hM1) ?_
      rotate_left
      · (intro w' hw; have q0 := hw rfl; clear hw; go_simp <;> with_reducible rfl)
      try simp only [Act.put, List.setIfInBounds_toArray, List.set_cons_zero, List.set_cons_succ]
      refine wpTk (i := 5) (v := ?_) rfl (Or.inl ⟨by rfl, ?_⟩) (fun _ => hM1) ?_
      rotate_left
      · (intro w' hw; clear hw; go_simp <;> with_reducible rfl)
      try simp only [Act.put, List.setIfInBounds_toArray, List.set_cons_zero, List.set_cons_succ]
      refine wpAnyF_one (i := 6) (by kernel_rfl) (wpOp_run rfl (by rfl) ?_)
      go_simp
      refine (tidy_ok ts hnd.out (fun b => w.heap.size ≤ b) wr.drew _ (SlR.keeps Tm.rep_lasts HTS.out (Keeps.drew _ _))).mono ?_
      rintro e w5 ⟨lv, rfl, hb5, hlv⟩
      have HB5 := hid (show Below wr.heap.size wr w5 from ((Below.refl _ wr).drew).trans hb5)
      have HLV := hid (show TmsR (New wr.drew) w5 (tidy ts) lv from hlv)
      obtain ⟨la, lc, -, -, hlve, -⟩ := SlR.at hlv
      subst hlve
      have HV5 := hid (HV.out.below HB5.out)
      have HO5 := hid HV5.out.out
      have hz5 := hb5.size
      simp only [World.size_drew] at hz5
      have hF5 := hid (show w5.cell? ⟨g, 9, none⟩ = some (.slice oa m.out.length oc) from (box10 HV5.out.box).2.2.2.2.2.2.2.2.2.1)
      clear hb5 hlv
      refine ⟨fun _ _ _ _ => hF5.out, ?_⟩
      try simp only [Act.put, List.setIfInBounds_toArray, List.set_cons_zero, List.set_cons_succ]
      refine wpTk (i := 7) (v := ?_) rfl (Or.inl ⟨by rfl, ?_⟩) (fun _ => hF5.out) ?_
      rotate_left
      · (intro w' hw; clear hw; go_simp <;> with_reducible rfl)
      try simp only [Act.put, List.setIfInBounds_toArray, List.set_cons_zero, List.set_cons_succ]
      refine wpAnyF_one (i := 8) (by kernel_rfl) (wpOp_run rfl (by rfl) ?_)
      go_simp
      refine ⟨fun _ _ _ _ => (Keeps.alloc (fun _ => True) w5 _).cell trivial hF5.out, ?_⟩
      try simp only [Act.put, List.setIfInBounds_toArray, List.set_cons_zero, List.set_cons_succ]
      refine wpAnyF_one (i := 9) (by kernel_rfl) (wpOp_run rfl (by rfl) ?_)
      have hml := hid HV5.out.mm_lt
      refine wp_app1 (.tmp 48) (.tmp 52) 51 rfl base 55 2 32 tyEvs evR_lasts (A := MA g ⟨.slice ga m.goals.length gc, .slice ca m.choices.length cc, .slice oa m.out.length oc⟩) (.slice oa m.out.length oc) m.out rfl HO5.out ⟨1, tidy ts⟩ [.int .i64 1, .slice la (tidy ts).length lc] rfl rfl ⟨_, rfl, SlR.mono Tm.rep_lasts (by omega) HLV.out (fun b _ hb => ⟨fun hs => by have h1 := (HV.out.mm_lt b hs).2; have h2 : wr.drew.heap.size ≤ b := hb; simp only [World.size_drew] at h2; omega, fun e => by have h1 := (HV.out.out.lt b e).2; have h2 : wr.drew.heap.size ≤ b := hb; simp only [World.size_drew] at h2; omega⟩), show I64 1 by unfold I64; omega⟩ ⟨by have := HOUT.out; omega, by have := HV5.out.lt; omega⟩ ?_
      intro v2 w6 hown2 hgrew
      have hog : ownB (.slice oa m.out.length oc) ≠ some g := fun e => HV5.out.apart.og e
      have HG6 := hid (show w6.heap[g]? = _ from (hgrew.grown.block g (by simp; omega) (fun e => HV5.out.apart.og e.symm)).trans (blk_alloc HV5.out.box _))
      obtain ⟨va2, vc2, hv2, hvl2, hvm2⟩ := OwnR.val' hown2
      rw [show (m.out ++ [(⟨1, tidy ts⟩ : Ev)]).length = m.out.length + 1 by simp] at hv2
      subst hv2
      have HST6 := hid (HV5.out.tell (by have := HOUT.out; omega) hown2 hgrew)
      have hgg6 : g < w6.heap.size := blk_lt HG6.out
      have hzz6 := hgrew.size
      refine ⟨fun _ _ _ _ => ?_, ?_⟩
      · exact (hgrew.keeps (A := fun b => ownB (.slice oa m.out.length oc) ≠ some b) (fun _ h => h)).cell hog ((Keeps.alloc (fun _ => True) w5 _).cell trivial hF5.out)
      clear hown2 hgrew b0 b1 b2 b3 b4 b5 b6 b7 b8 b9 bf
      obtain ⟨b0, b1, b2, b3, b4, b5, b6, b7, b8, b9, bf⟩ := box10 HG6.out
      simp only at b3 b4 b9
      try simp only [Act.put, List.setIfInBounds_toArray, List.set_cons_zero, List.set_cons_succ]
      refine wpTk (i := 10) (v := ?_) rfl (Or.inl ⟨by rfl, ?_⟩) (fun h => by omega) ?_
      rotate_left
      · (intro w' hw; clear hw; go_simp <;> with_reducible rfl)
      try simp only [Act.put, List.setIfInBounds_toArray, List.set_cons_zero, List.set_cons_succ]
      refine wpTk (i := 11) (v := ?_) rfl (Or.inl ⟨by rfl, ?_⟩) (fun h => by omega) ?_
      rotate_left
      · (intro w' hw; clear hw; go_simp <;> with_reducible rfl)
      try simp only [Act.put, List.setIfInBounds_toArray, List.set_cons_zero, List.set_cons_succ]
      refine wpAnyF_one (i := 12) (by kernel_rfl) (wpOp_run rfl (by rfl) ?_)
      go_simp
      refine ⟨fun k0 hk0 _ h12 => ?_, wpAnyF_done (by kernel_rfl) ?_ _⟩
      · subst h12
        exact absurd (show waits _ 12 4 = true by kernel_rfl) (by rw [hk0]; decide)
      clear b0 b1 b2 b3 b4 b5 b6 b7 b8 b9 bf
      generalize w6.setCell ⟨g, 9, none⟩ (.slice va2 (m.out.length + 1) vc2) = w7 at *
      obtain ⟨hc7, ht7, o7, hmv7, hch7, hgr7⟩ := HST6.out
      have HV7 := hid hmv7
      have HSTEP := hid (fun (m' : Mv) (W' : World) (hh : MaStep base P q g (.slice pa P.length pc) o7 m' w7 W') => (MaStep.trans (Ch.of_below (HBW.out.trans (HB5.out.mono hsz))) (MGrow.refl w _) (MaStep.trans hch7 hgr7 hh)))
      obtain ⟨-, -, -, -, -, -, o7a, o7c, -, -, -, -, -, -, -, ho7, -⟩ := hmv7.vals
      obtain ⟨b0, b1, b2, b3, b4, b5, b6, b7, b8, b9, bf⟩ := box10 hmv7.box
      have hgl7 := hmv7.lt.1
      rw [ho7] at b9
      simp only [List.length_append, List.length_singleton] at b9
      have hout18 : m.out.length ≤ 18 := by have := HOUT.out; omega
      have HBK := hid (fun (h12 : ¬ m.out.length + 1 ≥ 12) => mback_ok hmv7 HP.out (HPRE.out _) HFEW.out HFIT.out (by simp; omega))
      have HEN := hid (mend_ok 6 (by unfold I64; omega) hmv7 (by simp; omega))
      clear hmv7 hch7 hgr7 ho7
      by_cases h12 : m.out.length + 1 ≥ 12
      · have hres := hid (HAF2.out.trans (if_pos h12))
        go_wp2_with fail
        refine HEN.out.mono ?_
        rintro e W9 ⟨rfl, hst⟩
        have HST := hid (HSTEP.out _ _ hst)
        clear hst
        go_wp2_with fail
        go_ret
        rw [hres.out]
        exact ⟨rfl, HST.out⟩
      · have hres := hid (HAF2.out.trans (if_neg h12))
        go_wp2_with fail
        refine (HBK.out h12).mono ?_
        rintro e W9 ⟨rfl, hst⟩
        have HST := hid (HSTEP.out _ _ hst)
        clear hst
        go_wp2_with fail
        go_ret
        rw [hres.out]
        exact ⟨rfl, HST.out⟩
end
end Go.Proofs.Ytlpmfkpefoegeab
