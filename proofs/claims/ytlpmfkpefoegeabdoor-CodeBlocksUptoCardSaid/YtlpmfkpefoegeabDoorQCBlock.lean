/-
  Clauses as blocks, as the document's own answer has them.
-/
import Derived.Test.YtlpmfkpefoegeabDoorQBlocks
import Derived.Test.YtlpmfkpefoegeabDoorQTwo
namespace Go.Proofs.YtlpmfkpefoegeabDoor
set_option linter.unusedVariables false
set_option linter.unusedSimpArgs false
open Go.RowKit

theorem own_oneB {α : Type} {R : (Nat → Prop) → World → α → List Value → Prop} (hR : Lasts R) {A : Nat → Prop} {w : World} {x : α} {us : List Value} {size : Nat} {E : TypeId} (hx : R (fun b => A b ∧ b ≠ w.heap.size) w x us) (hl : us.length = size) (hs : us.flatMap (fun u => [u]) = us) :
    OwnR (w.alloc (.cells us.toArray E)) w.heap.size E size R A [x] (.slice (some ⟨w.heap.size, 0, none⟩) 1 1) := by
  refine ⟨[us], rfl, ⟨by simp [hl], .inr ⟨w.heap.size, 1, us.toArray, rfl, by omega, Nat.le_refl _, heap_alloc_new _ _, by simp, by simp [maxLen], by simp [hl], by simp [← hl]⟩⟩, fun i y vs hy hv => ?_⟩
  cases i with
  | zero =>
    simp only [List.getElem?_cons_zero, Option.some.injEq] at hy hv
    subst hy hv
    exact ⟨hl, hR.1 _ _ _ _ _ (hR.2.1 _ _ _ _ _ hx (fun b hb hb2 => ⟨hb2.1, by simp [ownB]; exact fun e => hb2.2 e.symm⟩)) (Keeps.alloc _ _ _)⟩
  | succ i => simp at hy

theorem SlR.dropB {α : Type} {size : Nat} {R : (Nat → Prop) → World → α → List Value → Prop} {A : Nat → Prop} {w : World} {l : List α} {a : Option Addr} {len cap : Nat} (h : SlR size R A w l (.slice a len cap)) {k : Nat} (hk : k ≤ l.length) :
    SlR size R A w (l.drop k) (.slice (if cap = k then a else a.map fun x => x.add (k * size)) (len - k) (cap - k)) := by
  obtain ⟨b, off, hs, he⟩ := h
  refine ⟨b, off + k * size, ?_, fun i x hx => ?_⟩
  · obtain ⟨h1, ⟨h0, a', c', e, hc⟩ | ⟨h0, hA, c', e, hc, hm⟩⟩ := hs
    · simp only [Value.slice.injEq] at e
      obtain ⟨rfl, rfl, rfl⟩ := e
      exact ⟨by simp; omega, .inl ⟨by simp; omega, _, _, by rw [Nat.zero_sub], by omega⟩⟩
    · simp only [Value.slice.injEq] at e
      obtain ⟨rfl, rfl, rfl⟩ := e
      by_cases hkl : k = l.length
      · exact ⟨by simp; omega, .inl ⟨by simp; omega, _, _, by rw [hkl, Nat.sub_self], by omega⟩⟩
      · refine ⟨by simp; omega, .inr ⟨by simp; omega, hA, cap - k, ?_, by simp; omega, by omega⟩⟩
        rw [if_neg (by omega), List.length_drop]
        simp [Addr.add]
  · rw [List.getElem?_drop] at hx
    obtain ⟨vs, h1, h2, h3⟩ := he _ _ hx
    exact ⟨vs, h1, h2, by rw [show off + k * size + i * size = off + (k + i) * size by rw [Nat.add_mul]; omega]; exact h3⟩

theorem slice_from_numsB (W : World) (a : Option Addr) (len cap m : Nat) (hm : m ≤ len) : (Instr.slice 48 (.slice a len cap) (some (.int .i64 (m : Int))) none none).run Tryd.prog W = .ok (.slice (if cap = m then a else a.map fun x => x.add (m * 1)) (len - m) (cap - m)) W := by
  have h0 : (0 : Int) ≤ (m : Int) := Int.natCast_nonneg _
  have h1 : (m : Int) ≤ (len : Int) := by omega
  rw [Go.run_slice_l (P := Tryd.prog) (w := W) (t := 48) (a := a) (len := len) (cap := cap) (ht := by kernel_rfl) (kl := .i64) (l := (m : Int)) h0 h1]
  obtain ⟨⟨i, z, ht, hi, hz, k1, k2, k3⟩, -⟩ := tyNums
  have e : Program.elem Tryd.prog 48 = 3 := by kernel_rfl
  simp [e, sizeOf, typeInfo, hi, k1, sliced]

theorem begF_lenB (n : Nat) : (begF n).length = n := by simp [begF]
/-- the goals' cells of a clause, the head's ahead -/
theorem clause_goals (c : Cl) : goalsF (begF c.vars.toNat) (c.head :: c.body) = ((clauseB c).cells, (clauseB c).head :: (clauseB c).goals) := by
  simp only [goalsF, clauseB, begF_lenB]

set_option maxRecDepth 100000 in
set_option maxHeartbeats 8000000 in
theorem cblock_ok (c : Cl) (hnd : c.nodes ≤ 1048576) (w : World) (us : List Value) (hc : Cl.rep (fun b => b < w.heap.size) w c us) :
    Calls Tryd.prog 33 #[.agg us.toArray] w (Pure w (BkPost (New w) (clauseF c))) := by
  have hcs := cell_set
  have HIC := hid (fun (W : World) (hb : Below w.heap.size w W) => isClause_ok c (by omega) _ W us (Cl.rep_lasts.1 _ _ W _ _ hc (Keeps.of_below hb)))
  obtain ⟨ha, hac, ba, bac, rfl, hhr, hbr, hvi⟩ := hc
  have HHR := hid (fun (W : World) (hb : Below w.heap.size w W) => Tm.rep_lasts.1 _ _ W _ _ hhr (Keeps.of_below hb))
  have HBR := hid (fun (W : World) (hb : Below w.heap.size w W) => SlR.keeps (w' := W) Tm.rep_lasts hbr (Keeps.of_below hb))
  clear hhr hbr
  go_enter Tryd.func33, Tryd.ntmps33
  go_wp2_with fail
  obtain ⟨W1, hW1⟩ : ∃ W1, W1 = (w.alloc (.cells #[.int .i64 c.head.kind, .int .i64 c.head.n, .string c.head.s, .slice ha c.head.args.length hac, .slice ba c.body.length bac, .int .i64 c.vars] 39)).alloc (.cells #[.slice none 0 0, .int .i64 0, .int .i64 0, .slice none 0 0] 50) := ⟨_, rfl⟩
  have h2 := heap2 w (.cells #[.int .i64 c.head.kind, .int .i64 c.head.n, .string c.head.s, .slice ha c.head.args.length hac, .slice ba c.body.length bac, .int .i64 c.vars] 39) (.cells #[.slice none 0 0, .int .i64 0, .int .i64 0, .slice none 0 0] 50)
  rw [← hW1] at h2
  obtain ⟨cb, hcb⟩ : ∃ cb, cb = w.heap.size := ⟨_, rfl⟩
  obtain ⟨rb, hrb⟩ : ∃ rb, rb = w.heap.size + 1 := ⟨_, rfl⟩
  have hs1 : W1.heap.size = w.heap.size + 2 := by rw [hW1]; simp
  have HB1 := hid (show Below w.heap.size w W1 by rw [hW1]; exact ((Below.refl _ _).alloc (Nat.le_refl _) _).alloc (by simp) _)
  rw [← hrb] at h2
  rw [← hcb] at h2
  have HXC := hid (fun (W : World) (hb : Below W1.heap.size W1 W) => (show W.heap[cb]? = some (.cells #[.int .i64 c.head.kind, .int .i64 c.head.n, .string c.head.s, .slice ha c.head.args.length hac, .slice ba c.body.length bac, .int .i64 c.vars] 39) from blk_below h2.1 hb))
  have HXR := hid (fun (W : World) (hb : Below W1.heap.size W1 W) => (show W.heap[rb]? = some (.cells #[.slice none 0 0, .int .i64 0, .int .i64 0, .slice none 0 0] 50) from blk_below h2.2 hb))
  try rw [← hrb]
  rw [← hW1]
  try rw [← hcb]
  have hcw : w.heap.size ≤ cb := by omega
  have hrw : w.heap.size ≤ rb := by omega
  have hcr : cb ≠ rb := by omega
  have hrc : rb ≠ cb := by omega
  have hcb1 : cb < W1.heap.size := by omega
  have hrb1 : rb < W1.heap.size := by omega
  clear hW1 hcb hrb h2
  have hz1 := HB1.out.size
  refine (HIC.out W1 HB1.out).mono ?_
  rintro e w2 ⟨v, rfl, hb2, g, rfl, hg⟩
  have HB2 := hid hb2
  have HBw2 := hid (HB1.out.trans (hb2.mono hz1))
  have hz2 := hb2.size
  clear hb2
  cases g with
  | false =>
    have hng : ¬ c.Good := fun h => by have := hg.2 h; cases this
    have HQF := hid (show clauseF c = (bk0, 1) by rw [clauseF, if_neg hng])
    obtain ⟨r0, r1, r2, r3, rf⟩ := blk4 (HXR.out w2 HB2.out)
    have hrl := blk_lt (HXR.out w2 HB2.out)
    clear hng hg
    go_wp2_with fail
    refine bodyPost_ret (v := .tuple #[.agg #[.slice none 0 0, .int .i64 0, .int .i64 0, .slice none 0 0], .int .i64 1]) (by simp [results, Tryd.results33, go_sem, hcs, r0, r1, r2, r3]; try rfl) rfl ?_
    rw [HQF.out]
    exact Pure.mk (Below.setCell (Below.setCell (Below.setCell (Below.setCell HBw2.out (by simp only; omega) _) (by simp only; omega) _) (by simp only; omega) _) (by simp only; omega) _) ⟨_, _, rfl, SlR.nil .., SlR.nil ..⟩
  | true =>
    have hgc : c.Good := hg.1 rfl
    have HQF := hid (show clauseF c = (clauseB c, 0) by rw [clauseF, if_pos hgc])
    obtain ⟨⟨v0, v8, l5, lg⟩, hh1, hh2, -⟩ := hgc
    have hall : ∀ t ∈ c.head :: c.body, t.IsGoal ∧ t.Good c.vars := fun t ht => by
      rcases List.mem_cons.1 ht with rfl | ht
      · exact ⟨hh1, hh2.1⟩
      · exact ⟨(lg t ht).1, (lg t ht).2.1⟩
    obtain ⟨n, hn⟩ := Int.eq_ofNat_of_zero_le v0
    have HLG := hid (show laidsF (begF n) (c.head :: c.body) = ((clauseB c).cells, (clauseB c).head :: (clauseB c).goals) by
      rw [laids_goals _ hall, ← clause_goals, hn]; rfl)
    have hndb := nodesL_le c.body (fun g hg => (lg g hg).2.2)
    have hndl : Tm.nodesL (c.head :: c.body) ≤ 4000 := by
      simp only [Tm.nodesL]; have := hh2.2; omega
    have hvars : (clauseB c).vars = (n : Int) := by simp only [clauseB]; exact hn
    have HV := hid hvars
    have hl5' : c.body.length ≤ 5 := l5
    rw [hn] at v8
    clear lg hall hg hh1 hh2 hvars
    have hF0 : w2.drew.heap[cb]? = some (.cells #[.int .i64 c.head.kind, .int .i64 c.head.n, .string c.head.s, .slice ha c.head.args.length hac, .slice ba c.body.length bac, .int .i64 c.vars] 39) := HXC.out w2 HB2.out
    have HRS := hid (fun W (hb : Below w2.heap.size w2 W) => HXR.out W (HB2.out.trans (hb.mono hz2)))
    have HFC := hid (fun W (hb : Below w2.heap.size w2 W) => HXC.out W (HB2.out.trans (hb.mono hz2)))
    rw [hn] at HFC hF0
    have hcvn := hn
    have HVN := hid hn
    go_wp2_with fail
    refine wp_region_F (F := fun k w' => k ≤ 7 → w'.heap[cb]? = some (.cells #[.int .i64 c.head.kind, .int .i64 c.head.n, .string c.head.s, .slice ha c.head.args.length hac, .slice ba c.body.length bac, .int .i64 (n : Int)] 39)) (by kernel_rfl) ?_
    have HF := hF0
    refine wpAnyF_take (i := 0) (v := ?_) rfl (by kernel_rfl) (by kernel_rfl) (by kernel_rfl) (fun _ _ _ h => h) (Or.inl ⟨by rfl, ?_⟩) (fun _ => HF) ?_
    rotate_left
    · (intro w' hw; clear hw; go_simp <;> with_reducible rfl)
    try simp only [Act.put, List.setIfInBounds_toArray, List.set_cons_zero, List.set_cons_succ]
    refine wpAnyF_take (i := 1) (v := .agg #[.int .i64 c.head.kind, .int .i64 c.head.n, .string c.head.s, .slice ha c.head.args.length hac]) rfl (by kernel_rfl) (by kernel_rfl) (by kernel_rfl) (fun _ _ _ h => h) (Or.inl ⟨by rfl, ?_⟩) (fun _ => HF) ?_
    · (intro w' hw; obtain ⟨f0, f1, f2, f3, f4, f5, -⟩ := blk6 (hw (by omega)); clear hw; go_simp)
    try simp only [Act.put, List.setIfInBounds_toArray, List.set_cons_zero, List.set_cons_succ]
    refine wpAnyF_take (i := 3) (v := ?_) rfl (by kernel_rfl) (by kernel_rfl) (by kernel_rfl) (fun _ _ _ h => h) (Or.inl ⟨by rfl, ?_⟩) (fun _ => HF) ?_
    rotate_left
    · (intro w' hw; clear hw; go_simp <;> with_reducible rfl)
    try simp only [Act.put, List.setIfInBounds_toArray, List.set_cons_zero, List.set_cons_succ]
    refine wpAnyF_take (i := 4) (v := ?_) rfl (by kernel_rfl) (by kernel_rfl) (by kernel_rfl) (fun _ _ _ h => h) (Or.inl ⟨by rfl, ?_⟩) (fun _ => HF) ?_
    rotate_left
    · (intro w' hw; obtain ⟨f0, f1, f2, f3, f4, f5, -⟩ := blk6 (hw (by omega)); clear hw; go_simp <;> with_reducible rfl)
    try simp only [Act.put, List.setIfInBounds_toArray, List.set_cons_zero, List.set_cons_succ]
    refine wpAnyF_take (i := 6) (v := ?_) rfl (by kernel_rfl) (by kernel_rfl) (by kernel_rfl) (fun _ _ _ h => h) (Or.inl ⟨by rfl, ?_⟩) (fun _ => HF) ?_
    rotate_left
    · (intro w' hw; clear hw; go_simp <;> with_reducible rfl)
    try simp only [Act.put, List.setIfInBounds_toArray, List.set_cons_zero, List.set_cons_succ]
    refine wpAnyF_take (i := 7) (v := ?_) rfl (by kernel_rfl) (by kernel_rfl) (by kernel_rfl) (fun _ _ _ h => h) (Or.inl ⟨by rfl, ?_⟩) (fun _ => HF) ?_
    rotate_left
    · (intro w' hw; obtain ⟨f0, f1, f2, f3, f4, f5, -⟩ := blk6 (hw (by omega)); clear hw; go_simp <;> with_reducible rfl)
    try simp only [Act.put, List.setIfInBounds_toArray, List.set_cons_zero, List.set_cons_succ]
    generalize hwd : w2.drew = wd at *
    have HBo_wd := hid (show Below w2.heap.size w2 wd from by rw [← hwd]; exact (Below.refl _ _).drew)
    have HBw_wd := hid (HBw2.out.trans (HBo_wd.out.mono HBw2.out.size))
    have hsz_wd := HBo_wd.out.size
    clear hwd
    refine wpAnyF_two (i := 2) (j := 9) (by kernel_rfl) (wpOp_run rfl (by rfl) ?_) (wpOp_run rfl (by rfl) ?_)
    · go_simp
      have HOH_u2 := hid (own_oneB (E := 31) (size := 4) (R := Tm.rep) (A := fun _ => True) (w := wd) (x := c.head) (us := [.int .i64 c.head.kind, .int .i64 c.head.n, .string c.head.s, .slice ha c.head.args.length hac]) Tm.rep_lasts (Tm.rep_lasts.2.1 _ _ _ _ _ (HHR.out wd HBw_wd.out) (fun b _ hb => ⟨trivial, by have := HBw_wd.out.size; omega⟩)) rfl rfl)
      have HBa_u2 := HBo_wd.out.alloc hsz_wd (.cells #[.int .i64 c.head.kind, .int .i64 c.head.n, .string c.head.s, .slice ha c.head.args.length hac] 31)
      obtain ⟨hb, hhb⟩ : ∃ hb, hb = wd.heap.size := ⟨_, rfl⟩
      rw [← hhb] at HOH_u2
      rw [← hhb]
      have hhbw : w2.heap.size ≤ hb := by omega
      refine ⟨fun _ _ _ _ => HFC.out _ HBa_u2, ?_⟩
      generalize wd.alloc (.cells #[.int .i64 c.head.kind, .int .i64 c.head.n, .string c.head.s, .slice ha c.head.args.length hac] 31) = u2 at *
      have HBo_u2 := hid (show Below w2.heap.size w2 u2 from HBa_u2)
      have HBw_u2 := hid (HBw2.out.trans (HBo_u2.out.mono HBw2.out.size))
      have hsz_u2 := HBo_u2.out.size
      clear hhb HBa_u2
      refine wpAnyF_two (i := 5) (j := 9) (by kernel_rfl) (wpOp_run rfl (by rfl) ?_) (wpOp_run rfl (by rfl) ?_)
      · refine wp_appS (.tmp 11) (.tmp 13) 29 rfl hb 31 4 56 tyTerm Tm.rep_lasts (A := fun _ => True) (.slice (some ⟨hb, 0, none⟩) 1 1) [c.head] rfl HOH_u2.out _ rfl c.body (SlR.mono Tm.rep_lasts (by omega) (HBR.out u2 HBw_u2.out) (fun b _ hb9 => ⟨trivial, by simp only [ownB]; simp; have := HBw2.out.size; omega⟩)) (by simp; omega) (by have := HOH_u2.out.lt hb (by simp [ownB]); omega) ?_
        intro tv u5 hown hgrew
        have HBa_u5 := hgrew.below HBo_u2.out hsz_u2 (fun k hk => by simp [ownB] at hk; omega)
        have HTS_u5 := hid (SlR.mono (A' := fun b => b < u5.heap.size) Tm.rep_lasts (by omega) (hown.sl Tm.rep_lasts (by simp; omega) (fun _ _ => trivial)) (fun b hb _ => hb))
        refine ⟨fun _ _ _ _ => HFC.out _ HBa_u5, ?_⟩
        clear hown hgrew
        try simp only [Act.put, List.setIfInBounds_toArray, List.set_cons_zero, List.set_cons_succ]
        have HBo_u5 := hid (show Below w2.heap.size w2 u5 from HBa_u5)
        have HBw_u5 := hid (HBw2.out.trans (HBo_u5.out.mono HBw2.out.size))
        have hsz_u5 := HBo_u5.out.size
        refine wpAnyF_two (i := 8) (j := 9) (by kernel_rfl) (wpOp_run rfl (by rfl) ?_) (wpOp_run rfl (by rfl) ?_)
        · go_simp
          refine (blockOf_ok (c.head :: c.body) n (by omega) hndl u5 _ (show TmsR (fun b => b < u5.heap.size) u5 (c.head :: c.body) tv from HTS_u5.out)).mono ?_
          rintro e u8 ⟨r, rfl, hb8, cv, gv, rfl, hc2, hg2⟩
          rw [HLG.out] at hc2 hg2
          simp only at hc2 hg2
          have HBa_u8 := HBo_u5.out.trans (hb8.mono hsz_u5)
          have HCE_u8 := hid (SlR.mono (A' := fun b => w2.heap.size ≤ b) Ce.rep_lasts (by omega) hc2 (fun b _ h => by unfold New at h; omega))
          have HNE_u8 := hid (SlR.mono (A' := fun b => w2.heap.size ≤ b) numR_lasts (by omega) hg2 (fun b _ h => by unfold New at h; omega))
          refine ⟨fun _ _ _ _ => HFC.out _ HBa_u8, ?_⟩
          clear hb8 hc2 hg2
          have HBo_u8 := hid (show Below w2.heap.size w2 u8 from HBa_u8)
          have HBw_u8 := hid (HBw2.out.trans (HBo_u8.out.mono HBw2.out.size))
          have hsz_u8 := HBo_u8.out.size
          refine wpAnyF_one (i := 9) (by kernel_rfl) (wpOp_run rfl (by rfl) ?_)
          go_simp
          have HXB_u9 := hid (show (u8.alloc (.cells #[.slice none 0 0, .int .i64 0, .int .i64 0, .slice none 0 0] 50)).heap[u8.heap.size]? = some (.cells #[.slice none 0 0, .int .i64 0, .int .i64 0, .slice none 0 0] 50) from blk_new _ _)
          have HBa_u9 := HBo_u8.out.alloc hsz_u8 (.cells #[.slice none 0 0, .int .i64 0, .int .i64 0, .slice none 0 0] 50)
          have HKa_u9 := Keeps.alloc (fun _ => True) u8 (.cells #[.slice none 0 0, .int .i64 0, .int .i64 0, .slice none 0 0] 50)
          obtain ⟨bb, hbb⟩ : ∃ bb, bb = u8.heap.size := ⟨_, rfl⟩
          rw [← hbb] at HXB_u9
          rw [← hbb]
          have hbbw : w2.heap.size ≤ bb := by omega
          have HCE_u9 := hid (SlR.keeps Ce.rep_lasts (SlR.mono (A' := fun b => w2.heap.size ≤ b ∧ b ≠ bb) Ce.rep_lasts (by omega) HCE_u8.out (fun b hb h => ⟨h, by omega⟩)) (HKa_u9.mono (fun _ _ _ => trivial)))
          have HNE_u9 := hid (SlR.keeps numR_lasts (SlR.mono (A' := fun b => w2.heap.size ≤ b ∧ b ≠ bb) numR_lasts (by omega) HNE_u8.out (fun b hb h => ⟨h, by omega⟩)) (HKa_u9.mono (fun _ _ _ => trivial)))
          refine ⟨fun _ _ _ _ => HFC.out _ HBa_u9, ?_⟩
          generalize u8.alloc (.cells #[.slice none 0 0, .int .i64 0, .int .i64 0, .slice none 0 0] 50) = u9 at *
          have HBo_u9 := hid (show Below w2.heap.size w2 u9 from HBa_u9)
          have HBw_u9 := hid (HBw2.out.trans (HBo_u9.out.mono HBw2.out.size))
          have hsz_u9 := HBo_u9.out.size
          clear hbb HBa_u9 HKa_u9
          obtain ⟨c1, c2, _, _, hcv, hcl1, hcl2, -⟩ := SlR.at HCE_u9.out
          obtain ⟨c3, c4, gb, go, hgv, hgl1, hgl2, hgl3, hga, hge⟩ := SlR.at HNE_u9.out
          subst hcv
          subst hgv
          have hbl := blk_lt HXB_u9.out
          obtain ⟨y0, y1, y2, y3, yf⟩ := blk4 HXB_u9.out
          try simp only [Act.put, List.setIfInBounds_toArray, List.set_cons_zero, List.set_cons_succ]
          refine wpAnyF_one (i := 10) (by kernel_rfl) (wpOp_run rfl (by rfl) ?_)
          go_simp
          refine ⟨fun _ _ _ _ => HFC.out _ (Below.setCell (Below.setCell (Below.setCell (Below.setCell HBo_u9.out hbbw _) hbbw _) hbbw _) hbbw _), wpAnyF_done (by kernel_rfl) ?_ _⟩
          obtain ⟨rfl, hgA⟩ := hga (by simp)
          have hg0 := num_cell hge hgA (Keeps.refl _ _) (k := 0) (by simp)
          simp only [List.getElem_cons_zero, Nat.add_zero] at hg0
          have hgbl := World.block_lt_of_cell? u9 _ hg0.1
          simp only at hgbl
          have hgbb : gb ≠ bb := hgA.2
          have hbgb : bb ≠ gb := fun e => hgbb e.symm
          have HNE := hid HNE_u9.out
          have HCE := hid HCE_u9.out
          obtain ⟨W8, hW8⟩ : ∃ W8, W8 = ((((u9.setCell ⟨bb, 0, none⟩ (.slice c1 (clauseB c).cells.length c2)).setCell ⟨bb, 1, none⟩ (.int .i64 (n : Int))).setCell ⟨bb, 2, none⟩ (.int .i64 (-1))).setCell ⟨bb, 3, none⟩ (.slice (some ⟨gb, go, none⟩) ((clauseB c).goals.length + 1) c4)) := ⟨_, rfl⟩
          have HX8 := hid (show W8.heap[bb]? = some (.cells #[.slice c1 (clauseB c).cells.length c2, .int .i64 (n : Int), .int .i64 (-1), .slice (some ⟨gb, go, none⟩) ((clauseB c).goals.length + 1) c4] 50 (0, 0)) by
            rw [hW8]; exact (blk_set (blk_set (blk_set (blk_set HXB_u9.out 0 _) 1 _) 2 _) 3 _).trans rfl)
          have HK8 := hid (show Keeps (fun b => b ≠ bb) u9 W8 by
            rw [hW8]
            exact ((((Keeps.setCell _ _ _ _ (fun h => h rfl)).trans (Keeps.setCell _ _ _ _ (fun h => h rfl))).trans (Keeps.setCell _ _ _ _ (fun h => h rfl))).trans (Keeps.setCell _ _ _ _ (fun h => h rfl))))
          have HB8 := hid (show Below w2.heap.size w2 W8 by
            rw [hW8]
            exact Below.setCell (Below.setCell (Below.setCell (Below.setCell HBo_u9.out hbbw _) hbbw _) hbbw _) hbbw _)
          rw [← hW8]
          have hbl8 := blk_lt HX8.out
          have hg8 := HK8.out.cell hgbb hg0.1
          have hgbl8 := World.block_lt_of_cell? W8 _ hg8
          simp only at hgbl8
          clear hW8 y0 y1 y2 y3 yf hg0 hge hga HF hF0
          obtain ⟨sa, hsa⟩ : ∃ sa, sa = (if c4 = 1 then some (⟨gb, go, none⟩ : Addr) else (some (⟨gb, go, none⟩ : Addr)).map fun x => x.add (1 * 1)) := ⟨_, rfl⟩
          have qS : ∀ W : World, (Instr.slice 48 (.slice (some ⟨gb, go, none⟩) ((clauseB c).goals.length + 1) c4) (some (.int .i64 1)) none none).run Tryd.prog W = .ok (.slice sa (clauseB c).goals.length (c4 - 1)) W := fun W => by
            have := slice_from_numsB W (some ⟨gb, go, none⟩) ((clauseB c).goals.length + 1) c4 1 (by omega)
            rw [← hsa] at this
            simpa using this
          have HDR := hid (show NumsR (fun b => w2.heap.size ≤ b ∧ b ≠ bb) u9 (clauseB c).goals (.slice sa (clauseB c).goals.length (c4 - 1)) by
            have := SlR.dropB HNE.out (k := 1) (by simp)
            rw [← hsa] at this
            simpa using this)
          clear hsa
          have hgl0 : (0 : Int) < (((clauseB c).goals.length + 1 : Nat) : Int) := by omega
          go_wp2_with fail
          refine wp_region_F (F := fun k w' => (k = 1 ∨ k = 3 ∨ k = 5) → w'.cell? ⟨bb, 3, none⟩ = some (.slice (some ⟨gb, go, none⟩) ((clauseB c).goals.length + 1) c4) ∧ w'.cell? ⟨gb, go, none⟩ = some (.int .i64 (clauseB c).head)) (by kernel_rfl) ?_
          have HXd := hid (show W8.drew.heap[bb]? = some (.cells #[.slice c1 (clauseB c).cells.length c2, .int .i64 (n : Int), .int .i64 (-1), .slice (some ⟨gb, go, none⟩) ((clauseB c).goals.length + 1) c4] 50 (0, 0)) from HX8.out)
          have hMg : W8.drew.cell? ⟨gb, go, none⟩ = some (.int .i64 (clauseB c).head) := hg8
          have HBd := hid (show Below w2.heap.size w2 W8.drew from HB8.out.drew)
          have HKd := hid (show Keeps (fun b => b ≠ bb) W8 W8.drew from Keeps.drew _ _)
          generalize W8.drew = Wd at *
          clear hg8 hgbl8 hbl8
          obtain ⟨y0, y1, y2, y3, yf⟩ := blk4 HXd.out
          have hbld := blk_lt HXd.out
          have HF3 : Wd.cell? ⟨bb, 3, none⟩ = some (.slice (some ⟨gb, go, none⟩) ((clauseB c).goals.length + 1) c4) ∧ Wd.cell? ⟨gb, go, none⟩ = some (.int .i64 (clauseB c).head) := ⟨y3, hMg⟩
          refine wpAnyF_take (i := 0) (v := ?_) rfl (by kernel_rfl) (by kernel_rfl) (by kernel_rfl) (fun _ _ _ h => h) (Or.inl ⟨by rfl, ?_⟩) (fun _ => HF3) ?_
          rotate_left
          · (intro w' hw; clear hw; go_simp <;> with_reducible rfl)
          try simp only [Act.put, List.setIfInBounds_toArray, List.set_cons_zero, List.set_cons_succ]
          refine wpAnyF_take (i := 1) (v := ?_) rfl (by kernel_rfl) (by kernel_rfl) (by kernel_rfl) (fun _ _ _ h => h) (Or.inl ⟨by rfl, ?_⟩) (fun _ => HF3) ?_
          rotate_left
          · (intro w' hw; obtain ⟨q0, q1⟩ := hw (by omega); clear hw; go_simp <;> with_reducible rfl)
          try simp only [Act.put, List.setIfInBounds_toArray, List.set_cons_zero, List.set_cons_succ]
          refine wpAnyF_take (i := 2) (v := .pointer (some ⟨gb, go, none⟩)) rfl (by kernel_rfl) (by kernel_rfl) (by kernel_rfl) (fun _ _ _ h => h) (Or.inl ⟨by rfl, ?_⟩) (fun _ => HF3) ?_
          · (intro w' hw; clear hw; go_simp <;> omega)
          try simp only [Act.put, List.setIfInBounds_toArray, List.set_cons_zero, List.set_cons_succ]
          refine wpAnyF_take (i := 3) (v := ?_) rfl (by kernel_rfl) (by kernel_rfl) (by kernel_rfl) (fun _ _ _ h => h) (Or.inl ⟨by rfl, ?_⟩) (fun _ => HF3) ?_
          rotate_left
          · (intro w' hw; obtain ⟨q0, q1⟩ := hw (by omega); clear hw; go_simp <;> with_reducible rfl)
          try simp only [Act.put, List.setIfInBounds_toArray, List.set_cons_zero, List.set_cons_succ]
          refine wpAnyF_take (i := 4) (v := ?_) rfl (by kernel_rfl) (by kernel_rfl) (by kernel_rfl) (fun _ _ _ h => h) (Or.inl ⟨by rfl, ?_⟩) (fun _ => HF3) ?_
          rotate_left
          · (intro w' hw; clear hw; go_simp <;> with_reducible rfl)
          try simp only [Act.put, List.setIfInBounds_toArray, List.set_cons_zero, List.set_cons_succ]
          refine wpAnyF_take (i := 5) (v := ?_) rfl (by kernel_rfl) (by kernel_rfl) (by kernel_rfl) (fun _ _ _ h => h) (Or.inl ⟨by rfl, ?_⟩) (fun _ => HF3) ?_
          rotate_left
          · (intro w' hw; obtain ⟨q0, q1⟩ := hw (by omega); clear hw; go_simp <;> with_reducible rfl)
          try simp only [Act.put, List.setIfInBounds_toArray, List.set_cons_zero, List.set_cons_succ]
          refine wpAnyF_take (i := 6) (v := .slice sa (clauseB c).goals.length (c4 - 1)) rfl (by kernel_rfl) (by kernel_rfl) (by kernel_rfl) (fun _ _ _ h => h) (Or.inl ⟨by rfl, ?_⟩) (fun _ => HF3) ?_
          · (intro w' hw; clear hw; go_simp)
          try simp only [Act.put, List.setIfInBounds_toArray, List.set_cons_zero, List.set_cons_succ]
          refine wpAnyF_take (i := 7) (v := ?_) rfl (by kernel_rfl) (by kernel_rfl) (by kernel_rfl) (fun _ _ _ h => h) (Or.inl ⟨by rfl, ?_⟩) (fun _ => HF3) ?_
          rotate_left
          · (intro w' hw; clear hw; go_simp <;> with_reducible rfl)
          try simp only [Act.put, List.setIfInBounds_toArray, List.set_cons_zero, List.set_cons_succ]
          refine wpAnyF_one (i := 8) (by kernel_rfl) (wpOp_run rfl (by rfl) ?_)
          go_simp
          have HFs : (Wd.setCell ⟨bb, 2, none⟩ (.int .i64 (clauseB c).head)).cell? ⟨bb, 3, none⟩ = some (.slice (some ⟨gb, go, none⟩) ((clauseB c).goals.length + 1) c4) ∧ (Wd.setCell ⟨bb, 2, none⟩ (.int .i64 (clauseB c).head)).cell? ⟨gb, go, none⟩ = some (.int .i64 (clauseB c).head) := by
            refine ⟨?_, ?_⟩
            · rw [hcs, if_neg (by simp)]; exact y3
            · rw [hcs, if_neg (by rintro ⟨h, -⟩; exact hbgb h)]; exact hMg
          refine ⟨fun _ _ _ _ => HFs, ?_⟩
          try simp only [Act.put, List.setIfInBounds_toArray, List.set_cons_zero, List.set_cons_succ]
          refine wpAnyF_take (i := 9) (v := ?_) rfl (by kernel_rfl) (by kernel_rfl) (by kernel_rfl) (fun _ _ _ h => h) (Or.inl ⟨by rfl, ?_⟩) (fun _ => HFs) ?_
          rotate_left
          · (intro w' hw; clear hw; go_simp <;> with_reducible rfl)
          try simp only [Act.put, List.setIfInBounds_toArray, List.set_cons_zero, List.set_cons_succ]
          refine wpAnyF_one (i := 10) (by kernel_rfl) (wpOp_run rfl (by rfl) ?_)
          go_simp
          refine ⟨fun k0 hk0 _ h12 => ?_, wpAnyF_done (by kernel_rfl) ?_ _⟩
          · rcases h12 with rfl | rfl | rfl
            · exact absurd (show waits _ 10 1 = true by kernel_rfl) (by rw [hk0]; decide)
            · exact absurd (show waits _ 10 3 = true by kernel_rfl) (by rw [hk0]; decide)
            · exact absurd (show waits _ 10 5 = true by kernel_rfl) (by rw [hk0]; decide)
          obtain ⟨W9, hW9⟩ : ∃ W9, W9 = ((Wd.setCell ⟨bb, 2, none⟩ (.int .i64 (clauseB c).head)).setCell ⟨bb, 3, none⟩ (.slice sa (clauseB c).goals.length (c4 - 1))) := ⟨_, rfl⟩
          have HX9 := hid (show W9.heap[bb]? = some (.cells #[.slice c1 (clauseB c).cells.length c2, .int .i64 (n : Int), .int .i64 (clauseB c).head, .slice sa (clauseB c).goals.length (c4 - 1)] 50 (0, 0)) by
            rw [hW9]; exact (blk_set (blk_set HXd.out 2 _) 3 _).trans rfl)
          have HK9 := hid (show Keeps (fun b => b ≠ bb) W8 W9 by
            rw [hW9]
            exact (HKd.out.trans (Keeps.setCell _ _ _ _ (fun h => h rfl))).trans (Keeps.setCell _ _ _ _ (fun h => h rfl)))
          have HB9 := hid (show Below w2.heap.size w2 W9 by
            rw [hW9]
            exact Below.setCell (Below.setCell HBd.out hbbw _) hbbw _)
          have HKu := hid (HK8.out.trans HK9.out)
          rw [← hW9]
          clear hW9 HFs HF3 hMg qS y0 y1 y2 y3 yf
          obtain ⟨y0, y1, y2, y3, yf⟩ := blk4 HX9.out
          have hbl9 := blk_lt HX9.out
          obtain ⟨r0, r1, r2, r3, rf⟩ := blk4 (HRS.out W9 HB9.out)
          have hrl := blk_lt (HRS.out W9 HB9.out)
          have hrbb : rb ≠ bb := by omega
          have hbbr : bb ≠ rb := by omega
          go_wp2_with fail
          refine bodyPost_ret (v := .tuple #[.agg #[.slice c1 (clauseB c).cells.length c2, .int .i64 (n : Int), .int .i64 (clauseB c).head, .slice sa (clauseB c).goals.length (c4 - 1)], .int .i64 0]) (by simp [results, Tryd.results33, go_sem, hcs, r0, r1, r2, r3, y0, y1, y2, y3, hrbb, hbbr]; try rfl) rfl ?_
          rw [HQF.out]
          have hKN := Keeps.trans (HKu.out.mono (A' := fun b => b ≠ bb ∧ b ≠ rb) (fun b _ h => h.1)) ((((Keeps.setCell (fun b => b ≠ bb ∧ b ≠ rb) W9 ⟨rb, 0, none⟩ (.slice c1 (clauseB c).cells.length c2) (fun h => h.2 rfl)).trans (Keeps.setCell _ _ ⟨rb, 1, none⟩ (.int .i64 (n : Int)) (fun h => h.2 rfl))).trans (Keeps.setCell _ _ ⟨rb, 2, none⟩ (.int .i64 (clauseB c).head) (fun h => h.2 rfl))).trans (Keeps.setCell _ _ ⟨rb, 3, none⟩ (.slice sa (clauseB c).goals.length (c4 - 1)) (fun h => h.2 rfl)))
          have hw2s := HBw2.out.size
          have hrb2 : rb < w2.heap.size := Nat.lt_of_lt_of_le hrb1 HB2.out.size
          refine Pure.mk (Below.setCell (Below.setCell (Below.setCell (Below.setCell (HBw2.out.trans (HB9.out.mono hw2s)) hrw _) hrw _) hrw _) hrw _) ⟨_, _, by rw [HV.out], ?_, ?_⟩
          · exact SlR.mono Ce.rep_lasts (by omega) (SlR.keeps Ce.rep_lasts HCE.out (hKN.mono (fun b _ h => ⟨h.2, by have := h.1; omega⟩))) (fun b _ hb => by have := hb.1; unfold New; omega)
          · exact SlR.mono numR_lasts (by omega) (SlR.keeps numR_lasts HDR.out (hKN.mono (fun b _ h => ⟨h.2, by have := h.1; omega⟩))) (fun b _ hb => by have := hb.1; unfold New; omega)
        · go_simp
          have HXB_u8 := hid (show (u5.alloc (.cells #[.slice none 0 0, .int .i64 0, .int .i64 0, .slice none 0 0] 50)).heap[u5.heap.size]? = some (.cells #[.slice none 0 0, .int .i64 0, .int .i64 0, .slice none 0 0] 50) from blk_new _ _)
          have HBa_u8 := HBo_u5.out.alloc hsz_u5 (.cells #[.slice none 0 0, .int .i64 0, .int .i64 0, .slice none 0 0] 50)
          have HKa_u8 := Keeps.alloc (fun _ => True) u5 (.cells #[.slice none 0 0, .int .i64 0, .int .i64 0, .slice none 0 0] 50)
          obtain ⟨bb, hbb⟩ : ∃ bb, bb = u5.heap.size := ⟨_, rfl⟩
          rw [← hbb] at HXB_u8
          rw [← hbb]
          have hbbw : w2.heap.size ≤ bb := by omega
          have HTS_u8 := hid (SlR.mono (A' := fun b => b < (u5.alloc (.cells #[.slice none 0 0, .int .i64 0, .int .i64 0, .slice none 0 0] 50)).heap.size) Tm.rep_lasts (by omega) (SlR.keeps Tm.rep_lasts HTS_u5.out (HKa_u8.mono (fun _ _ _ => trivial))) (fun b hb _ => hb))
          refine ⟨fun _ _ _ _ => HFC.out _ HBa_u8, ?_⟩
          generalize u5.alloc (.cells #[.slice none 0 0, .int .i64 0, .int .i64 0, .slice none 0 0] 50) = u8 at *
          have HBo_u8 := hid (show Below w2.heap.size w2 u8 from HBa_u8)
          have HBw_u8 := hid (HBw2.out.trans (HBo_u8.out.mono HBw2.out.size))
          have hsz_u8 := HBo_u8.out.size
          clear hbb HBa_u8 HKa_u8
          refine wpAnyF_one (i := 8) (by kernel_rfl) (wpOp_run rfl (by rfl) ?_)
          go_simp
          refine (blockOf_ok (c.head :: c.body) n (by omega) hndl u8 _ (show TmsR (fun b => b < u8.heap.size) u8 (c.head :: c.body) tv from HTS_u8.out)).mono ?_
          rintro e u9 ⟨r, rfl, hb8, cv, gv, rfl, hc2, hg2⟩
          rw [HLG.out] at hc2 hg2
          simp only at hc2 hg2
          have HBa_u9 := HBo_u8.out.trans (hb8.mono hsz_u8)
          have HXB_u9 := hid (blk_below HXB_u8.out hb8)
          have hbu_u9 := blk_lt HXB_u8.out
          have HCE_u9 := hid (SlR.mono (A' := fun b => w2.heap.size ≤ b ∧ b ≠ bb) Ce.rep_lasts (by omega) hc2 (fun b _ h => by unfold New at h; exact ⟨by omega, by omega⟩))
          have HNE_u9 := hid (SlR.mono (A' := fun b => w2.heap.size ≤ b ∧ b ≠ bb) numR_lasts (by omega) hg2 (fun b _ h => by unfold New at h; exact ⟨by omega, by omega⟩))
          refine ⟨fun _ _ _ _ => HFC.out _ HBa_u9, ?_⟩
          clear hb8 hc2 hg2
          have HBo_u9 := hid (show Below w2.heap.size w2 u9 from HBa_u9)
          have HBw_u9 := hid (HBw2.out.trans (HBo_u9.out.mono HBw2.out.size))
          have hsz_u9 := HBo_u9.out.size
          obtain ⟨c1, c2, _, _, hcv, hcl1, hcl2, -⟩ := SlR.at HCE_u9.out
          obtain ⟨c3, c4, gb, go, hgv, hgl1, hgl2, hgl3, hga, hge⟩ := SlR.at HNE_u9.out
          subst hcv
          subst hgv
          have hbl := blk_lt HXB_u9.out
          obtain ⟨y0, y1, y2, y3, yf⟩ := blk4 HXB_u9.out
          try simp only [Act.put, List.setIfInBounds_toArray, List.set_cons_zero, List.set_cons_succ]
          refine wpAnyF_one (i := 10) (by kernel_rfl) (wpOp_run rfl (by rfl) ?_)
          go_simp
          refine ⟨fun _ _ _ _ => HFC.out _ (Below.setCell (Below.setCell (Below.setCell (Below.setCell HBo_u9.out hbbw _) hbbw _) hbbw _) hbbw _), wpAnyF_done (by kernel_rfl) ?_ _⟩
          obtain ⟨rfl, hgA⟩ := hga (by simp)
          have hg0 := num_cell hge hgA (Keeps.refl _ _) (k := 0) (by simp)
          simp only [List.getElem_cons_zero, Nat.add_zero] at hg0
          have hgbl := World.block_lt_of_cell? u9 _ hg0.1
          simp only at hgbl
          have hgbb : gb ≠ bb := hgA.2
          have hbgb : bb ≠ gb := fun e => hgbb e.symm
          have HNE := hid HNE_u9.out
          have HCE := hid HCE_u9.out
          obtain ⟨W8, hW8⟩ : ∃ W8, W8 = ((((u9.setCell ⟨bb, 0, none⟩ (.slice c1 (clauseB c).cells.length c2)).setCell ⟨bb, 1, none⟩ (.int .i64 (n : Int))).setCell ⟨bb, 2, none⟩ (.int .i64 (-1))).setCell ⟨bb, 3, none⟩ (.slice (some ⟨gb, go, none⟩) ((clauseB c).goals.length + 1) c4)) := ⟨_, rfl⟩
          have HX8 := hid (show W8.heap[bb]? = some (.cells #[.slice c1 (clauseB c).cells.length c2, .int .i64 (n : Int), .int .i64 (-1), .slice (some ⟨gb, go, none⟩) ((clauseB c).goals.length + 1) c4] 50 (0, 0)) by
            rw [hW8]; exact (blk_set (blk_set (blk_set (blk_set HXB_u9.out 0 _) 1 _) 2 _) 3 _).trans rfl)
          have HK8 := hid (show Keeps (fun b => b ≠ bb) u9 W8 by
            rw [hW8]
            exact ((((Keeps.setCell _ _ _ _ (fun h => h rfl)).trans (Keeps.setCell _ _ _ _ (fun h => h rfl))).trans (Keeps.setCell _ _ _ _ (fun h => h rfl))).trans (Keeps.setCell _ _ _ _ (fun h => h rfl))))
          have HB8 := hid (show Below w2.heap.size w2 W8 by
            rw [hW8]
            exact Below.setCell (Below.setCell (Below.setCell (Below.setCell HBo_u9.out hbbw _) hbbw _) hbbw _) hbbw _)
          rw [← hW8]
          have hbl8 := blk_lt HX8.out
          have hg8 := HK8.out.cell hgbb hg0.1
          have hgbl8 := World.block_lt_of_cell? W8 _ hg8
          simp only at hgbl8
          clear hW8 y0 y1 y2 y3 yf hg0 hge hga HF hF0
          obtain ⟨sa, hsa⟩ : ∃ sa, sa = (if c4 = 1 then some (⟨gb, go, none⟩ : Addr) else (some (⟨gb, go, none⟩ : Addr)).map fun x => x.add (1 * 1)) := ⟨_, rfl⟩
          have qS : ∀ W : World, (Instr.slice 48 (.slice (some ⟨gb, go, none⟩) ((clauseB c).goals.length + 1) c4) (some (.int .i64 1)) none none).run Tryd.prog W = .ok (.slice sa (clauseB c).goals.length (c4 - 1)) W := fun W => by
            have := slice_from_numsB W (some ⟨gb, go, none⟩) ((clauseB c).goals.length + 1) c4 1 (by omega)
            rw [← hsa] at this
            simpa using this
          have HDR := hid (show NumsR (fun b => w2.heap.size ≤ b ∧ b ≠ bb) u9 (clauseB c).goals (.slice sa (clauseB c).goals.length (c4 - 1)) by
            have := SlR.dropB HNE.out (k := 1) (by simp)
            rw [← hsa] at this
            simpa using this)
          clear hsa
          have hgl0 : (0 : Int) < (((clauseB c).goals.length + 1 : Nat) : Int) := by omega
          go_wp2_with fail
          refine wp_region_F (F := fun k w' => (k = 1 ∨ k = 3 ∨ k = 5) → w'.cell? ⟨bb, 3, none⟩ = some (.slice (some ⟨gb, go, none⟩) ((clauseB c).goals.length + 1) c4) ∧ w'.cell? ⟨gb, go, none⟩ = some (.int .i64 (clauseB c).head)) (by kernel_rfl) ?_
          have HXd := hid (show W8.drew.heap[bb]? = some (.cells #[.slice c1 (clauseB c).cells.length c2, .int .i64 (n : Int), .int .i64 (-1), .slice (some ⟨gb, go, none⟩) ((clauseB c).goals.length + 1) c4] 50 (0, 0)) from HX8.out)
          have hMg : W8.drew.cell? ⟨gb, go, none⟩ = some (.int .i64 (clauseB c).head) := hg8
          have HBd := hid (show Below w2.heap.size w2 W8.drew from HB8.out.drew)
          have HKd := hid (show Keeps (fun b => b ≠ bb) W8 W8.drew from Keeps.drew _ _)
          generalize W8.drew = Wd at *
          clear hg8 hgbl8 hbl8
          obtain ⟨y0, y1, y2, y3, yf⟩ := blk4 HXd.out
          have hbld := blk_lt HXd.out
          have HF3 : Wd.cell? ⟨bb, 3, none⟩ = some (.slice (some ⟨gb, go, none⟩) ((clauseB c).goals.length + 1) c4) ∧ Wd.cell? ⟨gb, go, none⟩ = some (.int .i64 (clauseB c).head) := ⟨y3, hMg⟩
          refine wpAnyF_take (i := 0) (v := ?_) rfl (by kernel_rfl) (by kernel_rfl) (by kernel_rfl) (fun _ _ _ h => h) (Or.inl ⟨by rfl, ?_⟩) (fun _ => HF3) ?_
          rotate_left
          · (intro w' hw; clear hw; go_simp <;> with_reducible rfl)
          try simp only [Act.put, List.setIfInBounds_toArray, List.set_cons_zero, List.set_cons_succ]
          refine wpAnyF_take (i := 1) (v := ?_) rfl (by kernel_rfl) (by kernel_rfl) (by kernel_rfl) (fun _ _ _ h => h) (Or.inl ⟨by rfl, ?_⟩) (fun _ => HF3) ?_
          rotate_left
          · (intro w' hw; obtain ⟨q0, q1⟩ := hw (by omega); clear hw; go_simp <;> with_reducible rfl)
          try simp only [Act.put, List.setIfInBounds_toArray, List.set_cons_zero, List.set_cons_succ]
          refine wpAnyF_take (i := 2) (v := .pointer (some ⟨gb, go, none⟩)) rfl (by kernel_rfl) (by kernel_rfl) (by kernel_rfl) (fun _ _ _ h => h) (Or.inl ⟨by rfl, ?_⟩) (fun _ => HF3) ?_
          · (intro w' hw; clear hw; go_simp <;> omega)
          try simp only [Act.put, List.setIfInBounds_toArray, List.set_cons_zero, List.set_cons_succ]
          refine wpAnyF_take (i := 3) (v := ?_) rfl (by kernel_rfl) (by kernel_rfl) (by kernel_rfl) (fun _ _ _ h => h) (Or.inl ⟨by rfl, ?_⟩) (fun _ => HF3) ?_
          rotate_left
          · (intro w' hw; obtain ⟨q0, q1⟩ := hw (by omega); clear hw; go_simp <;> with_reducible rfl)
          try simp only [Act.put, List.setIfInBounds_toArray, List.set_cons_zero, List.set_cons_succ]
          refine wpAnyF_take (i := 4) (v := ?_) rfl (by kernel_rfl) (by kernel_rfl) (by kernel_rfl) (fun _ _ _ h => h) (Or.inl ⟨by rfl, ?_⟩) (fun _ => HF3) ?_
          rotate_left
          · (intro w' hw; clear hw; go_simp <;> with_reducible rfl)
          try simp only [Act.put, List.setIfInBounds_toArray, List.set_cons_zero, List.set_cons_succ]
          refine wpAnyF_take (i := 5) (v := ?_) rfl (by kernel_rfl) (by kernel_rfl) (by kernel_rfl) (fun _ _ _ h => h) (Or.inl ⟨by rfl, ?_⟩) (fun _ => HF3) ?_
          rotate_left
          · (intro w' hw; obtain ⟨q0, q1⟩ := hw (by omega); clear hw; go_simp <;> with_reducible rfl)
          try simp only [Act.put, List.setIfInBounds_toArray, List.set_cons_zero, List.set_cons_succ]
          refine wpAnyF_take (i := 6) (v := .slice sa (clauseB c).goals.length (c4 - 1)) rfl (by kernel_rfl) (by kernel_rfl) (by kernel_rfl) (fun _ _ _ h => h) (Or.inl ⟨by rfl, ?_⟩) (fun _ => HF3) ?_
          · (intro w' hw; clear hw; go_simp)
          try simp only [Act.put, List.setIfInBounds_toArray, List.set_cons_zero, List.set_cons_succ]
          refine wpAnyF_take (i := 7) (v := ?_) rfl (by kernel_rfl) (by kernel_rfl) (by kernel_rfl) (fun _ _ _ h => h) (Or.inl ⟨by rfl, ?_⟩) (fun _ => HF3) ?_
          rotate_left
          · (intro w' hw; clear hw; go_simp <;> with_reducible rfl)
          try simp only [Act.put, List.setIfInBounds_toArray, List.set_cons_zero, List.set_cons_succ]
          refine wpAnyF_one (i := 8) (by kernel_rfl) (wpOp_run rfl (by rfl) ?_)
          go_simp
          have HFs : (Wd.setCell ⟨bb, 2, none⟩ (.int .i64 (clauseB c).head)).cell? ⟨bb, 3, none⟩ = some (.slice (some ⟨gb, go, none⟩) ((clauseB c).goals.length + 1) c4) ∧ (Wd.setCell ⟨bb, 2, none⟩ (.int .i64 (clauseB c).head)).cell? ⟨gb, go, none⟩ = some (.int .i64 (clauseB c).head) := by
            refine ⟨?_, ?_⟩
            · rw [hcs, if_neg (by simp)]; exact y3
            · rw [hcs, if_neg (by rintro ⟨h, -⟩; exact hbgb h)]; exact hMg
          refine ⟨fun _ _ _ _ => HFs, ?_⟩
          try simp only [Act.put, List.setIfInBounds_toArray, List.set_cons_zero, List.set_cons_succ]
          refine wpAnyF_take (i := 9) (v := ?_) rfl (by kernel_rfl) (by kernel_rfl) (by kernel_rfl) (fun _ _ _ h => h) (Or.inl ⟨by rfl, ?_⟩) (fun _ => HFs) ?_
          rotate_left
          · (intro w' hw; clear hw; go_simp <;> with_reducible rfl)
          try simp only [Act.put, List.setIfInBounds_toArray, List.set_cons_zero, List.set_cons_succ]
          refine wpAnyF_one (i := 10) (by kernel_rfl) (wpOp_run rfl (by rfl) ?_)
          go_simp
          refine ⟨fun k0 hk0 _ h12 => ?_, wpAnyF_done (by kernel_rfl) ?_ _⟩
          · rcases h12 with rfl | rfl | rfl
            · exact absurd (show waits _ 10 1 = true by kernel_rfl) (by rw [hk0]; decide)
            · exact absurd (show waits _ 10 3 = true by kernel_rfl) (by rw [hk0]; decide)
            · exact absurd (show waits _ 10 5 = true by kernel_rfl) (by rw [hk0]; decide)
          obtain ⟨W9, hW9⟩ : ∃ W9, W9 = ((Wd.setCell ⟨bb, 2, none⟩ (.int .i64 (clauseB c).head)).setCell ⟨bb, 3, none⟩ (.slice sa (clauseB c).goals.length (c4 - 1))) := ⟨_, rfl⟩
          have HX9 := hid (show W9.heap[bb]? = some (.cells #[.slice c1 (clauseB c).cells.length c2, .int .i64 (n : Int), .int .i64 (clauseB c).head, .slice sa (clauseB c).goals.length (c4 - 1)] 50 (0, 0)) by
            rw [hW9]; exact (blk_set (blk_set HXd.out 2 _) 3 _).trans rfl)
          have HK9 := hid (show Keeps (fun b => b ≠ bb) W8 W9 by
            rw [hW9]
            exact (HKd.out.trans (Keeps.setCell _ _ _ _ (fun h => h rfl))).trans (Keeps.setCell _ _ _ _ (fun h => h rfl)))
          have HB9 := hid (show Below w2.heap.size w2 W9 by
            rw [hW9]
            exact Below.setCell (Below.setCell HBd.out hbbw _) hbbw _)
          have HKu := hid (HK8.out.trans HK9.out)
          rw [← hW9]
          clear hW9 HFs HF3 hMg qS y0 y1 y2 y3 yf
          obtain ⟨y0, y1, y2, y3, yf⟩ := blk4 HX9.out
          have hbl9 := blk_lt HX9.out
          obtain ⟨r0, r1, r2, r3, rf⟩ := blk4 (HRS.out W9 HB9.out)
          have hrl := blk_lt (HRS.out W9 HB9.out)
          have hrbb : rb ≠ bb := by omega
          have hbbr : bb ≠ rb := by omega
          go_wp2_with fail
          refine bodyPost_ret (v := .tuple #[.agg #[.slice c1 (clauseB c).cells.length c2, .int .i64 (n : Int), .int .i64 (clauseB c).head, .slice sa (clauseB c).goals.length (c4 - 1)], .int .i64 0]) (by simp [results, Tryd.results33, go_sem, hcs, r0, r1, r2, r3, y0, y1, y2, y3, hrbb, hbbr]; try rfl) rfl ?_
          rw [HQF.out]
          have hKN := Keeps.trans (HKu.out.mono (A' := fun b => b ≠ bb ∧ b ≠ rb) (fun b _ h => h.1)) ((((Keeps.setCell (fun b => b ≠ bb ∧ b ≠ rb) W9 ⟨rb, 0, none⟩ (.slice c1 (clauseB c).cells.length c2) (fun h => h.2 rfl)).trans (Keeps.setCell _ _ ⟨rb, 1, none⟩ (.int .i64 (n : Int)) (fun h => h.2 rfl))).trans (Keeps.setCell _ _ ⟨rb, 2, none⟩ (.int .i64 (clauseB c).head) (fun h => h.2 rfl))).trans (Keeps.setCell _ _ ⟨rb, 3, none⟩ (.slice sa (clauseB c).goals.length (c4 - 1)) (fun h => h.2 rfl)))
          have hw2s := HBw2.out.size
          have hrb2 : rb < w2.heap.size := Nat.lt_of_lt_of_le hrb1 HB2.out.size
          refine Pure.mk (Below.setCell (Below.setCell (Below.setCell (Below.setCell (HBw2.out.trans (HB9.out.mono hw2s)) hrw _) hrw _) hrw _) hrw _) ⟨_, _, by rw [HV.out], ?_, ?_⟩
          · exact SlR.mono Ce.rep_lasts (by omega) (SlR.keeps Ce.rep_lasts HCE.out (hKN.mono (fun b _ h => ⟨h.2, by have := h.1; omega⟩))) (fun b _ hb => by have := hb.1; unfold New; omega)
          · exact SlR.mono numR_lasts (by omega) (SlR.keeps numR_lasts HDR.out (hKN.mono (fun b _ h => ⟨h.2, by have := h.1; omega⟩))) (fun b _ hb => by have := hb.1; unfold New; omega)
      · go_simp
        have HXB_u5 := hid (show (u2.alloc (.cells #[.slice none 0 0, .int .i64 0, .int .i64 0, .slice none 0 0] 50)).heap[u2.heap.size]? = some (.cells #[.slice none 0 0, .int .i64 0, .int .i64 0, .slice none 0 0] 50) from blk_new _ _)
        have HBa_u5 := HBo_u2.out.alloc hsz_u2 (.cells #[.slice none 0 0, .int .i64 0, .int .i64 0, .slice none 0 0] 50)
        have HKa_u5 := Keeps.alloc (fun _ => True) u2 (.cells #[.slice none 0 0, .int .i64 0, .int .i64 0, .slice none 0 0] 50)
        obtain ⟨bb, hbb⟩ : ∃ bb, bb = u2.heap.size := ⟨_, rfl⟩
        rw [← hbb] at HXB_u5
        rw [← hbb]
        have hbbw : w2.heap.size ≤ bb := by omega
        have HOH_u5 := hid (HOH_u2.out.keeps Tm.rep_lasts HKa_u5 (fun _ _ => trivial) (fun _ _ => trivial))
        have hhbb : hb ≠ bb := by have := HOH_u2.out.lt hb (by simp [ownB]); omega
        refine ⟨fun _ _ _ _ => HFC.out _ HBa_u5, ?_⟩
        generalize u2.alloc (.cells #[.slice none 0 0, .int .i64 0, .int .i64 0, .slice none 0 0] 50) = u5 at *
        have HBo_u5 := hid (show Below w2.heap.size w2 u5 from HBa_u5)
        have HBw_u5 := hid (HBw2.out.trans (HBo_u5.out.mono HBw2.out.size))
        have hsz_u5 := HBo_u5.out.size
        clear hbb HBa_u5 HKa_u5
        refine wpAnyF_one (i := 5) (by kernel_rfl) (wpOp_run rfl (by rfl) ?_)
        refine wp_appS (.tmp 11) (.tmp 13) 29 rfl hb 31 4 56 tyTerm Tm.rep_lasts (A := fun _ => True) (.slice (some ⟨hb, 0, none⟩) 1 1) [c.head] rfl HOH_u5.out _ rfl c.body (SlR.mono Tm.rep_lasts (by omega) (HBR.out u5 HBw_u5.out) (fun b _ hb9 => ⟨trivial, by simp only [ownB]; simp; have := HBw2.out.size; omega⟩)) (by simp; omega) (by have := HOH_u5.out.lt hb (by simp [ownB]); omega) ?_
        intro tv u8 hown hgrew
        have HBa_u8 := hgrew.below HBo_u5.out hsz_u5 (fun k hk => by simp [ownB] at hk; omega)
        have HXB_u8 := hid (blk_keeps HXB_u5.out (hgrew.keeps (A := fun b => b ≠ hb) (fun b h => by simp [ownB]; exact fun e => h e.symm)) (Ne.symm hhbb))
        have HTS_u8 := hid (SlR.mono (A' := fun b => b < u8.heap.size) Tm.rep_lasts (by omega) (hown.sl Tm.rep_lasts (by simp; omega) (fun _ _ => trivial)) (fun b hb _ => hb))
        refine ⟨fun _ _ _ _ => HFC.out _ HBa_u8, ?_⟩
        clear hown hgrew
        try simp only [Act.put, List.setIfInBounds_toArray, List.set_cons_zero, List.set_cons_succ]
        have HBo_u8 := hid (show Below w2.heap.size w2 u8 from HBa_u8)
        have HBw_u8 := hid (HBw2.out.trans (HBo_u8.out.mono HBw2.out.size))
        have hsz_u8 := HBo_u8.out.size
        refine wpAnyF_one (i := 8) (by kernel_rfl) (wpOp_run rfl (by rfl) ?_)
        go_simp
        refine (blockOf_ok (c.head :: c.body) n (by omega) hndl u8 _ (show TmsR (fun b => b < u8.heap.size) u8 (c.head :: c.body) tv from HTS_u8.out)).mono ?_
        rintro e u9 ⟨r, rfl, hb8, cv, gv, rfl, hc2, hg2⟩
        rw [HLG.out] at hc2 hg2
        simp only at hc2 hg2
        have HBa_u9 := HBo_u8.out.trans (hb8.mono hsz_u8)
        have HXB_u9 := hid (blk_below HXB_u8.out hb8)
        have hbu_u9 := blk_lt HXB_u8.out
        have HCE_u9 := hid (SlR.mono (A' := fun b => w2.heap.size ≤ b ∧ b ≠ bb) Ce.rep_lasts (by omega) hc2 (fun b _ h => by unfold New at h; exact ⟨by omega, by omega⟩))
        have HNE_u9 := hid (SlR.mono (A' := fun b => w2.heap.size ≤ b ∧ b ≠ bb) numR_lasts (by omega) hg2 (fun b _ h => by unfold New at h; exact ⟨by omega, by omega⟩))
        refine ⟨fun _ _ _ _ => HFC.out _ HBa_u9, ?_⟩
        clear hb8 hc2 hg2
        have HBo_u9 := hid (show Below w2.heap.size w2 u9 from HBa_u9)
        have HBw_u9 := hid (HBw2.out.trans (HBo_u9.out.mono HBw2.out.size))
        have hsz_u9 := HBo_u9.out.size
        obtain ⟨c1, c2, _, _, hcv, hcl1, hcl2, -⟩ := SlR.at HCE_u9.out
        obtain ⟨c3, c4, gb, go, hgv, hgl1, hgl2, hgl3, hga, hge⟩ := SlR.at HNE_u9.out
        subst hcv
        subst hgv
        have hbl := blk_lt HXB_u9.out
        obtain ⟨y0, y1, y2, y3, yf⟩ := blk4 HXB_u9.out
        try simp only [Act.put, List.setIfInBounds_toArray, List.set_cons_zero, List.set_cons_succ]
        refine wpAnyF_one (i := 10) (by kernel_rfl) (wpOp_run rfl (by rfl) ?_)
        go_simp
        refine ⟨fun _ _ _ _ => HFC.out _ (Below.setCell (Below.setCell (Below.setCell (Below.setCell HBo_u9.out hbbw _) hbbw _) hbbw _) hbbw _), wpAnyF_done (by kernel_rfl) ?_ _⟩
        obtain ⟨rfl, hgA⟩ := hga (by simp)
        have hg0 := num_cell hge hgA (Keeps.refl _ _) (k := 0) (by simp)
        simp only [List.getElem_cons_zero, Nat.add_zero] at hg0
        have hgbl := World.block_lt_of_cell? u9 _ hg0.1
        simp only at hgbl
        have hgbb : gb ≠ bb := hgA.2
        have hbgb : bb ≠ gb := fun e => hgbb e.symm
        have HNE := hid HNE_u9.out
        have HCE := hid HCE_u9.out
        obtain ⟨W8, hW8⟩ : ∃ W8, W8 = ((((u9.setCell ⟨bb, 0, none⟩ (.slice c1 (clauseB c).cells.length c2)).setCell ⟨bb, 1, none⟩ (.int .i64 (n : Int))).setCell ⟨bb, 2, none⟩ (.int .i64 (-1))).setCell ⟨bb, 3, none⟩ (.slice (some ⟨gb, go, none⟩) ((clauseB c).goals.length + 1) c4)) := ⟨_, rfl⟩
        have HX8 := hid (show W8.heap[bb]? = some (.cells #[.slice c1 (clauseB c).cells.length c2, .int .i64 (n : Int), .int .i64 (-1), .slice (some ⟨gb, go, none⟩) ((clauseB c).goals.length + 1) c4] 50 (0, 0)) by
          rw [hW8]; exact (blk_set (blk_set (blk_set (blk_set HXB_u9.out 0 _) 1 _) 2 _) 3 _).trans rfl)
        have HK8 := hid (show Keeps (fun b => b ≠ bb) u9 W8 by
          rw [hW8]
          exact ((((Keeps.setCell _ _ _ _ (fun h => h rfl)).trans (Keeps.setCell _ _ _ _ (fun h => h rfl))).trans (Keeps.setCell _ _ _ _ (fun h => h rfl))).trans (Keeps.setCell _ _ _ _ (fun h => h rfl))))
        have HB8 := hid (show Below w2.heap.size w2 W8 by
          rw [hW8]
          exact Below.setCell (Below.setCell (Below.setCell (Below.setCell HBo_u9.out hbbw _) hbbw _) hbbw _) hbbw _)
        rw [← hW8]
        have hbl8 := blk_lt HX8.out
        have hg8 := HK8.out.cell hgbb hg0.1
        have hgbl8 := World.block_lt_of_cell? W8 _ hg8
        simp only at hgbl8
        clear hW8 y0 y1 y2 y3 yf hg0 hge hga HF hF0
        obtain ⟨sa, hsa⟩ : ∃ sa, sa = (if c4 = 1 then some (⟨gb, go, none⟩ : Addr) else (some (⟨gb, go, none⟩ : Addr)).map fun x => x.add (1 * 1)) := ⟨_, rfl⟩
        have qS : ∀ W : World, (Instr.slice 48 (.slice (some ⟨gb, go, none⟩) ((clauseB c).goals.length + 1) c4) (some (.int .i64 1)) none none).run Tryd.prog W = .ok (.slice sa (clauseB c).goals.length (c4 - 1)) W := fun W => by
          have := slice_from_numsB W (some ⟨gb, go, none⟩) ((clauseB c).goals.length + 1) c4 1 (by omega)
          rw [← hsa] at this
          simpa using this
        have HDR := hid (show NumsR (fun b => w2.heap.size ≤ b ∧ b ≠ bb) u9 (clauseB c).goals (.slice sa (clauseB c).goals.length (c4 - 1)) by
          have := SlR.dropB HNE.out (k := 1) (by simp)
          rw [← hsa] at this
          simpa using this)
        clear hsa
        have hgl0 : (0 : Int) < (((clauseB c).goals.length + 1 : Nat) : Int) := by omega
        go_wp2_with fail
        refine wp_region_F (F := fun k w' => (k = 1 ∨ k = 3 ∨ k = 5) → w'.cell? ⟨bb, 3, none⟩ = some (.slice (some ⟨gb, go, none⟩) ((clauseB c).goals.length + 1) c4) ∧ w'.cell? ⟨gb, go, none⟩ = some (.int .i64 (clauseB c).head)) (by kernel_rfl) ?_
        have HXd := hid (show W8.drew.heap[bb]? = some (.cells #[.slice c1 (clauseB c).cells.length c2, .int .i64 (n : Int), .int .i64 (-1), .slice (some ⟨gb, go, none⟩) ((clauseB c).goals.length + 1) c4] 50 (0, 0)) from HX8.out)
        have hMg : W8.drew.cell? ⟨gb, go, none⟩ = some (.int .i64 (clauseB c).head) := hg8
        have HBd := hid (show Below w2.heap.size w2 W8.drew from HB8.out.drew)
        have HKd := hid (show Keeps (fun b => b ≠ bb) W8 W8.drew from Keeps.drew _ _)
        generalize W8.drew = Wd at *
        clear hg8 hgbl8 hbl8
        obtain ⟨y0, y1, y2, y3, yf⟩ := blk4 HXd.out
        have hbld := blk_lt HXd.out
        have HF3 : Wd.cell? ⟨bb, 3, none⟩ = some (.slice (some ⟨gb, go, none⟩) ((clauseB c).goals.length + 1) c4) ∧ Wd.cell? ⟨gb, go, none⟩ = some (.int .i64 (clauseB c).head) := ⟨y3, hMg⟩
        refine wpAnyF_take (i := 0) (v := ?_) rfl (by kernel_rfl) (by kernel_rfl) (by kernel_rfl) (fun _ _ _ h => h) (Or.inl ⟨by rfl, ?_⟩) (fun _ => HF3) ?_
        rotate_left
        · (intro w' hw; clear hw; go_simp <;> with_reducible rfl)
        try simp only [Act.put, List.setIfInBounds_toArray, List.set_cons_zero, List.set_cons_succ]
        refine wpAnyF_take (i := 1) (v := ?_) rfl (by kernel_rfl) (by kernel_rfl) (by kernel_rfl) (fun _ _ _ h => h) (Or.inl ⟨by rfl, ?_⟩) (fun _ => HF3) ?_
        rotate_left
        · (intro w' hw; obtain ⟨q0, q1⟩ := hw (by omega); clear hw; go_simp <;> with_reducible rfl)
        try simp only [Act.put, List.setIfInBounds_toArray, List.set_cons_zero, List.set_cons_succ]
        refine wpAnyF_take (i := 2) (v := .pointer (some ⟨gb, go, none⟩)) rfl (by kernel_rfl) (by kernel_rfl) (by kernel_rfl) (fun _ _ _ h => h) (Or.inl ⟨by rfl, ?_⟩) (fun _ => HF3) ?_
        · (intro w' hw; clear hw; go_simp <;> omega)
        try simp only [Act.put, List.setIfInBounds_toArray, List.set_cons_zero, List.set_cons_succ]
        refine wpAnyF_take (i := 3) (v := ?_) rfl (by kernel_rfl) (by kernel_rfl) (by kernel_rfl) (fun _ _ _ h => h) (Or.inl ⟨by rfl, ?_⟩) (fun _ => HF3) ?_
        rotate_left
        · (intro w' hw; obtain ⟨q0, q1⟩ := hw (by omega); clear hw; go_simp <;> with_reducible rfl)
        try simp only [Act.put, List.setIfInBounds_toArray, List.set_cons_zero, List.set_cons_succ]
        refine wpAnyF_take (i := 4) (v := ?_) rfl (by kernel_rfl) (by kernel_rfl) (by kernel_rfl) (fun _ _ _ h => h) (Or.inl ⟨by rfl, ?_⟩) (fun _ => HF3) ?_
        rotate_left
        · (intro w' hw; clear hw; go_simp <;> with_reducible rfl)
        try simp only [Act.put, List.setIfInBounds_toArray, List.set_cons_zero, List.set_cons_succ]
        refine wpAnyF_take (i := 5) (v := ?_) rfl (by kernel_rfl) (by kernel_rfl) (by kernel_rfl) (fun _ _ _ h => h) (Or.inl ⟨by rfl, ?_⟩) (fun _ => HF3) ?_
        rotate_left
        · (intro w' hw; obtain ⟨q0, q1⟩ := hw (by omega); clear hw; go_simp <;> with_reducible rfl)
        try simp only [Act.put, List.setIfInBounds_toArray, List.set_cons_zero, List.set_cons_succ]
        refine wpAnyF_take (i := 6) (v := .slice sa (clauseB c).goals.length (c4 - 1)) rfl (by kernel_rfl) (by kernel_rfl) (by kernel_rfl) (fun _ _ _ h => h) (Or.inl ⟨by rfl, ?_⟩) (fun _ => HF3) ?_
        · (intro w' hw; clear hw; go_simp)
        try simp only [Act.put, List.setIfInBounds_toArray, List.set_cons_zero, List.set_cons_succ]
        refine wpAnyF_take (i := 7) (v := ?_) rfl (by kernel_rfl) (by kernel_rfl) (by kernel_rfl) (fun _ _ _ h => h) (Or.inl ⟨by rfl, ?_⟩) (fun _ => HF3) ?_
        rotate_left
        · (intro w' hw; clear hw; go_simp <;> with_reducible rfl)
        try simp only [Act.put, List.setIfInBounds_toArray, List.set_cons_zero, List.set_cons_succ]
        refine wpAnyF_one (i := 8) (by kernel_rfl) (wpOp_run rfl (by rfl) ?_)
        go_simp
        have HFs : (Wd.setCell ⟨bb, 2, none⟩ (.int .i64 (clauseB c).head)).cell? ⟨bb, 3, none⟩ = some (.slice (some ⟨gb, go, none⟩) ((clauseB c).goals.length + 1) c4) ∧ (Wd.setCell ⟨bb, 2, none⟩ (.int .i64 (clauseB c).head)).cell? ⟨gb, go, none⟩ = some (.int .i64 (clauseB c).head) := by
          refine ⟨?_, ?_⟩
          · rw [hcs, if_neg (by simp)]; exact y3
          · rw [hcs, if_neg (by rintro ⟨h, -⟩; exact hbgb h)]; exact hMg
        refine ⟨fun _ _ _ _ => HFs, ?_⟩
        try simp only [Act.put, List.setIfInBounds_toArray, List.set_cons_zero, List.set_cons_succ]
        refine wpAnyF_take (i := 9) (v := ?_) rfl (by kernel_rfl) (by kernel_rfl) (by kernel_rfl) (fun _ _ _ h => h) (Or.inl ⟨by rfl, ?_⟩) (fun _ => HFs) ?_
        rotate_left
        · (intro w' hw; clear hw; go_simp <;> with_reducible rfl)
        try simp only [Act.put, List.setIfInBounds_toArray, List.set_cons_zero, List.set_cons_succ]
        refine wpAnyF_one (i := 10) (by kernel_rfl) (wpOp_run rfl (by rfl) ?_)
        go_simp
        refine ⟨fun k0 hk0 _ h12 => ?_, wpAnyF_done (by kernel_rfl) ?_ _⟩
        · rcases h12 with rfl | rfl | rfl
          · exact absurd (show waits _ 10 1 = true by kernel_rfl) (by rw [hk0]; decide)
          · exact absurd (show waits _ 10 3 = true by kernel_rfl) (by rw [hk0]; decide)
          · exact absurd (show waits _ 10 5 = true by kernel_rfl) (by rw [hk0]; decide)
        obtain ⟨W9, hW9⟩ : ∃ W9, W9 = ((Wd.setCell ⟨bb, 2, none⟩ (.int .i64 (clauseB c).head)).setCell ⟨bb, 3, none⟩ (.slice sa (clauseB c).goals.length (c4 - 1))) := ⟨_, rfl⟩
        have HX9 := hid (show W9.heap[bb]? = some (.cells #[.slice c1 (clauseB c).cells.length c2, .int .i64 (n : Int), .int .i64 (clauseB c).head, .slice sa (clauseB c).goals.length (c4 - 1)] 50 (0, 0)) by
          rw [hW9]; exact (blk_set (blk_set HXd.out 2 _) 3 _).trans rfl)
        have HK9 := hid (show Keeps (fun b => b ≠ bb) W8 W9 by
          rw [hW9]
          exact (HKd.out.trans (Keeps.setCell _ _ _ _ (fun h => h rfl))).trans (Keeps.setCell _ _ _ _ (fun h => h rfl)))
        have HB9 := hid (show Below w2.heap.size w2 W9 by
          rw [hW9]
          exact Below.setCell (Below.setCell HBd.out hbbw _) hbbw _)
        have HKu := hid (HK8.out.trans HK9.out)
        rw [← hW9]
        clear hW9 HFs HF3 hMg qS y0 y1 y2 y3 yf
        obtain ⟨y0, y1, y2, y3, yf⟩ := blk4 HX9.out
        have hbl9 := blk_lt HX9.out
        obtain ⟨r0, r1, r2, r3, rf⟩ := blk4 (HRS.out W9 HB9.out)
        have hrl := blk_lt (HRS.out W9 HB9.out)
        have hrbb : rb ≠ bb := by omega
        have hbbr : bb ≠ rb := by omega
        go_wp2_with fail
        refine bodyPost_ret (v := .tuple #[.agg #[.slice c1 (clauseB c).cells.length c2, .int .i64 (n : Int), .int .i64 (clauseB c).head, .slice sa (clauseB c).goals.length (c4 - 1)], .int .i64 0]) (by simp [results, Tryd.results33, go_sem, hcs, r0, r1, r2, r3, y0, y1, y2, y3, hrbb, hbbr]; try rfl) rfl ?_
        rw [HQF.out]
        have hKN := Keeps.trans (HKu.out.mono (A' := fun b => b ≠ bb ∧ b ≠ rb) (fun b _ h => h.1)) ((((Keeps.setCell (fun b => b ≠ bb ∧ b ≠ rb) W9 ⟨rb, 0, none⟩ (.slice c1 (clauseB c).cells.length c2) (fun h => h.2 rfl)).trans (Keeps.setCell _ _ ⟨rb, 1, none⟩ (.int .i64 (n : Int)) (fun h => h.2 rfl))).trans (Keeps.setCell _ _ ⟨rb, 2, none⟩ (.int .i64 (clauseB c).head) (fun h => h.2 rfl))).trans (Keeps.setCell _ _ ⟨rb, 3, none⟩ (.slice sa (clauseB c).goals.length (c4 - 1)) (fun h => h.2 rfl)))
        have hw2s := HBw2.out.size
        have hrb2 : rb < w2.heap.size := Nat.lt_of_lt_of_le hrb1 HB2.out.size
        refine Pure.mk (Below.setCell (Below.setCell (Below.setCell (Below.setCell (HBw2.out.trans (HB9.out.mono hw2s)) hrw _) hrw _) hrw _) hrw _) ⟨_, _, by rw [HV.out], ?_, ?_⟩
        · exact SlR.mono Ce.rep_lasts (by omega) (SlR.keeps Ce.rep_lasts HCE.out (hKN.mono (fun b _ h => ⟨h.2, by have := h.1; omega⟩))) (fun b _ hb => by have := hb.1; unfold New; omega)
        · exact SlR.mono numR_lasts (by omega) (SlR.keeps numR_lasts HDR.out (hKN.mono (fun b _ h => ⟨h.2, by have := h.1; omega⟩))) (fun b _ hb => by have := hb.1; unfold New; omega)
    · go_simp
      have HXB_u2 := hid (show (wd.alloc (.cells #[.slice none 0 0, .int .i64 0, .int .i64 0, .slice none 0 0] 50)).heap[wd.heap.size]? = some (.cells #[.slice none 0 0, .int .i64 0, .int .i64 0, .slice none 0 0] 50) from blk_new _ _)
      have HBa_u2 := HBo_wd.out.alloc hsz_wd (.cells #[.slice none 0 0, .int .i64 0, .int .i64 0, .slice none 0 0] 50)
      have HKa_u2 := Keeps.alloc (fun _ => True) wd (.cells #[.slice none 0 0, .int .i64 0, .int .i64 0, .slice none 0 0] 50)
      obtain ⟨bb, hbb⟩ : ∃ bb, bb = wd.heap.size := ⟨_, rfl⟩
      rw [← hbb] at HXB_u2
      rw [← hbb]
      have hbbw : w2.heap.size ≤ bb := by omega
      refine ⟨fun _ _ _ _ => HFC.out _ HBa_u2, ?_⟩
      generalize wd.alloc (.cells #[.slice none 0 0, .int .i64 0, .int .i64 0, .slice none 0 0] 50) = u2 at *
      have HBo_u2 := hid (show Below w2.heap.size w2 u2 from HBa_u2)
      have HBw_u2 := hid (HBw2.out.trans (HBo_u2.out.mono HBw2.out.size))
      have hsz_u2 := HBo_u2.out.size
      clear hbb HBa_u2 HKa_u2
      refine wpAnyF_one (i := 2) (by kernel_rfl) (wpOp_run rfl (by rfl) ?_)
      go_simp
      have HOH_u5 := hid (own_oneB (E := 31) (size := 4) (R := Tm.rep) (A := fun _ => True) (w := u2) (x := c.head) (us := [.int .i64 c.head.kind, .int .i64 c.head.n, .string c.head.s, .slice ha c.head.args.length hac]) Tm.rep_lasts (Tm.rep_lasts.2.1 _ _ _ _ _ (HHR.out u2 HBw_u2.out) (fun b _ hb => ⟨trivial, by have := HBw_u2.out.size; omega⟩)) rfl rfl)
      have HBa_u5 := HBo_u2.out.alloc hsz_u2 (.cells #[.int .i64 c.head.kind, .int .i64 c.head.n, .string c.head.s, .slice ha c.head.args.length hac] 31)
      obtain ⟨hb, hhb⟩ : ∃ hb, hb = u2.heap.size := ⟨_, rfl⟩
      rw [← hhb] at HOH_u5
      rw [← hhb]
      have hhbw : w2.heap.size ≤ hb := by omega
      have HXB_u5 := hid (blk_alloc HXB_u2.out (.cells #[.int .i64 c.head.kind, .int .i64 c.head.n, .string c.head.s, .slice ha c.head.args.length hac] 31))
      have hhbb : hb ≠ bb := by have := blk_lt HXB_u2.out; omega
      refine ⟨fun _ _ _ _ => HFC.out _ HBa_u5, ?_⟩
      generalize u2.alloc (.cells #[.int .i64 c.head.kind, .int .i64 c.head.n, .string c.head.s, .slice ha c.head.args.length hac] 31) = u5 at *
      have HBo_u5 := hid (show Below w2.heap.size w2 u5 from HBa_u5)
      have HBw_u5 := hid (HBw2.out.trans (HBo_u5.out.mono HBw2.out.size))
      have hsz_u5 := HBo_u5.out.size
      clear hhb HBa_u5
      refine wpAnyF_one (i := 5) (by kernel_rfl) (wpOp_run rfl (by rfl) ?_)
      refine wp_appS (.tmp 11) (.tmp 13) 29 rfl hb 31 4 56 tyTerm Tm.rep_lasts (A := fun _ => True) (.slice (some ⟨hb, 0, none⟩) 1 1) [c.head] rfl HOH_u5.out _ rfl c.body (SlR.mono Tm.rep_lasts (by omega) (HBR.out u5 HBw_u5.out) (fun b _ hb9 => ⟨trivial, by simp only [ownB]; simp; have := HBw2.out.size; omega⟩)) (by simp; omega) (by have := HOH_u5.out.lt hb (by simp [ownB]); omega) ?_
      intro tv u8 hown hgrew
      have HBa_u8 := hgrew.below HBo_u5.out hsz_u5 (fun k hk => by simp [ownB] at hk; omega)
      have HXB_u8 := hid (blk_keeps HXB_u5.out (hgrew.keeps (A := fun b => b ≠ hb) (fun b h => by simp [ownB]; exact fun e => h e.symm)) (Ne.symm hhbb))
      have HTS_u8 := hid (SlR.mono (A' := fun b => b < u8.heap.size) Tm.rep_lasts (by omega) (hown.sl Tm.rep_lasts (by simp; omega) (fun _ _ => trivial)) (fun b hb _ => hb))
      refine ⟨fun _ _ _ _ => HFC.out _ HBa_u8, ?_⟩
      clear hown hgrew
      try simp only [Act.put, List.setIfInBounds_toArray, List.set_cons_zero, List.set_cons_succ]
      have HBo_u8 := hid (show Below w2.heap.size w2 u8 from HBa_u8)
      have HBw_u8 := hid (HBw2.out.trans (HBo_u8.out.mono HBw2.out.size))
      have hsz_u8 := HBo_u8.out.size
      refine wpAnyF_one (i := 8) (by kernel_rfl) (wpOp_run rfl (by rfl) ?_)
      go_simp
      refine (blockOf_ok (c.head :: c.body) n (by omega) hndl u8 _ (show TmsR (fun b => b < u8.heap.size) u8 (c.head :: c.body) tv from HTS_u8.out)).mono ?_
      rintro e u9 ⟨r, rfl, hb8, cv, gv, rfl, hc2, hg2⟩
      rw [HLG.out] at hc2 hg2
      simp only at hc2 hg2
      have HBa_u9 := HBo_u8.out.trans (hb8.mono hsz_u8)
      have HXB_u9 := hid (blk_below HXB_u8.out hb8)
      have hbu_u9 := blk_lt HXB_u8.out
      have HCE_u9 := hid (SlR.mono (A' := fun b => w2.heap.size ≤ b ∧ b ≠ bb) Ce.rep_lasts (by omega) hc2 (fun b _ h => by unfold New at h; exact ⟨by omega, by omega⟩))
      have HNE_u9 := hid (SlR.mono (A' := fun b => w2.heap.size ≤ b ∧ b ≠ bb) numR_lasts (by omega) hg2 (fun b _ h => by unfold New at h; exact ⟨by omega, by omega⟩))
      refine ⟨fun _ _ _ _ => HFC.out _ HBa_u9, ?_⟩
      clear hb8 hc2 hg2
      have HBo_u9 := hid (show Below w2.heap.size w2 u9 from HBa_u9)
      have HBw_u9 := hid (HBw2.out.trans (HBo_u9.out.mono HBw2.out.size))
      have hsz_u9 := HBo_u9.out.size
      obtain ⟨c1, c2, _, _, hcv, hcl1, hcl2, -⟩ := SlR.at HCE_u9.out
      obtain ⟨c3, c4, gb, go, hgv, hgl1, hgl2, hgl3, hga, hge⟩ := SlR.at HNE_u9.out
      subst hcv
      subst hgv
      have hbl := blk_lt HXB_u9.out
      obtain ⟨y0, y1, y2, y3, yf⟩ := blk4 HXB_u9.out
      try simp only [Act.put, List.setIfInBounds_toArray, List.set_cons_zero, List.set_cons_succ]
      refine wpAnyF_one (i := 10) (by kernel_rfl) (wpOp_run rfl (by rfl) ?_)
      go_simp
      refine ⟨fun _ _ _ _ => HFC.out _ (Below.setCell (Below.setCell (Below.setCell (Below.setCell HBo_u9.out hbbw _) hbbw _) hbbw _) hbbw _), wpAnyF_done (by kernel_rfl) ?_ _⟩
      obtain ⟨rfl, hgA⟩ := hga (by simp)
      have hg0 := num_cell hge hgA (Keeps.refl _ _) (k := 0) (by simp)
      simp only [List.getElem_cons_zero, Nat.add_zero] at hg0
      have hgbl := World.block_lt_of_cell? u9 _ hg0.1
      simp only at hgbl
      have hgbb : gb ≠ bb := hgA.2
      have hbgb : bb ≠ gb := fun e => hgbb e.symm
      have HNE := hid HNE_u9.out
      have HCE := hid HCE_u9.out
      obtain ⟨W8, hW8⟩ : ∃ W8, W8 = ((((u9.setCell ⟨bb, 0, none⟩ (.slice c1 (clauseB c).cells.length c2)).setCell ⟨bb, 1, none⟩ (.int .i64 (n : Int))).setCell ⟨bb, 2, none⟩ (.int .i64 (-1))).setCell ⟨bb, 3, none⟩ (.slice (some ⟨gb, go, none⟩) ((clauseB c).goals.length + 1) c4)) := ⟨_, rfl⟩
      have HX8 := hid (show W8.heap[bb]? = some (.cells #[.slice c1 (clauseB c).cells.length c2, .int .i64 (n : Int), .int .i64 (-1), .slice (some ⟨gb, go, none⟩) ((clauseB c).goals.length + 1) c4] 50 (0, 0)) by
        rw [hW8]; exact (blk_set (blk_set (blk_set (blk_set HXB_u9.out 0 _) 1 _) 2 _) 3 _).trans rfl)
      have HK8 := hid (show Keeps (fun b => b ≠ bb) u9 W8 by
        rw [hW8]
        exact ((((Keeps.setCell _ _ _ _ (fun h => h rfl)).trans (Keeps.setCell _ _ _ _ (fun h => h rfl))).trans (Keeps.setCell _ _ _ _ (fun h => h rfl))).trans (Keeps.setCell _ _ _ _ (fun h => h rfl))))
      have HB8 := hid (show Below w2.heap.size w2 W8 by
        rw [hW8]
        exact Below.setCell (Below.setCell (Below.setCell (Below.setCell HBo_u9.out hbbw _) hbbw _) hbbw _) hbbw _)
      rw [← hW8]
      have hbl8 := blk_lt HX8.out
      have hg8 := HK8.out.cell hgbb hg0.1
      have hgbl8 := World.block_lt_of_cell? W8 _ hg8
      simp only at hgbl8
      clear hW8 y0 y1 y2 y3 yf hg0 hge hga HF hF0
      obtain ⟨sa, hsa⟩ : ∃ sa, sa = (if c4 = 1 then some (⟨gb, go, none⟩ : Addr) else (some (⟨gb, go, none⟩ : Addr)).map fun x => x.add (1 * 1)) := ⟨_, rfl⟩
      have qS : ∀ W : World, (Instr.slice 48 (.slice (some ⟨gb, go, none⟩) ((clauseB c).goals.length + 1) c4) (some (.int .i64 1)) none none).run Tryd.prog W = .ok (.slice sa (clauseB c).goals.length (c4 - 1)) W := fun W => by
        have := slice_from_numsB W (some ⟨gb, go, none⟩) ((clauseB c).goals.length + 1) c4 1 (by omega)
        rw [← hsa] at this
        simpa using this
      have HDR := hid (show NumsR (fun b => w2.heap.size ≤ b ∧ b ≠ bb) u9 (clauseB c).goals (.slice sa (clauseB c).goals.length (c4 - 1)) by
        have := SlR.dropB HNE.out (k := 1) (by simp)
        rw [← hsa] at this
        simpa using this)
      clear hsa
      have hgl0 : (0 : Int) < (((clauseB c).goals.length + 1 : Nat) : Int) := by omega
      go_wp2_with fail
      refine wp_region_F (F := fun k w' => (k = 1 ∨ k = 3 ∨ k = 5) → w'.cell? ⟨bb, 3, none⟩ = some (.slice (some ⟨gb, go, none⟩) ((clauseB c).goals.length + 1) c4) ∧ w'.cell? ⟨gb, go, none⟩ = some (.int .i64 (clauseB c).head)) (by kernel_rfl) ?_
      have HXd := hid (show W8.drew.heap[bb]? = some (.cells #[.slice c1 (clauseB c).cells.length c2, .int .i64 (n : Int), .int .i64 (-1), .slice (some ⟨gb, go, none⟩) ((clauseB c).goals.length + 1) c4] 50 (0, 0)) from HX8.out)
      have hMg : W8.drew.cell? ⟨gb, go, none⟩ = some (.int .i64 (clauseB c).head) := hg8
      have HBd := hid (show Below w2.heap.size w2 W8.drew from HB8.out.drew)
      have HKd := hid (show Keeps (fun b => b ≠ bb) W8 W8.drew from Keeps.drew _ _)
      generalize W8.drew = Wd at *
      clear hg8 hgbl8 hbl8
      obtain ⟨y0, y1, y2, y3, yf⟩ := blk4 HXd.out
      have hbld := blk_lt HXd.out
      have HF3 : Wd.cell? ⟨bb, 3, none⟩ = some (.slice (some ⟨gb, go, none⟩) ((clauseB c).goals.length + 1) c4) ∧ Wd.cell? ⟨gb, go, none⟩ = some (.int .i64 (clauseB c).head) := ⟨y3, hMg⟩
      refine wpAnyF_take (i := 0) (v := ?_) rfl (by kernel_rfl) (by kernel_rfl) (by kernel_rfl) (fun _ _ _ h => h) (Or.inl ⟨by rfl, ?_⟩) (fun _ => HF3) ?_
      rotate_left
      · (intro w' hw; clear hw; go_simp <;> with_reducible rfl)
      try simp only [Act.put, List.setIfInBounds_toArray, List.set_cons_zero, List.set_cons_succ]
      refine wpAnyF_take (i := 1) (v := ?_) rfl (by kernel_rfl) (by kernel_rfl) (by kernel_rfl) (fun _ _ _ h => h) (Or.inl ⟨by rfl, ?_⟩) (fun _ => HF3) ?_
      rotate_left
      · (intro w' hw; obtain ⟨q0, q1⟩ := hw (by omega); clear hw; go_simp <;> with_reducible rfl)
      try simp only [Act.put, List.setIfInBounds_toArray, List.set_cons_zero, List.set_cons_succ]
      refine wpAnyF_take (i := 2) (v := .pointer (some ⟨gb, go, none⟩)) rfl (by kernel_rfl) (by kernel_rfl) (by kernel_rfl) (fun _ _ _ h => h) (Or.inl ⟨by rfl, ?_⟩) (fun _ => HF3) ?_
      · (intro w' hw; clear hw; go_simp <;> omega)
      try simp only [Act.put, List.setIfInBounds_toArray, List.set_cons_zero, List.set_cons_succ]
      refine wpAnyF_take (i := 3) (v := ?_) rfl (by kernel_rfl) (by kernel_rfl) (by kernel_rfl) (fun _ _ _ h => h) (Or.inl ⟨by rfl, ?_⟩) (fun _ => HF3) ?_
      rotate_left
      · (intro w' hw; obtain ⟨q0, q1⟩ := hw (by omega); clear hw; go_simp <;> with_reducible rfl)
      try simp only [Act.put, List.setIfInBounds_toArray, List.set_cons_zero, List.set_cons_succ]
      refine wpAnyF_take (i := 4) (v := ?_) rfl (by kernel_rfl) (by kernel_rfl) (by kernel_rfl) (fun _ _ _ h => h) (Or.inl ⟨by rfl, ?_⟩) (fun _ => HF3) ?_
      rotate_left
      · (intro w' hw; clear hw; go_simp <;> with_reducible rfl)
      try simp only [Act.put, List.setIfInBounds_toArray, List.set_cons_zero, List.set_cons_succ]
      refine wpAnyF_take (i := 5) (v := ?_) rfl (by kernel_rfl) (by kernel_rfl) (by kernel_rfl) (fun _ _ _ h => h) (Or.inl ⟨by rfl, ?_⟩) (fun _ => HF3) ?_
      rotate_left
      · (intro w' hw; obtain ⟨q0, q1⟩ := hw (by omega); clear hw; go_simp <;> with_reducible rfl)
      try simp only [Act.put, List.setIfInBounds_toArray, List.set_cons_zero, List.set_cons_succ]
      refine wpAnyF_take (i := 6) (v := .slice sa (clauseB c).goals.length (c4 - 1)) rfl (by kernel_rfl) (by kernel_rfl) (by kernel_rfl) (fun _ _ _ h => h) (Or.inl ⟨by rfl, ?_⟩) (fun _ => HF3) ?_
      · (intro w' hw; clear hw; go_simp)
      try simp only [Act.put, List.setIfInBounds_toArray, List.set_cons_zero, List.set_cons_succ]
      refine wpAnyF_take (i := 7) (v := ?_) rfl (by kernel_rfl) (by kernel_rfl) (by kernel_rfl) (fun _ _ _ h => h) (Or.inl ⟨by rfl, ?_⟩) (fun _ => HF3) ?_
      rotate_left
      · (intro w' hw; clear hw; go_simp <;> with_reducible rfl)
      try simp only [Act.put, List.setIfInBounds_toArray, List.set_cons_zero, List.set_cons_succ]
      refine wpAnyF_one (i := 8) (by kernel_rfl) (wpOp_run rfl (by rfl) ?_)
      go_simp
      have HFs : (Wd.setCell ⟨bb, 2, none⟩ (.int .i64 (clauseB c).head)).cell? ⟨bb, 3, none⟩ = some (.slice (some ⟨gb, go, none⟩) ((clauseB c).goals.length + 1) c4) ∧ (Wd.setCell ⟨bb, 2, none⟩ (.int .i64 (clauseB c).head)).cell? ⟨gb, go, none⟩ = some (.int .i64 (clauseB c).head) := by
        refine ⟨?_, ?_⟩
        · rw [hcs, if_neg (by simp)]; exact y3
        · rw [hcs, if_neg (by rintro ⟨h, -⟩; exact hbgb h)]; exact hMg
      refine ⟨fun _ _ _ _ => HFs, ?_⟩
      try simp only [Act.put, List.setIfInBounds_toArray, List.set_cons_zero, List.set_cons_succ]
      refine wpAnyF_take (i := 9) (v := ?_) rfl (by kernel_rfl) (by kernel_rfl) (by kernel_rfl) (fun _ _ _ h => h) (Or.inl ⟨by rfl, ?_⟩) (fun _ => HFs) ?_
      rotate_left
      · (intro w' hw; clear hw; go_simp <;> with_reducible rfl)
      try simp only [Act.put, List.setIfInBounds_toArray, List.set_cons_zero, List.set_cons_succ]
      refine wpAnyF_one (i := 10) (by kernel_rfl) (wpOp_run rfl (by rfl) ?_)
      go_simp
      refine ⟨fun k0 hk0 _ h12 => ?_, wpAnyF_done (by kernel_rfl) ?_ _⟩
      · rcases h12 with rfl | rfl | rfl
        · exact absurd (show waits _ 10 1 = true by kernel_rfl) (by rw [hk0]; decide)
        · exact absurd (show waits _ 10 3 = true by kernel_rfl) (by rw [hk0]; decide)
        · exact absurd (show waits _ 10 5 = true by kernel_rfl) (by rw [hk0]; decide)
      obtain ⟨W9, hW9⟩ : ∃ W9, W9 = ((Wd.setCell ⟨bb, 2, none⟩ (.int .i64 (clauseB c).head)).setCell ⟨bb, 3, none⟩ (.slice sa (clauseB c).goals.length (c4 - 1))) := ⟨_, rfl⟩
      have HX9 := hid (show W9.heap[bb]? = some (.cells #[.slice c1 (clauseB c).cells.length c2, .int .i64 (n : Int), .int .i64 (clauseB c).head, .slice sa (clauseB c).goals.length (c4 - 1)] 50 (0, 0)) by
        rw [hW9]; exact (blk_set (blk_set HXd.out 2 _) 3 _).trans rfl)
      have HK9 := hid (show Keeps (fun b => b ≠ bb) W8 W9 by
        rw [hW9]
        exact (HKd.out.trans (Keeps.setCell _ _ _ _ (fun h => h rfl))).trans (Keeps.setCell _ _ _ _ (fun h => h rfl)))
      have HB9 := hid (show Below w2.heap.size w2 W9 by
        rw [hW9]
        exact Below.setCell (Below.setCell HBd.out hbbw _) hbbw _)
      have HKu := hid (HK8.out.trans HK9.out)
      rw [← hW9]
      clear hW9 HFs HF3 hMg qS y0 y1 y2 y3 yf
      obtain ⟨y0, y1, y2, y3, yf⟩ := blk4 HX9.out
      have hbl9 := blk_lt HX9.out
      obtain ⟨r0, r1, r2, r3, rf⟩ := blk4 (HRS.out W9 HB9.out)
      have hrl := blk_lt (HRS.out W9 HB9.out)
      have hrbb : rb ≠ bb := by omega
      have hbbr : bb ≠ rb := by omega
      go_wp2_with fail
      refine bodyPost_ret (v := .tuple #[.agg #[.slice c1 (clauseB c).cells.length c2, .int .i64 (n : Int), .int .i64 (clauseB c).head, .slice sa (clauseB c).goals.length (c4 - 1)], .int .i64 0]) (by simp [results, Tryd.results33, go_sem, hcs, r0, r1, r2, r3, y0, y1, y2, y3, hrbb, hbbr]; try rfl) rfl ?_
      rw [HQF.out]
      have hKN := Keeps.trans (HKu.out.mono (A' := fun b => b ≠ bb ∧ b ≠ rb) (fun b _ h => h.1)) ((((Keeps.setCell (fun b => b ≠ bb ∧ b ≠ rb) W9 ⟨rb, 0, none⟩ (.slice c1 (clauseB c).cells.length c2) (fun h => h.2 rfl)).trans (Keeps.setCell _ _ ⟨rb, 1, none⟩ (.int .i64 (n : Int)) (fun h => h.2 rfl))).trans (Keeps.setCell _ _ ⟨rb, 2, none⟩ (.int .i64 (clauseB c).head) (fun h => h.2 rfl))).trans (Keeps.setCell _ _ ⟨rb, 3, none⟩ (.slice sa (clauseB c).goals.length (c4 - 1)) (fun h => h.2 rfl)))
      have hw2s := HBw2.out.size
      have hrb2 : rb < w2.heap.size := Nat.lt_of_lt_of_le hrb1 HB2.out.size
      refine Pure.mk (Below.setCell (Below.setCell (Below.setCell (Below.setCell (HBw2.out.trans (HB9.out.mono hw2s)) hrw _) hrw _) hrw _) hrw _) ⟨_, _, by rw [HV.out], ?_, ?_⟩
      · exact SlR.mono Ce.rep_lasts (by omega) (SlR.keeps Ce.rep_lasts HCE.out (hKN.mono (fun b _ h => ⟨h.2, by have := h.1; omega⟩))) (fun b _ hb => by have := hb.1; unfold New; omega)
      · exact SlR.mono numR_lasts (by omega) (SlR.keeps numR_lasts HDR.out (hKN.mono (fun b _ h => ⟨h.2, by have := h.1; omega⟩))) (fun b _ hb => by have := hb.1; unfold New; omega)
end Go.Proofs.YtlpmfkpefoegeabDoor
