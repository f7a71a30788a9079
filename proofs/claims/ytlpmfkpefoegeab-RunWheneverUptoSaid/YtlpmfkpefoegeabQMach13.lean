/-
  The machine: All.
-/
import Derived.Test.YtlpmfkpefoegeabPMRnd
import Derived.Test.YtlpmfkpefoegeabQCode
namespace Go.Proofs.Ytlpmfkpefoegeab
set_option linter.unusedVariables false
set_option linter.unusedSimpArgs false
open Go.RowKit
def MAllPost (w : World) (r : List Ev × Int) (e : Ending) (w' : World) : Prop := ∃ ev, e = .returned (.tuple #[ev, .int .i64 r.2]) ∧ Below w.heap.size w w' ∧ SlR 2 evR (fun _ => True) w' r.1 ev
theorem machF_cases (P : List Cl) (Q : List Tm) (vars fuel every : Int) : (¬ (GoodP P ∧ GoodQ Q vars) ∧ machF P Q vars fuel every = ([], 1)) ∨ ((GoodP P ∧ GoodQ Q vars) ∧ (fuel < 0 ∨ fuel > 150 ∨ every < 0) ∧ machF P Q vars fuel every = ([], 2)) ∨
    ((GoodP P ∧ GoodQ Q vars) ∧ 0 ≤ fuel ∧ fuel ≤ 150 ∧ 0 ≤ every ∧ machF P Q vars fuel every = ((runM P vars.toNat fuel every (fuel.toNat + 14) (beginM Q vars fuel.toNat)).out, 0)) := by
  unfold machF
  by_cases h : GoodP P ∧ GoodQ Q vars
  · rw [if_neg (not_not_intro h)]
    by_cases h2 : fuel < 0 ∨ fuel > 150 ∨ every < 0
    · rw [if_pos h2]; exact .inr (.inl ⟨h, h2, rfl⟩)
    · rw [if_neg h2]; exact .inr (.inr ⟨h, by omega, by omega, by omega, rfl⟩)
  · rw [if_pos h]; exact .inl ⟨h, rfl⟩
section
variable {P : List Cl} {Q : List Tm} {vars fuel every : Int}
set_option maxHeartbeats 2000000 in
theorem mall_bad (h0 : ¬ (GoodP P ∧ GoodQ Q vars) ∨ (fuel < 0 ∨ fuel > 150 ∨ every < 0)) (hnp : clsNodes P ≤ 1099511627776) (hnq : Tm.nodesL Q ≤ 1099511627776) (hv : I64 vars) (hf : I64 fuel) (w : World) (pv qv : Value) (hpv : ClsR (fun b => b < w.heap.size) w P pv) (hqv : TmsR (fun b => b < w.heap.size) w Q qv) :
    Calls Try.prog 26 #[pv, qv, .int .i64 vars, .int .i64 fuel, .int .i64 every] w (MAllPost w (machF P Q vars fuel every)) := by
  have HGP := hid (goodProgram_ok P hnp _ w pv hpv)
  have HGQ := hid (fun (w' : World) (hb : Below w.heap.size w w') => goodQuery_ok Q vars hnq hv _ w' qv (SlR.keeps Tm.rep_lasts hqv (Keeps.of_below hb)))
  have HV := hid hv
  have HS := hid (machF_cases P Q vars fuel every)
  have H0 := hid h0
  obtain ⟨pa, pc, -, -, rfl, -⟩ := SlR.at hpv
  obtain ⟨qa, qc, -, -, rfl, -⟩ := SlR.at hqv
  clear hpv hqv h0 hv
  go_enter Try.func26, Try.ntmps26
  go_wp2_with fail
  refine (HGP.out).mono ?_
  rintro e w1 ⟨v, rfl, hb1, b1, rfl, hgb1⟩
  have HB1 := hid hb1
  have HG1 := hid hgb1
  clear hb1 hgb1
  cases b1 with
  | false =>
    have HR := hid (show machF P Q vars fuel every = ([], 1) by
      rcases HS.out with ⟨_, h⟩ | ⟨h, _⟩ | ⟨h, _⟩
      · exact h
      · have := HG1.out.2 h.1; cases this
      · have := HG1.out.2 h.1; cases this)
    go_wp2_with fail
    go_ret2
    rw [HR.out]
    exact ⟨_, rfl, HB1.out, SlR.nil ..⟩
  | true =>
    go_wp2_with fail
    refine (HGQ.out w1 HB1.out).mono ?_
    rintro e w2 ⟨v, rfl, hb2, b2, rfl, hgb2⟩
    have HB2 := hid (HB1.out.trans (hb2.mono HB1.out.size))
    have HG2 := hid hgb2
    clear hb2 hgb2
    cases b2 with
    | false =>
      have HR := hid (show machF P Q vars fuel every = ([], 1) by
        rcases HS.out with ⟨_, h⟩ | ⟨h, _⟩ | ⟨h, _⟩
        · exact h
        · have := HG2.out.2 h.2; cases this
        · have := HG2.out.2 h.2; cases this)
      go_wp2_with fail
      go_ret2
      rw [HR.out]
      exact ⟨_, rfl, HB2.out, SlR.nil ..⟩
    | true =>
      have hfb : fuel < 0 ∨ fuel > 150 ∨ every < 0 := by
        rcases H0.out with h | h
        · exact absurd ⟨HG1.out.1 (by simp), HG2.out.1 (by simp)⟩ h
        · exact h
      have HR := hid (show machF P Q vars fuel every = ([], 2) by
        rcases HS.out with ⟨h, _⟩ | ⟨_, _, h⟩ | ⟨_, h1, h2, h3, _⟩
        · exact absurd ⟨HG1.out.1 (by simp), HG2.out.1 (by simp)⟩ h
        · exact h
        · omega)
      by_cases h1 : fuel < 0
      · have hd : decide (fuel < 0) = true := by simpa using h1
        go_wp2_with fail
        go_ret2
        rw [HR.out]
        exact ⟨_, rfl, HB2.out, SlR.nil ..⟩
      · have hd : decide (fuel < 0) = false := by simpa using h1
        by_cases h2 : (150 : Int) < fuel
        · have hd3 : decide (150 < fuel) = true := by simpa using h2
          go_wp2_with fail
          go_ret2
          rw [HR.out]
          exact ⟨_, rfl, HB2.out, SlR.nil ..⟩
        · have hd3 : decide (150 < fuel) = false := by simpa using h2
          have h3 : every < 0 := by omega
          have hd4 : decide (every < 0) = true := by simpa using h3
          go_wp2_with fail
          go_ret2
          rw [HR.out]
          exact ⟨_, rfl, HB2.out, SlR.nil ..⟩
theorem begin_facts {Q : List Tm} {n : Nat} (hQ : GoodQ Q (n : Int)) : (loadF ⟨[], []⟩ (queryB Q (n : Int)).cells).2.1 = 0 ∧ (queryB Q (n : Int)).goals.length ≤ 5 ∧ ∀ a ∈ (queryB Q (n : Int)).goals, 0 ≤ a ∧ a ≤ 1000000 := by
  obtain ⟨F, hF⟩ : ∃ F, F = (goalsF (begF n) Q).1 := ⟨_, rfl⟩
  obtain ⟨b1, b2, b3, b4, b5, b6⟩ := query_block hQ F hF
  have hcells : (queryB Q (n : Int)).cells = F := by rw [hF]; simp [queryB]
  have hgoals : (queryB Q (n : Int)).goals = (goalsF (begF n) Q).2 := by simp [queryB]
  have h0g : Hp.Good ⟨[], []⟩ := ⟨fun i hi => by simp at hi, fun j hj => by simp at hj, by simp, by simp⟩
  have hld := load_eq (h := ⟨[], []⟩) (F := F) h0g b3 (by simp only [List.length_nil]; omega)
  have hlg := goalsF_len2 Q (begF n)
  have h5 : Q.length ≤ 5 := hQ.2.2.1
  rw [hcells, hgoals, hld]
  refine ⟨by simp, by omega, fun a ha => ?_⟩
  obtain ⟨j, hj, rfl⟩ := List.mem_iff_getElem.1 ha
  obtain ⟨a, e1, e2, e3⟩ := b6 j (by omega)
  rw [List.getElem?_eq_getElem hj] at e1
  simp only [Option.some.injEq] at e1
  rw [e1]
  have := (List.getElem?_eq_some_iff.1 e3).1
  omega
def mvMu (g : Nat) (w : World) : Nat := match w.cell? ⟨g, 8, none⟩, w.cell? ⟨g, 9, none⟩ with
  | some (.int _ k), some (.slice _ n _) => k.toNat + 13 - n
  | _, _ => 0
def onMuM (on : Value) (g : Nat) (w : World) : Nat := match on with
  | .bool true => mvMu g w + 1
  | _ => 0
theorem mvMu_of {base : Nat} {q g : Nat} {pv hc ht : Value} {o : Mo} {m : Mv} {w : World} (h : MvI base P q g pv hc ht o m w) : mvMu g w = muM m := by
  obtain ⟨_, _, _, _, _, _, oa, oc, _, _, _, _, _, _, _, e, _⟩ := h.vals
  obtain ⟨-, -, -, -, -, -, -, -, b8, b9, -⟩ := box10 h.box
  unfold mvMu muM
  rw [b8, b9, e]
  simp
theorem mv_below {base : Nat} {q g : Nat} {pv hc ht : Value} {o : Mo} {m : Mv} {w wr w' : World} (h : MvI base P q g pv hc ht o m wr) (hb : Below w.heap.size w wr) (hch : Ch (MM g o) wr w') (hg : w.heap.size ≤ g) (hbs : w.heap.size ≤ base) : Below w.heap.size w w' := by
  have h1 : Ch (MM g o) w w' := (Ch.of_below hb).trans hch (fun x h => .inl h)
  refine h1.below fun k hk e => ?_
  have := (h.mm_lt k e).1
  omega
theorem tyMc : ElemTy Try.prog 103 109 6 88 := .mk' (z := .agg #[.string ByteArray.empty, .int .i64 0, .slice none 0 0, .int .i64 0, .int .i64 0, .slice none 0 0]) Try.underlying103 (by kernel_rfl) rfl (by omega) (by omega)
set_option maxRecDepth 100000 in
set_option maxHeartbeats 8000000 in
theorem mall_good (hgp : GoodP P) (hgq : GoodQ Q vars) (hf0 : 0 ≤ fuel) (hf1 : fuel ≤ 150) (he0 : 0 ≤ every) (hei : I64 every) (hnp : clsNodes P ≤ 1099511627776) (hnq : Tm.nodesL Q ≤ 1099511627776) (w : World) (pv qv : Value) (hpv : ClsR (fun b => b < w.heap.size) w P pv) (hqv : TmsR (fun b => b < w.heap.size) w Q qv) :
    Calls Try.prog 26 #[pv, qv, .int .i64 vars, .int .i64 fuel, .int .i64 every] w (MAllPost w (machF P Q vars fuel every)) := by
  have hv0 := hgq.1
  have hv8 := hgq.2.1
  have HGP := hid (goodProgram_ok P hnp _ w pv hpv)
  have HGQ := hid (fun (w' : World) (hb : Below w.heap.size w w') => goodQuery_ok Q vars hnq (by unfold I64; omega) _ w' qv (SlR.keeps Tm.rep_lasts hqv (Keeps.of_below hb)))
  have HQY := hid (fun (w' : World) (hb : Below w.heap.size w w') => query_ok Q vars (by unfold I64; omega) hnq w' qv (SlR.mono Tm.rep_lasts (by omega) (SlR.keeps Tm.rep_lasts hqv (Keeps.of_below hb)) (fun b hb' _ => hb')))
  obtain ⟨vn, rfl⟩ := Int.eq_ofNat_of_zero_le hv0
  obtain ⟨fn, rfl⟩ := Int.eq_ofNat_of_zero_le hf0
  have HS := hid (show machF P Q (vn : Int) (fn : Int) every = ((runM P vn (fn : Int) every (fn + 14) (beginM Q (vn : Int) fn)).out, 0) by
    rcases machF_cases P Q (vn : Int) (fn : Int) every with ⟨h, _⟩ | ⟨_, h, _⟩ | ⟨_, _, _, _, h⟩
    · exact absurd ⟨hgp, hgq⟩ h
    · omega
    · exact h)
  have HBS := hid (begin_sim (f := fn) hgp hgq (by omega))
  have HIP := hid hgp
  have HIQ := hid hgq
  have hp24 := hgp.1
  obtain ⟨pa, pc, pb, poff, rfl, hpl1, hpl2, hpl3, hpa, hpe⟩ := SlR.at hpv
  obtain ⟨qa, qc, qb, qoff, rfl, hql1, hql2, hql3, -⟩ := SlR.at hqv
  have HPA := hid hpa
  have HPE := hid hpe
  unfold maxLen at hpl2 hql2
  clear hpv hqv hgp hgq hpa hpe
  go_enter Try.func26, Try.ntmps26
  go_wp2_with fail
  refine (HGP.out).mono ?_
  rintro e w1 ⟨v, rfl, hb1, b1, rfl, hgb1⟩
  obtain rfl : b1 = true := hgb1.2 HIP.out
  have HB1 := hid hb1
  clear hb1 hgb1
  go_wp2_with fail
  refine (HGQ.out w1 HB1.out).mono ?_
  rintro e w2 ⟨v, rfl, hb2, b2, rfl, hgb2⟩
  obtain rfl : b2 = true := hgb2.2 HIQ.out
  have HB2 := hid (HB1.out.trans (hb2.mono HB1.out.size))
  clear hb2 hgb2
  have hd : decide ((fn : Int) < 0) = false := by simp
  have hd3 : decide (150 < (fn : Int)) = false := by simp; omega
  have hd4 : decide (every < 0) = false := by simp; omega
  have hz2 := HB2.out.size
  go_wp2_with fail
  obtain ⟨W5, hW5⟩ : ∃ W5, W5 = w2.alloc (.cells #[.slice none 0 0, .slice none 0 0, .slice none 0 0, .slice none 0 0, .slice none 0 0, .int .i64 0, .int .i64 (vn : Int), .int .i64 0, .int .i64 (fn : Int), .slice none 0 0] 107) := ⟨_, rfl⟩
  have HB5 := hid (show Below w.heap.size w W5 by rw [hW5]; exact HB2.out.alloc hz2 _)
  have HX5 := hid (show W5.heap[w2.heap.size]? = some (.cells #[.slice none 0 0, .slice none 0 0, .slice none 0 0, .slice none 0 0, .slice none 0 0, .int .i64 0, .int .i64 (vn : Int), .int .i64 0, .int .i64 (fn : Int), .slice none 0 0] 107 (0, 0)) by rw [hW5]; exact blk_new _ _)
  have hs5 : W5.heap.size = w2.heap.size + 1 := by rw [hW5]; simp
  obtain ⟨g, hg⟩ : ∃ g, g = w2.heap.size := ⟨_, rfl⟩
  rw [← hW5, ← hg]
  rw [← hg] at HX5
  have hgw : w.heap.size ≤ g := by omega
  have hg5 : g < W5.heap.size := by omega
  clear hW5
  have hpl0 : (0 : Int) ≤ (P.length : Int) := Int.natCast_nonneg _
  rw [← hg] at hs5
  clear hg hd hd3 hd4
  go_wp2_with fail
  go_loopw [45] (fun i wr => ∃ (j : Nat) (pv' : Value), j ≤ P.length ∧ i = .int .i64 (j : Int) ∧ Below w.heap.size w wr ∧ W5.heap.size ≤ wr.heap.size ∧ wr.heap[g]? = some (.cells #[pv', .slice none 0 0, .slice none 0 0, .slice none 0 0, .slice none 0 0, .int .i64 0, .int .i64 (vn : Int), .int .i64 0, .int .i64 (fn : Int), .slice none 0 0] 107 (0, 0)) ∧ OwnR wr W5.heap.size 109 6 McR (fun b => W5.heap.size ≤ b) (P.take j) pv') (fun i _ => P.length - (intOf i).toNat)
  case atStart => exact ⟨0, .slice none 0 0, Nat.zero_le _, rfl, HB5.out, Nat.le_refl _, HX5.out, OwnR.nil ..⟩
  case round =>
    obtain ⟨j, pv', hj, rfl, hbw, hz5, hbx, hown⟩ := hrel
    have HB := hid hbw
    have HX := hid hbx
    have HO := hid hown
    have hj0 : (0 : Int) ≤ (j : Int) := Int.natCast_nonneg _
    have hzw := hbw.size
    obtain ⟨va, vc, hvv, hvl, hvm⟩ := OwnR.val' hown
    rw [List.length_take, Nat.min_eq_left hj] at hvv hvl
    subst hvv
    unfold maxLen at hvm
    clear hbw hbx hown
    by_cases hlt : j < P.length
    · have hlt' : (j : Int) < (P.length : Int) := by omega
      obtain ⟨hpa1, hpA⟩ := HPA.out (by omega)
      have HTK := hid (show P.take (j + 1) = P.take j ++ [P[j]] from List.take_succ_eq_append_getElem hlt)
      have HCG := hid (HIP.out.2 _ (List.getElem_mem hlt))
      have HCN := hid (show (P[j]).nodes ≤ 1099511627776 by have := clsNodes_mem (List.getElem_mem hlt); omega)
      subst hpa1
      obtain ⟨a, ac, bd, bc, c0, c1, c2, c3, c4, c5, hcr⟩ := cl_cells HPE.out hpA (Keeps.of_below HB.out : Keeps (fun b => b < w.heap.size) w wr) hlt
      generalize P[j] = c at *
      have hpbl := World.block_lt_of_cell? wr _ c0
      simp only at hpbl
      obtain ⟨W6, hW6⟩ : ∃ W6, W6 = wr.alloc (.cells #[.int .i64 c.head.kind, .int .i64 c.head.n, .string c.head.s, .slice a c.head.args.length ac, .slice bd c.body.length bc, .int .i64 c.vars] 26) := ⟨_, rfl⟩
      obtain ⟨x1, hx1⟩ : ∃ x, x = wr.heap.size := ⟨_, rfl⟩
      have hg6 : Below wr.heap.size wr W6 := by rw [hW6]; exact (Below.refl _ _).alloc (Nat.le_refl _) _
      have HX6 := hid (blk_below HX.out hg6)
      have HY6 := hid (show W6.heap[x1]? = some (.cells #[.int .i64 c.head.kind, .int .i64 c.head.n, .string c.head.s, .slice a c.head.args.length ac, .slice bd c.body.length bc, .int .i64 c.vars] 26 (0, 0)) by rw [hW6, hx1]; exact blk_new _ _)
      have HB6 := hid (HB.out.trans (hg6.mono hzw))
      have HO6 := hid (HO.out.below McR_lasts hg6)
      have hz6 := hg6.size
      have HCA := hid (clause_ok c HCN.out W6 _ (Cl.rep_lasts.2.1 _ _ _ _ _ (Cl.rep_lasts.1 _ _ W6 _ _ hcr (Keeps.of_below (hg6.mono (by omega)))) (fun b hb _ => hb)))
      rw [show clauseF c = (clauseB c, 0) by rw [clauseF, if_pos HCG.out]] at HCA
      have HW6 := hid hW6
      have HXE := hid hx1
      clear hW6 hx1 hg6 hcr
      go_wp2_with fail
      rw [← HXE.out, ← HW6.out]
      refine (HCA.out).mono ?_
      rintro e w7 ⟨r, rfl, hb7, cv, gv, rfl, hcv, hgv⟩
      simp only at hcv hgv
      obtain ⟨cva, cvc, -, -, rfl, -⟩ := SlR.at hcv
      obtain ⟨gva, gvc, rfl, -⟩ := nums_val hgv
      have HX7 := hid (blk_below HX6.out hb7)
      have HY7 := hid (blk_below HY6.out hb7)
      have HB7 := hid (HB6.out.trans (hb7.mono (by omega)))
      have HO7 := hid (HO6.out.below McR_lasts hb7)
      have hz7 := hb7.size
      have HC7 := hid hcv
      have HG7 := hid hgv
      clear hb7 hcv hgv c0 c1 c2 c3 c4 c5
      go_wp2_with fail
      obtain ⟨x2, hx2⟩ : ∃ x, x = w7.heap.size := ⟨_, rfl⟩
      have HAL := hid (show Below w7.heap.size w7 (w7.alloc (.cells #[.slice cva (clauseB c).cells.length cvc, .int .i64 (clauseB c).vars, .int .i64 (clauseB c).head, .slice gva (clauseB c).goals.length gvc] 32)) from (Below.refl _ _).alloc (Nat.le_refl _) _)
      have HZ8 := hid (blk_new w7 (.cells #[.slice cva (clauseB c).cells.length cvc, .int .i64 (clauseB c).vars, .int .i64 (clauseB c).head, .slice gva (clauseB c).goals.length gvc] 32))
      rw [← hx2] at HZ8
      have HX8 := hid (blk_below HX7.out HAL.out)
      have HY8 := hid (blk_below HY7.out HAL.out)
      have HB8 := hid (HB7.out.trans (HAL.out.mono (by omega)))
      have HO8 := hid (HO7.out.below McR_lasts HAL.out)
      have HC8 := hid (SlR.keeps Ce.rep_lasts HC7.out (Keeps.of_below HAL.out))
      have HG8 := hid (SlR.keeps numR_lasts HG7.out (Keeps.of_below HAL.out))
      have hz8 := HAL.out.size
      rw [← hx2]
      generalize w7.alloc (.cells #[.slice cva (clauseB c).cells.length cvc, .int .i64 (clauseB c).vars, .int .i64 (clauseB c).head, .slice gva (clauseB c).goals.length gvc] 32) = W8 at *
      have hxg1 : x1 ≠ g := by have := HXE.out; omega
      have hxg2 : x2 ≠ g := by omega
      have hx2w : wr.heap.size ≤ x2 := by omega
      have hx1l : x1 < W8.heap.size := blk_lt HY8.out
      have hx2l : x2 < W8.heap.size := blk_lt HZ8.out
      have hx1w : wr.heap.size ≤ x1 := by rw [HXE.out]; exact Nat.le_refl _
      clear hx2
      have HOWN := hid (show ∀ b, ownB (.slice va j vc) = some b → W5.heap.size ≤ b ∧ b < wr.heap.size from HO.out.lt)
      have hon1 : ownB (.slice va j vc) ≠ some x1 := fun e => by have := (HOWN.out _ e).2; omega
      have hon2 : ownB (.slice va j vc) ≠ some x2 := fun e => by have := (HOWN.out _ e).2; omega
      have hong : ownB (.slice va j vc) ≠ some g := fun e => by have := (HOWN.out _ e).1; omega
      have hXd : W8.drew.heap[g]? = some (.cells #[.slice va j vc, .slice none 0 0, .slice none 0 0, .slice none 0 0, .slice none 0 0, .int .i64 0, .int .i64 (vn : Int), .int .i64 0, .int .i64 (fn : Int), .slice none 0 0] 107 (0, 0)) := HX8.out
      have hYd : W8.drew.heap[x1]? = some (.cells #[.int .i64 c.head.kind, .int .i64 c.head.n, .string c.head.s, .slice a c.head.args.length ac, .slice bd c.body.length bc, .int .i64 c.vars] 26 (0, 0)) := HY8.out
      have hZd : W8.drew.heap[x2]? = some (.cells #[.slice cva (clauseB c).cells.length cvc, .int .i64 (clauseB c).vars, .int .i64 (clauseB c).head, .slice gva (clauseB c).goals.length gvc] 32 (0, 0)) := HZ8.out
      have HBdr := hid (show Below W8.heap.size W8 W8.drew from (Below.refl _ _).drew)
      have HF : ∀ {k : Nat}, (k = 4 → W8.drew.heap[g]? = some (.cells #[.slice va j vc, .slice none 0 0, .slice none 0 0, .slice none 0 0, .slice none 0 0, .int .i64 0, .int .i64 (vn : Int), .int .i64 0, .int .i64 (fn : Int), .slice none 0 0] 107 (0, 0))) ∧ (k = 7 ∨ k = 10 → W8.drew.heap[x1]? = some (.cells #[.int .i64 c.head.kind, .int .i64 c.head.n, .string c.head.s, .slice a c.head.args.length ac, .slice bd c.body.length bc, .int .i64 c.vars] 26 (0, 0))) ∧ (k = 12 → W8.drew.heap[x2]? = some (.cells #[.slice cva (clauseB c).cells.length cvc, .int .i64 (clauseB c).vars, .int .i64 (clauseB c).head, .slice gva (clauseB c).goals.length gvc] 32 (0, 0))) := fun {k} => ⟨fun _ => hXd, fun _ => hYd, fun _ => hZd⟩
      refine wp_region_F (F := fun k w' => (k = 4 → w'.heap[g]? = some (.cells #[.slice va j vc, .slice none 0 0, .slice none 0 0, .slice none 0 0, .slice none 0 0, .int .i64 0, .int .i64 (vn : Int), .int .i64 0, .int .i64 (fn : Int), .slice none 0 0] 107 (0, 0))) ∧ (k = 7 ∨ k = 10 → w'.heap[x1]? = some (.cells #[.int .i64 c.head.kind, .int .i64 c.head.n, .string c.head.s, .slice a c.head.args.length ac, .slice bd c.body.length bc, .int .i64 c.vars] 26 (0, 0))) ∧ (k = 12 → w'.heap[x2]? = some (.cells #[.slice cva (clauseB c).cells.length cvc, .int .i64 (clauseB c).vars, .int .i64 (clauseB c).head, .slice gva (clauseB c).goals.length gvc] 32 (0, 0)))) (by kernel_rfl) ?_
      refine wpTk (i := 0) (v := ?_) rfl (Or.inl ⟨by rfl, ?_⟩) HF ?_
      rotate_left
      · (intro w' hw; clear hw; go_simp <;> with_reducible rfl)
      try simp only [Act.put, List.setIfInBounds_toArray, List.set_cons_zero, List.set_cons_succ]
      refine wpTk (i := 1) (v := ?_) rfl (Or.inl ⟨by rfl, ?_⟩) HF ?_
      rotate_left
      · (intro w' hw; clear hw; go_simp <;> with_reducible rfl)
      try simp only [Act.put, List.setIfInBounds_toArray, List.set_cons_zero, List.set_cons_succ]
      refine wpTk (i := 2) (v := ?_) rfl (Or.inl ⟨by rfl, ?_⟩) HF ?_
      rotate_left
      · (intro w' hw; clear hw; go_simp <;> with_reducible rfl)
      try simp only [Act.put, List.setIfInBounds_toArray, List.set_cons_zero, List.set_cons_succ]
      refine wpTk (i := 3) (v := ?_) rfl (Or.inl ⟨by rfl, ?_⟩) HF ?_
      rotate_left
      · (intro w' hw; clear hw; go_simp <;> with_reducible rfl)
      try simp only [Act.put, List.setIfInBounds_toArray, List.set_cons_zero, List.set_cons_succ]
      refine wpTk (i := 4) (v := ?_) rfl (Or.inl ⟨by rfl, ?_⟩) HF ?_
      rotate_left
      · (intro w' hw; obtain ⟨q0, q1, q2, q3, q4, q5, q6, q7, q8, q9, qf⟩ := box10 (hw.1 rfl); clear hw; go_simp <;> with_reducible rfl)
      try simp only [Act.put, List.setIfInBounds_toArray, List.set_cons_zero, List.set_cons_succ]
      refine wpTk (i := 5) (v := ?_) rfl (Or.inl ⟨by rfl, ?_⟩) HF ?_
      rotate_left
      · (intro w' hw; clear hw; go_simp <;> with_reducible rfl)
      try simp only [Act.put, List.setIfInBounds_toArray, List.set_cons_zero, List.set_cons_succ]
      refine wpTk (i := 6) (v := ?_) rfl (Or.inl ⟨by rfl, ?_⟩) HF ?_
      rotate_left
      · (intro w' hw; clear hw; go_simp <;> with_reducible rfl)
      try simp only [Act.put, List.setIfInBounds_toArray, List.set_cons_zero, List.set_cons_succ]
      refine wpTk (i := 7) (v := ?_) rfl (Or.inl ⟨by rfl, ?_⟩) HF ?_
      rotate_left
      · (intro w' hw; have q := blk_cell (hw.2.1 (.inl rfl)) 2; simp at q; clear hw; go_simp <;> with_reducible rfl)
      try simp only [Act.put, List.setIfInBounds_toArray, List.set_cons_zero, List.set_cons_succ]
      refine wpTk (i := 8) (v := ?_) rfl (Or.inl ⟨by rfl, ?_⟩) HF ?_
      rotate_left
      · (intro w' hw; clear hw; go_simp <;> with_reducible rfl)
      try simp only [Act.put, List.setIfInBounds_toArray, List.set_cons_zero, List.set_cons_succ]
      refine wpTk (i := 9) (v := ?_) rfl (Or.inl ⟨by rfl, ?_⟩) HF ?_
      rotate_left
      · (intro w' hw; clear hw; go_simp <;> with_reducible rfl)
      try simp only [Act.put, List.setIfInBounds_toArray, List.set_cons_zero, List.set_cons_succ]
      refine wpTk (i := 10) (v := ?_) rfl (Or.inl ⟨by rfl, ?_⟩) HF ?_
      rotate_left
      · (intro w' hw; have q := blk_cell (hw.2.1 (.inr rfl)) 3; simp at q; clear hw; go_simp <;> with_reducible rfl)
      try simp only [Act.put, List.setIfInBounds_toArray, List.set_cons_zero, List.set_cons_succ]
      refine wpTk (i := 11) (v := ?_) rfl (Or.inl ⟨by rfl, ?_⟩) HF ?_
      rotate_left
      · (intro w' hw; clear hw; go_simp <;> with_reducible rfl)
      try simp only [Act.put, List.setIfInBounds_toArray, List.set_cons_zero, List.set_cons_succ]
      refine wpTk (i := 12) (v := .agg #[.slice cva (clauseB c).cells.length cvc, .int .i64 (clauseB c).vars, .int .i64 (clauseB c).head, .slice gva (clauseB c).goals.length gvc]) rfl (Or.inl ⟨by rfl, ?_⟩) HF ?_
      · (intro w' hw; obtain ⟨q0, q1, q2, q3, qf⟩ := blk4 (hw.2.2 rfl); clear hw; go_simp)
      try simp only [Act.put, List.setIfInBounds_toArray, List.set_cons_zero, List.set_cons_succ]
      refine wpTk (i := 13) (v := .agg #[.string c.head.s, .int .i64 (c.head.args.length : Int), .slice cva (clauseB c).cells.length cvc, .int .i64 (clauseB c).vars, .int .i64 (clauseB c).head, .slice gva (clauseB c).goals.length gvc]) rfl (Or.inl ⟨by rfl, ?_⟩) HF ?_
      · (intro w' hw; clear hw; go_simp)
      try simp only [Act.put, List.setIfInBounds_toArray, List.set_cons_zero, List.set_cons_succ]
      refine wpAnyF_one (i := 14) (by kernel_rfl) (wpOp_run rfl (by rfl) ?_)
      go_simp
      have HA1 := hid (show Below W8.drew.heap.size W8.drew (W8.drew.alloc (.cells #[.string c.head.s, .int .i64 (c.head.args.length : Int), .slice cva (clauseB c).cells.length cvc, .int .i64 (clauseB c).vars, .int .i64 (clauseB c).head, .slice gva (clauseB c).goals.length gvc] 109)) from (Below.refl _ _).alloc (Nat.le_refl _) _)
      refine ⟨fun _ _ h => ⟨fun e => blk_below hXd HA1.out, fun e => blk_below hYd HA1.out, fun e => blk_below hZd HA1.out⟩, ?_⟩
      try simp only [Act.put, List.setIfInBounds_toArray, List.set_cons_zero, List.set_cons_succ]
      refine wpAnyF_one (i := 15) (by kernel_rfl) (wpOp_run rfl (by rfl) ?_)
      refine wp_app1 (.tmp 58) (.tmp 68) 103 rfl W5.heap.size 109 6 88 tyMc McR_lasts (A := fun b => W5.heap.size ≤ b) (.slice va j vc) (P.take j) rfl (HO8.out.below McR_lasts HBdr.out) c [.string c.head.s, .int .i64 (c.head.args.length : Int), .slice cva (clauseB c).cells.length cvc, .int .i64 (clauseB c).vars, .int .i64 (clauseB c).head, .slice gva (clauseB c).goals.length gvc] rfl rfl ⟨_, _, rfl, SlR.mono Ce.rep_lasts (by omega) (SlR.keeps Ce.rep_lasts HC8.out (Keeps.of_below HBdr.out)) (fun b _ hb => ⟨by unfold New at hb; omega, fun e => by have := (HOWN.out _ e).2; unfold New at hb; omega⟩), SlR.mono numR_lasts (by omega) (SlR.keeps numR_lasts HG8.out (Keeps.of_below HBdr.out)) (fun b _ hb => ⟨by unfold New at hb; omega, fun e => by have := (HOWN.out _ e).2; unfold New at hb; omega⟩)⟩ ⟨by rw [List.length_take]; omega, by show W5.heap.size ≤ W8.heap.size; omega⟩ ?_
      intro v2 w9 hown2 hgrew
      obtain ⟨va2, vc2, hv2, hvl2, hvm2⟩ := OwnR.val' hown2
      rw [show (P.take j ++ [c]).length = j + 1 by rw [List.length_append, List.length_take, List.length_singleton]; omega] at hv2
      subst hv2
      have HX9 := hid ((hgrew.grown.block g (by simp only [World.size_alloc, World.size_drew]; omega) (fun e => hong e.symm)).trans (blk_below hXd HA1.out))
      have HY9 := hid ((hgrew.grown.block x1 (by simp only [World.size_alloc, World.size_drew]; omega) (fun e => hon1 e.symm)).trans (blk_below hYd HA1.out))
      have HZ9 := hid ((hgrew.grown.block x2 (by simp only [World.size_alloc, World.size_drew]; omega) (fun e => hon2 e.symm)).trans (blk_below hZd HA1.out))
      have HB9 := hid (hgrew.below ((HB8.out.drew).alloc (by simp only [World.size_drew]; omega) _) (by simp only [World.size_alloc, World.size_drew]; omega) (fun k hk => by have := (HOWN.out k hk).1; omega))
      have hz9 := hgrew.size
      simp only [World.size_alloc, World.size_drew] at hz9
      have HO9 := hid hown2
      refine ⟨fun _ _ _ => ⟨fun e => HX9.out, fun e => HY9.out, fun e => HZ9.out⟩, ?_⟩
      try simp only [Act.put, List.setIfInBounds_toArray, List.set_cons_zero, List.set_cons_succ]
      clear HF hXd hYd hZd HA1 HX8 HY8 HZ8 hown2 hgrew
      obtain ⟨b0, b1, b2, b3, b4, b5, b6, b7, b8, b9, bf⟩ := box10 HX9.out
      have hg9 := blk_lt HX9.out
      refine wpTk (i := 16) (v := ?_) rfl (Or.inl ⟨by rfl, ?_⟩) ⟨fun h => by omega, fun h => by omega, fun h => by omega⟩ ?_
      rotate_left
      · (intro w' hw; clear hw; go_simp <;> with_reducible rfl)
      try simp only [Act.put, List.setIfInBounds_toArray, List.set_cons_zero, List.set_cons_succ]
      refine wpTk (i := 17) (v := ?_) rfl (Or.inl ⟨by rfl, ?_⟩) ⟨fun h => by omega, fun h => by omega, fun h => by omega⟩ ?_
      rotate_left
      · (intro w' hw; clear hw; go_simp <;> with_reducible rfl)
      try simp only [Act.put, List.setIfInBounds_toArray, List.set_cons_zero, List.set_cons_succ]
      refine wpAnyF_one (i := 18) (by kernel_rfl) (wpOp_run rfl (by rfl) ?_)
      go_simp
      refine ⟨fun k' hk' _ => ⟨fun h => ?_, fun h => ?_, fun h => ?_⟩, wpAnyF_done (by kernel_rfl) ?_ _⟩
      · subst h; exact absurd (hk'.symm.trans (by kernel_rfl) : false = true) Bool.false_ne_true
      · rcases h with h | h <;> subst h <;> exact absurd (hk'.symm.trans (by kernel_rfl) : false = true) Bool.false_ne_true
      · subst h; exact absurd (hk'.symm.trans (by kernel_rfl) : false = true) Bool.false_ne_true
      try simp only [Act.put, List.setIfInBounds_toArray, List.set_cons_zero, List.set_cons_succ]
      have HX10 := hid (show (w9.setCell ⟨g, 0, none⟩ (.slice va2 (j + 1) vc2)).heap[g]? = some (.cells #[.slice va2 (j + 1) vc2, .slice none 0 0, .slice none 0 0, .slice none 0 0, .slice none 0 0, .int .i64 0, .int .i64 (vn : Int), .int .i64 0, .int .i64 (fn : Int), .slice none 0 0] 107 (0, 0)) from (blk_set HX9.out 0 _).trans rfl)
      have HO10 := hid (HO9.out.keeps (B := fun b => b ≠ g) McR_lasts (Keeps.setCell _ w9 ⟨g, 0, none⟩ (.slice va2 (j + 1) vc2) (fun h => h rfl)) (fun b hb => by omega) (fun b hb => by have := (HO9.out.lt b hb).1; omega))
      have HB10 := hid (HB9.out.setCell (p := ⟨g, 0, none⟩) hgw (.slice va2 (j + 1) vc2))
      have hz10 : W5.heap.size ≤ (w9.setCell ⟨g, 0, none⟩ (.slice va2 (j + 1) vc2)).heap.size := by simp only [World.size_setCell]; omega
      clear b0 b1 b2 b3 b4 b5 b6 b7 b8 b9 bf
      generalize w9.setCell ⟨g, 0, none⟩ (.slice va2 (j + 1) vc2) = w10 at *
      go_wp2_with fail
      go_roundw
      case rel => exact ⟨j + 1, _, by omega, by go_num, HB10.out, hz10, HX10.out, by rw [HTK.out]; exact HO10.out⟩
      case measure => simp [intOf]; omega
    · have hje : (P.length : Int) ≤ (j : Int) := by omega
      have hjj : j = P.length := by omega
      have hob := HO.out
      rw [List.take_of_length_le (by omega)] at hob
      have HOP := hid hob
      have HXP := hid HX.out
      rw [hjj] at HXP HOP
      clear hob hjj HX HO
      have HQC := hid (HQY.out wr HB.out)
      rw [show queryF Q (vn : Int) = (queryB Q (vn : Int), 0) by rw [queryF, if_pos HIQ.out]] at HQC
      obtain ⟨f1, f2, f3⟩ := begin_facts HIQ.out
      have HF1 := hid f1
      have HF2 := hid f2
      have HF3 := hid f3
      clear f1 f2 f3
      go_wp2_with fail
      refine HQC.out.mono ?_
      rintro e w11 ⟨r, rfl, hb11, cv, gv, rfl, hcv, hgv⟩
      simp only at hcv hgv
      obtain ⟨cva, cvc, -, -, rfl, -⟩ := SlR.at hcv
      obtain ⟨gva, gvc, rfl, -⟩ := nums_val hgv
      obtain ⟨W12, hW12⟩ : ∃ W, W = w11.alloc (.cells #[.slice cva (queryB Q (vn : Int)).cells.length cvc, .int .i64 (queryB Q (vn : Int)).vars, .int .i64 (queryB Q (vn : Int)).head, .slice gva (queryB Q (vn : Int)).goals.length gvc] 32) := ⟨_, rfl⟩
      have hal : Below w11.heap.size w11 W12 := by rw [hW12]; exact (Below.refl _ _).alloc (Nat.le_refl _) _
      obtain ⟨x3, hx3⟩ : ∃ x, x = w11.heap.size := ⟨_, rfl⟩
      have hbw12 := hb11.trans (hal.mono hb11.size)
      have HZ12 := hid (show W12.heap[x3]? = some (.cells #[.slice cva (queryB Q (vn : Int)).cells.length cvc, .int .i64 (queryB Q (vn : Int)).vars, .int .i64 (queryB Q (vn : Int)).head, .slice gva (queryB Q (vn : Int)).goals.length gvc] 32 (0, 0)) by rw [hW12, hx3]; exact blk_new _ _)
      have HX12 := hid (blk_below HXP.out hbw12)
      have HO12 := hid (HOP.out.below McR_lasts hbw12)
      have HB12 := hid (HB.out.trans (hbw12.mono hzw))
      have HC12 := hid (SlR.keeps Ce.rep_lasts (SlR.mono (A' := fun b => W5.heap.size ≤ b) Ce.rep_lasts (by omega) hcv (fun b _ hb => by unfold New at hb; omega)) (Keeps.of_below hal))
      have HG12 := hid (SlR.keeps numR_lasts (SlR.mono (A' := fun b => W5.heap.size ≤ b) numR_lasts (by omega) hgv (fun b _ hb => by unfold New at hb; omega)) (Keeps.of_below hal))
      have hz12 : W5.heap.size ≤ W12.heap.size := by have := hbw12.size; omega
      have hx3g : x3 ≠ g := by have := hb11.size; omega
      have hx3w : W5.heap.size ≤ x3 := by have := hb11.size; omega
      have HW12 := hid hW12
      have HX3E := hid hx3
      clear hcv hgv hb11 hal hbw12 hW12 hx3
      go_wp2_with fail
      rw [← HX3E.out, ← HW12.out]
      have hx3l : x3 < W12.heap.size := blk_lt HZ12.out
      have hXd : W12.drew.heap[g]? = some (.cells #[.slice va P.length vc, .slice none 0 0, .slice none 0 0, .slice none 0 0, .slice none 0 0, .int .i64 0, .int .i64 (vn : Int), .int .i64 0, .int .i64 (fn : Int), .slice none 0 0] 107 (0, 0)) := HX12.out
      have hZd : W12.drew.heap[x3]? = some (.cells #[.slice cva (queryB Q (vn : Int)).cells.length cvc, .int .i64 (queryB Q (vn : Int)).vars, .int .i64 (queryB Q (vn : Int)).head, .slice gva (queryB Q (vn : Int)).goals.length gvc] 32 (0, 0)) := HZ12.out
      have HBdr := hid (show Below W12.heap.size W12 W12.drew from (Below.refl _ _).drew)
      have HF : ∀ {k : Nat}, (k = 5 → W12.drew.heap[g]? = some (.cells #[.slice va P.length vc, .slice none 0 0, .slice none 0 0, .slice none 0 0, .slice none 0 0, .int .i64 0, .int .i64 (vn : Int), .int .i64 0, .int .i64 (fn : Int), .slice none 0 0] 107 (0, 0))) ∧ (k = 7 → W12.drew.heap[x3]? = some (.cells #[.slice cva (queryB Q (vn : Int)).cells.length cvc, .int .i64 (queryB Q (vn : Int)).vars, .int .i64 (queryB Q (vn : Int)).head, .slice gva (queryB Q (vn : Int)).goals.length gvc] 32 (0, 0))) := fun {k} => ⟨fun _ => hXd, fun _ => hZd⟩
      refine wp_region_F (F := fun k w' => (k = 5 → w'.heap[g]? = some (.cells #[.slice va P.length vc, .slice none 0 0, .slice none 0 0, .slice none 0 0, .slice none 0 0, .int .i64 0, .int .i64 (vn : Int), .int .i64 0, .int .i64 (fn : Int), .slice none 0 0] 107 (0, 0))) ∧ (k = 7 → w'.heap[x3]? = some (.cells #[.slice cva (queryB Q (vn : Int)).cells.length cvc, .int .i64 (queryB Q (vn : Int)).vars, .int .i64 (queryB Q (vn : Int)).head, .slice gva (queryB Q (vn : Int)).goals.length gvc] 32 (0, 0)))) (by kernel_rfl) ?_
      refine wpTk (i := 0) (v := ?_) rfl (Or.inl ⟨by rfl, ?_⟩) HF ?_
      rotate_left
      · (intro w' hw; clear hw; go_simp <;> with_reducible rfl)
      try simp only [Act.put, List.setIfInBounds_toArray, List.set_cons_zero, List.set_cons_succ]
      refine wpTk (i := 1) (v := ?_) rfl (Or.inl ⟨by rfl, ?_⟩) HF ?_
      rotate_left
      · (intro w' hw; clear hw; go_simp <;> with_reducible rfl)
      try simp only [Act.put, List.setIfInBounds_toArray, List.set_cons_zero, List.set_cons_succ]
      refine wpTk (i := 2) (v := ?_) rfl (Or.inl ⟨by rfl, ?_⟩) HF ?_
      rotate_left
      · (intro w' hw; clear hw; go_simp <;> with_reducible rfl)
      try simp only [Act.put, List.setIfInBounds_toArray, List.set_cons_zero, List.set_cons_succ]
      refine wpTk (i := 3) (v := ?_) rfl (Or.inl ⟨by rfl, ?_⟩) HF ?_
      rotate_left
      · (intro w' hw; clear hw; go_simp <;> with_reducible rfl)
      try simp only [Act.put, List.setIfInBounds_toArray, List.set_cons_zero, List.set_cons_succ]
      refine wpTk (i := 4) (v := ?_) rfl (Or.inl ⟨by rfl, ?_⟩) HF ?_
      rotate_left
      · (intro w' hw; clear hw; go_simp <;> with_reducible rfl)
      try simp only [Act.put, List.setIfInBounds_toArray, List.set_cons_zero, List.set_cons_succ]
      refine wpTk (i := 5) (v := .agg #[.slice none 0 0, .slice none 0 0]) rfl (Or.inl ⟨by rfl, ?_⟩) HF ?_
      · (intro w' hw; obtain ⟨q0, q1, q2, q3, q4, q5, q6, q7, q8, q9, qf⟩ := box10 (hw.1 rfl); clear hw; go_simp)
      try simp only [Act.put, List.setIfInBounds_toArray, List.set_cons_zero, List.set_cons_succ]
      refine wpTk (i := 6) (v := ?_) rfl (Or.inl ⟨by rfl, ?_⟩) HF ?_
      rotate_left
      · (intro w' hw; clear hw; go_simp <;> with_reducible rfl)
      try simp only [Act.put, List.setIfInBounds_toArray, List.set_cons_zero, List.set_cons_succ]
      refine wpTk (i := 7) (v := ?_) rfl (Or.inl ⟨by rfl, ?_⟩) HF ?_
      rotate_left
      · (intro w' hw; obtain ⟨q0, q1, q2, q3, qf⟩ := blk4 (hw.2 rfl); clear hw; go_simp <;> with_reducible rfl)
      try simp only [Act.put, List.setIfInBounds_toArray, List.set_cons_zero, List.set_cons_succ]
      refine wpAnyF_one (i := 8) (by kernel_rfl) (wpOp_run rfl (by rfl) ?_)
      go_simp
      refine (load_ok ⟨[], []⟩ (queryB Q (vn : Int)).cells (fun b => W5.heap.size ≤ b) W12.drew [.slice none 0 0, .slice none 0 0] _ ⟨_, _, rfl, SlR.nil .., SlR.nil ..⟩ (SlR.keeps Ce.rep_lasts HC12.out (Keeps.of_below HBdr.out))).mono ?_
      rintro e w13 ⟨r, rfl, hb13, us, rfl, hus⟩
      obtain ⟨hca, hcc, hta, htc, rfl, -⟩ := Hp.rep2 hus
      have HX13 := hid (blk_below hXd hb13)
      have HZ13 := hid (blk_below hZd hb13)
      have HB1213 := hid (HBdr.out.trans hb13)
      have HH13 := hid (hus.mono (A' := fun b => W5.heap.size ≤ b) (fun b _ h => h.elim id (fun h => by unfold New at h; simp only [World.size_drew] at h; omega)))
      have hz13 := hb13.size
      simp only [World.size_drew] at hz13
      clear hb13 hus
      refine ⟨fun _ _ _ => ⟨fun e => HX13.out, fun e => HZ13.out⟩, ?_⟩
      try simp only [Act.put, List.setIfInBounds_toArray, List.set_cons_zero, List.set_cons_succ]
      clear HF hXd hZd
      have HF : ∀ {k : Nat}, (k = 5 → w13.heap[g]? = some (.cells #[.slice va P.length vc, .slice none 0 0, .slice none 0 0, .slice none 0 0, .slice none 0 0, .int .i64 0, .int .i64 (vn : Int), .int .i64 0, .int .i64 (fn : Int), .slice none 0 0] 107 (0, 0))) ∧ (k = 7 → w13.heap[x3]? = some (.cells #[.slice cva (queryB Q (vn : Int)).cells.length cvc, .int .i64 (queryB Q (vn : Int)).vars, .int .i64 (queryB Q (vn : Int)).head, .slice gva (queryB Q (vn : Int)).goals.length gvc] 32 (0, 0))) := fun {k} => ⟨fun _ => HX13.out, fun _ => HZ13.out⟩
      rw [HF1.out]
      refine wpTk (i := 9) (v := ?_) rfl (Or.inl ⟨by rfl, ?_⟩) HF ?_
      rotate_left
      · (intro w' hw; clear hw; go_simp <;> with_reducible rfl)
      try simp only [Act.put, List.setIfInBounds_toArray, List.set_cons_zero, List.set_cons_succ]
      refine wpTk (i := 10) (v := ?_) rfl (Or.inl ⟨by rfl, ?_⟩) HF ?_
      rotate_left
      · (intro w' hw; clear hw; go_simp <;> with_reducible rfl)
      try simp only [Act.put, List.setIfInBounds_toArray, List.set_cons_zero, List.set_cons_succ]
      refine wpTk (i := 11) (v := ?_) rfl (Or.inl ⟨by rfl, ?_⟩) HF ?_
      rotate_left
      · (intro w' hw; clear hw; go_simp <;> with_reducible rfl)
      try simp only [Act.put, List.setIfInBounds_toArray, List.set_cons_zero, List.set_cons_succ]
      refine wpTk (i := 12) (v := ?_) rfl (Or.inl ⟨by rfl, ?_⟩) HF ?_
      rotate_left
      · (intro w' hw; clear hw; go_simp <;> with_reducible rfl)
      try simp only [Act.put, List.setIfInBounds_toArray, List.set_cons_zero, List.set_cons_succ]
      refine wpTk (i := 13) (v := ?_) rfl (Or.inl ⟨by rfl, ?_⟩) HF ?_
      rotate_left
      · (intro w' hw; clear hw; go_simp <;> with_reducible rfl)
      try simp only [Act.put, List.setIfInBounds_toArray, List.set_cons_zero, List.set_cons_succ]
      refine wpTk (i := 14) (v := ?_) rfl (Or.inl ⟨by rfl, ?_⟩) HF ?_
      rotate_left
      · (intro w' hw; clear hw; go_simp <;> with_reducible rfl)
      try simp only [Act.put, List.setIfInBounds_toArray, List.set_cons_zero, List.set_cons_succ]
      obtain ⟨b0, b1, b2, b3, b4, b5, b6, b7, b8, b9, bf⟩ := box10 HX13.out
      have hgl13 := blk_lt HX13.out
      have hcs := cell_set
      refine wpAnyF_one (i := 15) (by kernel_rfl) (wpOp_run rfl (by rfl) ?_)
      go_simp
      refine ⟨fun k' hk' _ => ⟨fun h => ?_, fun h => ?_⟩, ?_⟩
      · subst h; exact absurd (hk'.symm.trans (by kernel_rfl) : false = true) Bool.false_ne_true
      · subst h; exact absurd (hk'.symm.trans (by kernel_rfl) : false = true) Bool.false_ne_true
      try simp only [Act.put, List.setIfInBounds_toArray, List.set_cons_zero, List.set_cons_succ]
      refine wpTk (i := 16) (v := ?_) rfl (Or.inl ⟨by rfl, ?_⟩) ⟨fun h => by omega, fun h => by omega⟩ ?_
      rotate_left
      · (intro w' hw; clear hw; go_simp <;> with_reducible rfl)
      try simp only [Act.put, List.setIfInBounds_toArray, List.set_cons_zero, List.set_cons_succ]
      refine wpTk (i := 17) (v := ?_) rfl (Or.inl ⟨by rfl, ?_⟩) ⟨fun h => by omega, fun h => by omega⟩ ?_
      rotate_left
      · (intro w' hw; clear hw; go_simp <;> with_reducible rfl)
      try simp only [Act.put, List.setIfInBounds_toArray, List.set_cons_zero, List.set_cons_succ]
      refine wpAnyF_one (i := 18) (by kernel_rfl) (wpOp_run rfl (by rfl) ?_)
      go_simp
      refine ⟨fun k' hk' _ => ⟨fun h => ?_, fun h => ?_⟩, wpAnyF_done (by kernel_rfl) ?_ _⟩
      · subst h; exact absurd (hk'.symm.trans (by kernel_rfl) : false = true) Bool.false_ne_true
      · subst h; exact absurd (hk'.symm.trans (by kernel_rfl) : false = true) Bool.false_ne_true
      try simp only [Act.put, List.setIfInBounds_toArray, List.set_cons_zero, List.set_cons_succ]
      go_wp2_with fail
      obtain ⟨L, hL⟩ : ∃ L, L = loadF ⟨[], []⟩ (queryB Q (vn : Int)).cells := ⟨_, rfl⟩
      have HL := hid hL
      rw [← hL] at HH13
      rw [← hL]
      clear hL hcs b0 b1 b2 b3 b4 b5 b6 b7 b8 b9 bf HF
      obtain ⟨W14, hW14⟩ : ∃ W, W = (((w13.setCell ⟨g, 1, none⟩ (.slice hca L.1.cells.length hcc)).setCell ⟨g, 2, none⟩ (.slice hta L.1.trail.length htc)).setCell ⟨g, 7, none⟩ (.int .i64 0)) := ⟨_, rfl⟩
      rw [← hW14]
      have hX14 : W14.heap[g]? = some (.cells #[.slice va P.length vc, .slice hca L.1.cells.length hcc, .slice hta L.1.trail.length htc, .slice none 0 0, .slice none 0 0, .int .i64 0, .int .i64 (vn : Int), .int .i64 0, .int .i64 (fn : Int), .slice none 0 0] 107 (0, 0)) := by rw [hW14]; exact (blk_set ((blk_set ((blk_set HX13.out 1 _).trans rfl) 2 _).trans rfl) 7 _).trans rfl
      have hK14 : Keeps (fun b => b ≠ g) w13 W14 := by
        rw [hW14]
        exact ((Keeps.setCell _ w13 ⟨g, 1, none⟩ _ (fun h => h rfl)).trans (Keeps.setCell _ _ ⟨g, 2, none⟩ _ (fun h => h rfl))).trans (Keeps.setCell _ _ ⟨g, 7, none⟩ _ (fun h => h rfl))
      have HB14 := hid (show Below w.heap.size w W14 by rw [hW14]; exact (((HB12.out.trans (HB1213.out.mono HB12.out.size)).setCell hgw _).setCell hgw _).setCell hgw _)
      have hs14 : W14.heap.size = w13.heap.size := by rw [hW14]; simp
      have HZ14 := hid (show W14.heap[x3]? = some _ from blk_keeps HZ13.out hK14 hx3g)
      have HO13 := HO12.out.below McR_lasts HB1213.out
      have HO14 := hid (HO13.keeps McR_lasts hK14 (fun b hb => by omega) (fun b hb => by have := (HO13.lt b hb).1; omega))
      have HH14 := hid (HH13.out.keeps (hK14.mono (fun b _ hb => by omega)))
      have HG14 := hid (SlR.keeps numR_lasts (SlR.keeps numR_lasts HG12.out (Keeps.of_below HB1213.out)) (hK14.mono (fun b _ hb => by omega)))
      have HX14 := hid hX14
      clear hX14 hK14 hW14 HO13
      have hg14 : g < W14.heap.size := by omega
      have HVs := hid (show MvI W14.heap.size P vn g (.slice va P.length vc) (.slice hca L.1.cells.length hcc) (.slice hta L.1.trail.length htc) ⟨.slice none 0 0, .slice none 0 0, .slice none 0 0⟩ ⟨L.1, [], [], 0, 0, fn, []⟩ W14 from
        { box := HX14.out
          prog := SlR.mono McR_lasts (by omega) (OwnR.sl McR_lasts HO14.out (by omega) (fun b hb => hb)) (fun b hb h => ⟨hb, by omega⟩)
          heap := HH14.out.mono (fun b _ hb hm => by rcases hm with hm | hm | hm | hm <;> first | omega | simp [ownB] at hm)
          goals := OwnF.nil
          chc := OwnF.nil
          out := OwnR.nil ..
          bg := ⟨hg14, Nat.le_refl _⟩
          nowb := by unfold I64; simp only; omega
          qb := by unfold I64; simp only; omega
          fu := by show fn ≤ 150; omega
          qq := by omega
          gl := by simp
          cl := by simp
          ol := by simp })
      have HPU := hid (fun (W : World) (hb : Below W14.heap.size W14 W) => mpush_ok (base := W14.heap.size) (P := P) (q := vn) (g := g) (.slice cva (queryB Q (vn : Int)).cells.length cvc) (.slice gva (queryB Q (vn : Int)).goals.length gvc) (queryB Q (vn : Int)).vars (queryB Q (vn : Int)).head (queryB Q (vn : Int)).goals 0 0 (-1)
        (SlR.keeps numR_lasts (SlR.mono (A' := fun b => b < W14.heap.size ∧ b ≠ g) numR_lasts (by omega) HG14.out (fun b hb h => ⟨hb, by omega⟩)) (Keeps.of_below hb |>.mono (fun b _ h => h.1))) HF3.out (by omega) (by omega) (by omega) (by unfold I64; omega) (by have := HF2.out; simp only [List.length_nil]; omega) (HVs.out.below hb))
      have hXd : W14.drew.heap[g]? = some (.cells #[.slice va P.length vc, .slice hca L.1.cells.length hcc, .slice hta L.1.trail.length htc, .slice none 0 0, .slice none 0 0, .int .i64 0, .int .i64 (vn : Int), .int .i64 0, .int .i64 (fn : Int), .slice none 0 0] 107 (0, 0)) := HX14.out
      have hZd : W14.drew.heap[x3]? = some (.cells #[.slice cva (queryB Q (vn : Int)).cells.length cvc, .int .i64 (queryB Q (vn : Int)).vars, .int .i64 (queryB Q (vn : Int)).head, .slice gva (queryB Q (vn : Int)).goals.length gvc] 32 (0, 0)) := HZ14.out
      have hx3l4 : x3 < W14.drew.heap.size := blk_lt hZd
      have HF : ∀ {k : Nat}, (k = 6 → W14.drew.heap[g]? = some (.cells #[.slice va P.length vc, .slice hca L.1.cells.length hcc, .slice hta L.1.trail.length htc, .slice none 0 0, .slice none 0 0, .int .i64 0, .int .i64 (vn : Int), .int .i64 0, .int .i64 (fn : Int), .slice none 0 0] 107 (0, 0))) ∧ (k = 2 → W14.drew.heap[x3]? = some (.cells #[.slice cva (queryB Q (vn : Int)).cells.length cvc, .int .i64 (queryB Q (vn : Int)).vars, .int .i64 (queryB Q (vn : Int)).head, .slice gva (queryB Q (vn : Int)).goals.length gvc] 32 (0, 0))) := fun {k} => ⟨fun _ => hXd, fun _ => hZd⟩
      refine wp_region_F (F := fun k w' => (k = 6 → w'.heap[g]? = some (.cells #[.slice va P.length vc, .slice hca L.1.cells.length hcc, .slice hta L.1.trail.length htc, .slice none 0 0, .slice none 0 0, .int .i64 0, .int .i64 (vn : Int), .int .i64 0, .int .i64 (fn : Int), .slice none 0 0] 107 (0, 0))) ∧ (k = 2 → w'.heap[x3]? = some (.cells #[.slice cva (queryB Q (vn : Int)).cells.length cvc, .int .i64 (queryB Q (vn : Int)).vars, .int .i64 (queryB Q (vn : Int)).head, .slice gva (queryB Q (vn : Int)).goals.length gvc] 32 (0, 0)))) (by kernel_rfl) ?_
      refine wpTk (i := 0) (v := ?_) rfl (Or.inl ⟨by rfl, ?_⟩) HF ?_
      rotate_left
      · (intro w' hw; clear hw; go_simp <;> with_reducible rfl)
      try simp only [Act.put, List.setIfInBounds_toArray, List.set_cons_zero, List.set_cons_succ]
      refine wpTk (i := 1) (v := ?_) rfl (Or.inl ⟨by rfl, ?_⟩) HF ?_
      rotate_left
      · (intro w' hw; clear hw; go_simp <;> with_reducible rfl)
      try simp only [Act.put, List.setIfInBounds_toArray, List.set_cons_zero, List.set_cons_succ]
      refine wpTk (i := 2) (v := .agg #[.slice cva (queryB Q (vn : Int)).cells.length cvc, .int .i64 (queryB Q (vn : Int)).vars, .int .i64 (queryB Q (vn : Int)).head, .slice gva (queryB Q (vn : Int)).goals.length gvc]) rfl (Or.inl ⟨by rfl, ?_⟩) HF ?_
      · (intro w' hw; obtain ⟨q0, q1, q2, q3, qf⟩ := blk4 (hw.2 rfl); clear hw; go_simp)
      try simp only [Act.put, List.setIfInBounds_toArray, List.set_cons_zero, List.set_cons_succ]
      refine wpTk (i := 3) (v := ?_) rfl (Or.inl ⟨by rfl, ?_⟩) HF ?_
      rotate_left
      · (intro w' hw; clear hw; go_simp <;> with_reducible rfl)
      try simp only [Act.put, List.setIfInBounds_toArray, List.set_cons_zero, List.set_cons_succ]
      refine wpTk (i := 4) (v := ?_) rfl (Or.inl ⟨by rfl, ?_⟩) HF ?_
      rotate_left
      · (intro w' hw; clear hw; go_simp <;> with_reducible rfl)
      try simp only [Act.put, List.setIfInBounds_toArray, List.set_cons_zero, List.set_cons_succ]
      refine wpTk (i := 5) (v := ?_) rfl (Or.inl ⟨by rfl, ?_⟩) HF ?_
      rotate_left
      · (intro w' hw; clear hw; go_simp <;> with_reducible rfl)
      try simp only [Act.put, List.setIfInBounds_toArray, List.set_cons_zero, List.set_cons_succ]
      refine wpTk (i := 6) (v := ?_) rfl (Or.inl ⟨by rfl, ?_⟩) HF ?_
      rotate_left
      · (intro w' hw; obtain ⟨q0, q1, q2, q3, q4, q5, q6, q7, q8, q9, qf⟩ := box10 (hw.1 rfl); clear hw; go_simp <;> with_reducible rfl)
      try simp only [Act.put, List.setIfInBounds_toArray, List.set_cons_zero, List.set_cons_succ]
      refine wpAnyF_one (i := 7) (by kernel_rfl) (wpOp_run rfl (by rfl) ?_)
      go_simp
      refine (HPU.out W14.drew ((Below.refl _ _).drew)).mono ?_
      rintro e w15 ⟨rfl, hc15, ht15, o15, hmv15, hch15, hgr15⟩
      have HV15 := hid hmv15
      have HM15 := hid hch15
      have HR15 := hid hgr15
      clear hmv15 hch15 hgr15
      refine ⟨fun k' hk' _ => ⟨fun h => ?_, fun h => ?_⟩, ?_⟩
      · subst h; exact absurd (hk'.symm.trans (by kernel_rfl) : false = true) Bool.false_ne_true
      · subst h; exact absurd (hk'.symm.trans (by kernel_rfl) : false = true) Bool.false_ne_true
      try simp only [Act.put, List.setIfInBounds_toArray, List.set_cons_zero, List.set_cons_succ]
      clear HF hXd hZd
      obtain ⟨b0, b1, b2, b3, b4, b5, b6, b7, b8, b9, bf⟩ := box10 HV15.out.box
      have hgl15 := HV15.out.lt.1
      refine wpTk (i := 8) (v := ?_) rfl (Or.inl ⟨by rfl, ?_⟩) ⟨fun h => by omega, fun h => by omega⟩ ?_
      rotate_left
      · (intro w' hw; clear hw; go_simp <;> with_reducible rfl)
      try simp only [Act.put, List.setIfInBounds_toArray, List.set_cons_zero, List.set_cons_succ]
      refine wpTk (i := 9) (v := ?_) rfl (Or.inl ⟨by rfl, ?_⟩) ⟨fun h => by omega, fun h => by omega⟩ ?_
      rotate_left
      · (intro w' hw; clear hw; go_simp <;> with_reducible rfl)
      try simp only [Act.put, List.setIfInBounds_toArray, List.set_cons_zero, List.set_cons_succ]
      refine wpAnyF_one (i := 10) (by kernel_rfl) (wpOp_run rfl (by rfl) ?_)
      go_simp
      refine ⟨fun k' hk' _ => ⟨fun h => ?_, fun h => ?_⟩, wpAnyF_done (by kernel_rfl) ?_ _⟩
      · subst h; exact absurd (hk'.symm.trans (by kernel_rfl) : false = true) Bool.false_ne_true
      · subst h; exact absurd (hk'.symm.trans (by kernel_rfl) : false = true) Bool.false_ne_true
      try simp only [Act.put, List.setIfInBounds_toArray, List.set_cons_zero, List.set_cons_succ]
      clear b0 b1 b2 b3 b4 b5 b6 b7 b8 b9 bf
      -- the machine as it begins
      have hbm : beginM Q (vn : Int) fn = ⟨L.1, (pushM 0 0 (queryB Q (vn : Int)).goals [] (-1)).1, [], (pushM 0 0 (queryB Q (vn : Int)).goals [] (-1)).2, 0, fn, []⟩ := by
        have := HF1.out
        rw [← HL.out] at this
        unfold beginM
        simp only [← HL.out, this]
      have hnow : I64 (pushM 0 0 (queryB Q (vn : Int)).goals [] (-1)).2 := by
        have h1 := HBS.out.sim.gcnt
        obtain ⟨φ, -, -, h2⟩ := HBS.out.sim.cur
        have h3 := h2.ge
        rw [hbm] at h1 h3
        simp only at h1 h3
        unfold I64
        omega
      obtain ⟨hc16, ht16, o16, hmv16, hch16, hgr16⟩ := HV15.out.setI (m' := ⟨L.1, (pushM 0 0 (queryB Q (vn : Int)).goals [] (-1)).1, [], (pushM 0 0 (queryB Q (vn : Int)).goals [] (-1)).2, 0, fn, []⟩) 5 (.int .i64 (pushM 0 0 (queryB Q (vn : Int)).goals [] (-1)).2) ⟨rfl, rfl, rfl, rfl⟩ ((blk_set HV15.out.box 5 _).trans rfl) hnow HV15.out.qb HV15.out.fu
      rw [← hbm] at hmv16
      have HV16 := hid hmv16
      have HB15 := hid (mv_below (HVs.out.below ((Below.refl _ _).drew)) HB14.out.drew HM15.out hgw (by have := HB14.out.size; omega))
      have HB16 := hid (mv_below HV15.out HB15.out hch16 hgw (by have := HB14.out.size; omega))
      clear hmv16 hch16 hgr16 hnow hbm
      generalize w15.setCell ⟨g, 5, none⟩ (.int .i64 (pushM 0 0 (queryB Q (vn : Int)).goals [] (-1)).2) = W16 at *
      obtain ⟨base, hbase⟩ : ∃ base, base = W14.heap.size := ⟨_, rfl⟩
      have hbw : w.heap.size ≤ base := by rw [hbase]; exact HB14.out.size
      rw [← hbase] at HV16
      obtain ⟨R, hR⟩ : ∃ R, R = runM P vn (fn : Int) every (fn + 14) (beginM Q (vn : Int) fn) := ⟨_, rfl⟩
      have HR := hid (show machF P Q (vn : Int) (fn : Int) every = (R.out, 0) by rw [hR]; exact HS.out)
      have HRA := hid (show RunAt P vn (fn : Int) every R (beginM Q (vn : Int) fn) from ⟨fn + 14, _, _, HBS.out, Int.le_refl _, by simp, by simp, hR.symm⟩)
      generalize beginM Q (vn : Int) fn = m0 at *
      clear hR hbase HVs HV15 HM15 HR15 HB15 HPU HG14 HZ14 HX14 HO14 HH14 HB14
      go_wp2_with fail
      go_loopw [19] (fun on wr => ∃ (m : Mv) (hc ht : Value) (o : Mo), MvI base P vn g (.slice va P.length vc) hc ht o m wr ∧ Below w.heap.size w wr ∧ ((on = .bool false ∧ m = R) ∨ (on = .bool true ∧ RunAt P vn (fn : Int) every R m))) (fun on wr => onMuM on g wr)
      case atStart => exact ⟨m0, _, _, _, HV16.out, HB16.out, .inr ⟨rfl, HRA.out⟩⟩
      case round =>
        obtain ⟨m, hc, ht, o, hmv, hbl, hst⟩ := hrel
        have HV := hid hmv
        have HBL := hid hbl
        have hmu := hid (mvMu_of hmv)
        have HMB := hid (fun (w' : World) (hch : Ch (MM g o) wr w') => mv_below hmv hbl hch hgw hbw)
        obtain ⟨gv, cv, ov⟩ := o
        obtain ⟨-, -, ga, gc, ca, cc, oa, oc, ha, hac, hb, hbc, -, rfl, rfl, rfl, rfl, rfl, -, -, -, -, -, -, o1, o2⟩ := hmv.vals
        obtain ⟨b0, b1, b2, b3, b4, b5, b6, b7, b8, b9, bf⟩ := box10 hmv.box
        simp only at b9
        have hglr := hmv.lt.1
        have hfu := hmv.fu
        unfold maxLen at o2
        clear hmv hbl
        rcases hst with ⟨rfl, hmR⟩ | ⟨rfl, hra⟩
        · subst hmR
          go_wp2_with fail
          go_ret2
          rw [HR.out]
          exact ⟨_, rfl, HBL.out, (HV.out.out.mono (A' := fun _ => True) evR_lasts fun _ _ _ => trivial).sl evR_lasts (show m.out.length ≤ 1048576 by have := HV.out.ol; omega) (fun _ _ => trivial)⟩
        · have HRN := hid hra
          obtain ⟨k1, k2, k3, k4, k5, k6⟩ := hra.few
          clear hra
          by_cases hnow : m.now < 0
          · have HAN := hid (manswer_ok HV.out HIP.out k5 k6 k1 k2 k3)
            obtain ⟨r1, r2⟩ := HRN.out.answer HIP.out hnow
            have HR1 := hid r1
            have HR2 := hid r2
            clear k1 k2 k3 k4 k5 k6 r1 r2
            go_wp2_with fail
            refine HAN.out.mono ?_
            rintro e w9 ⟨rfl, hc9, ht9, o9, hmv9, hch9, hgr9⟩
            have HV9 := hid hmv9
            have HB9 := hid (HMB.out w9 hch9)
            clear hmv9 hch9 hgr9 HAN
            generalize answerM P vn m = r9 at *
            obtain ⟨rr, m9⟩ := r9
            have hmu9 : mvMu g w9 = muM m9 := mvMu_of HV9.out
            cases rr with
            | next =>
              obtain ⟨q1, q2⟩ := HR1.out m9 rfl
              have HQ1 := hid q1
              have HQ2 := hid q2
              clear q1 q2
              simp only [resB]
              go_wp2_with fail
              go_roundw
              case rel => exact ⟨m9, _, _, _, HV9.out, HB9.out, .inr ⟨rfl, HQ1.out⟩⟩
              case measure => have h1 := HQ2.out; have h2 := hmu.out; simp only [onMuM]; rw [h2, hmu9]; omega
            | no =>
              have hm9 := HR2.out _ m9 rfl (by simp)
              simp only [resB]
              go_wp2_with fail
              go_roundw
              case rel => exact ⟨m9, _, _, _, HV9.out, HB9.out, .inl ⟨rfl, hm9⟩⟩
              case measure => simp [onMuM]
            | off =>
              have hm9 := HR2.out _ m9 rfl (by simp)
              simp only [resB]
              go_wp2_with fail
              go_roundw
              case rel => exact ⟨m9, _, _, _, HV9.out, HB9.out, .inl ⟨rfl, hm9⟩⟩
              case measure => simp [onMuM]
          · have hnow' : 0 ≤ m.now := by omega
            have hfu0 : (0 : Int) ≤ (m.fuel : Int) := Int.natCast_nonneg _
            have hwr : IntKind.i64.wrap ((fn : Int) - (m.fuel : Int)) = (fn : Int) - (m.fuel : Int) := IntWalk.i64_in _ (by omega)
            have hst := hid (HRN.out.step HIP.out hnow)
            have HCO := hid (mcollect_ok HV.out k4)
            clear k1 k2 k3 k4 k5 k6
            have HCM := hid (show colM vn (fn : Int) every m = if every > 0 ∧ ((fn : Int) - m.fuel) % every = 0 then collectM vn m else m from rfl)
            by_cases hev : 0 < every
            · by_cases htm : Int.tmod ((fn : Int) - (m.fuel : Int)) every = 0
              · have HEQ := hid (HCM.out.trans (if_pos ⟨hev, Int.emod_eq_zero_of_dvd (Int.dvd_of_tmod_eq_zero htm)⟩))
                go_wp2_with fail
                refine HCO.out.mono ?_
                rintro e w8 ⟨⟨r8, rfl⟩, hc8, ht8, o8, hmv8, hch8, hgr8⟩
                have HVs := hid hmv8
                have HBs := hid (HMB.out w8 hch8)
                clear hmv8 hch8 hgr8 HCO b0 b1 b2 b3 b4 b5 b6 b7 b8 b9 bf
                have hgl8 := HVs.out.lt.1
                have hst2 := hst.out
                rw [HEQ.out] at hst2
                obtain ⟨s1, s2, s3, s4, s5, s6⟩ := hst2
                have HSP := hid (mstep_ok HVs.out HIP.out s1 s2 s3 s4)
                have HR1 := hid s5
                have HR2 := hid s6
                clear s1 s2 s3 s4 s5 s6 hst
                go_wp2_with fail
                refine HSP.out.mono ?_
                rintro e w9 ⟨rfl, hc9, ht9, o9, hmv9, hch9, hgr9⟩
                have HV9 := hid hmv9
                have HB9 := hid (mv_below HVs.out HBs.out hch9 hgw hbw)
                clear hmv9 hch9 hgr9 HSP
                generalize stepM P (collectM vn m) = r9 at *
                obtain ⟨rr, m9⟩ := r9
                have hmu9 : mvMu g w9 = muM m9 := mvMu_of HV9.out
                cases rr with
                | next =>
                  obtain ⟨q1, q2⟩ := HR1.out m9 rfl
                  have HQ1 := hid q1
                  have HQ2 := hid q2
                  clear q1 q2
                  simp only [resB]
                  go_wp2_with fail
                  go_roundw
                  case rel => exact ⟨m9, _, _, _, HV9.out, HB9.out, .inr ⟨rfl, HQ1.out⟩⟩
                  case measure => have h1 := HQ2.out; have h2 := hmu.out; simp only [onMuM]; rw [h2, hmu9]; omega
                | no =>
                  have hm9 := HR2.out _ m9 rfl (by simp)
                  simp only [resB]
                  go_wp2_with fail
                  go_roundw
                  case rel => exact ⟨m9, _, _, _, HV9.out, HB9.out, .inl ⟨rfl, hm9⟩⟩
                  case measure => simp [onMuM]
                | off =>
                  have hm9 := HR2.out _ m9 rfl (by simp)
                  simp only [resB]
                  go_wp2_with fail
                  go_roundw
                  case rel => exact ⟨m9, _, _, _, HV9.out, HB9.out, .inl ⟨rfl, hm9⟩⟩
                  case measure => simp [onMuM]
              · have HEQ := hid (HCM.out.trans (if_neg (fun h => htm (Int.tmod_eq_zero_of_dvd (Int.dvd_of_emod_eq_zero h.2)))))
                have HVs := hid HV.out
                have HBs := hid HBL.out
                have hst2 := hst.out
                rw [HEQ.out] at hst2
                obtain ⟨s1, s2, s3, s4, s5, s6⟩ := hst2
                have HSP := hid (mstep_ok HVs.out HIP.out s1 s2 s3 s4)
                have HR1 := hid s5
                have HR2 := hid s6
                clear s1 s2 s3 s4 s5 s6 hst HCO
                go_wp2_with fail
                refine HSP.out.mono ?_
                rintro e w9 ⟨rfl, hc9, ht9, o9, hmv9, hch9, hgr9⟩
                have HV9 := hid hmv9
                have HB9 := hid (mv_below HVs.out HBs.out hch9 hgw hbw)
                clear hmv9 hch9 hgr9 HSP
                generalize stepM P m = r9 at *
                obtain ⟨rr, m9⟩ := r9
                have hmu9 : mvMu g w9 = muM m9 := mvMu_of HV9.out
                cases rr with
                | next =>
                  obtain ⟨q1, q2⟩ := HR1.out m9 rfl
                  have HQ1 := hid q1
                  have HQ2 := hid q2
                  clear q1 q2
                  simp only [resB]
                  go_wp2_with fail
                  go_roundw
                  case rel => exact ⟨m9, _, _, _, HV9.out, HB9.out, .inr ⟨rfl, HQ1.out⟩⟩
                  case measure => have h1 := HQ2.out; have h2 := hmu.out; simp only [onMuM]; rw [h2, hmu9]; omega
                | no =>
                  have hm9 := HR2.out _ m9 rfl (by simp)
                  simp only [resB]
                  go_wp2_with fail
                  go_roundw
                  case rel => exact ⟨m9, _, _, _, HV9.out, HB9.out, .inl ⟨rfl, hm9⟩⟩
                  case measure => simp [onMuM]
                | off =>
                  have hm9 := HR2.out _ m9 rfl (by simp)
                  simp only [resB]
                  go_wp2_with fail
                  go_roundw
                  case rel => exact ⟨m9, _, _, _, HV9.out, HB9.out, .inl ⟨rfl, hm9⟩⟩
                  case measure => simp [onMuM]
            · have HEQ := hid (HCM.out.trans (if_neg (fun h => hev h.1)))
              have HVs := hid HV.out
              have HBs := hid HBL.out
              have hst2 := hst.out
              rw [HEQ.out] at hst2
              obtain ⟨s1, s2, s3, s4, s5, s6⟩ := hst2
              have HSP := hid (mstep_ok HVs.out HIP.out s1 s2 s3 s4)
              have HR1 := hid s5
              have HR2 := hid s6
              clear s1 s2 s3 s4 s5 s6 hst HCO
              go_wp2_with fail
              refine HSP.out.mono ?_
              rintro e w9 ⟨rfl, hc9, ht9, o9, hmv9, hch9, hgr9⟩
              have HV9 := hid hmv9
              have HB9 := hid (mv_below HVs.out HBs.out hch9 hgw hbw)
              clear hmv9 hch9 hgr9 HSP
              generalize stepM P m = r9 at *
              obtain ⟨rr, m9⟩ := r9
              have hmu9 : mvMu g w9 = muM m9 := mvMu_of HV9.out
              cases rr with
              | next =>
                obtain ⟨q1, q2⟩ := HR1.out m9 rfl
                have HQ1 := hid q1
                have HQ2 := hid q2
                clear q1 q2
                simp only [resB]
                go_wp2_with fail
                go_roundw
                case rel => exact ⟨m9, _, _, _, HV9.out, HB9.out, .inr ⟨rfl, HQ1.out⟩⟩
                case measure => have h1 := HQ2.out; have h2 := hmu.out; simp only [onMuM]; rw [h2, hmu9]; omega
              | no =>
                have hm9 := HR2.out _ m9 rfl (by simp)
                simp only [resB]
                go_wp2_with fail
                go_roundw
                case rel => exact ⟨m9, _, _, _, HV9.out, HB9.out, .inl ⟨rfl, hm9⟩⟩
                case measure => simp [onMuM]
              | off =>
                have hm9 := HR2.out _ m9 rfl (by simp)
                simp only [resB]
                go_wp2_with fail
                go_roundw
                case rel => exact ⟨m9, _, _, _, HV9.out, HB9.out, .inl ⟨rfl, hm9⟩⟩
                case measure => simp [onMuM]
theorem mall_ok (hnp : clsNodes P ≤ 1099511627776) (hnq : Tm.nodesL Q ≤ 1099511627776) (hv : I64 vars) (hf : I64 fuel) (hei : I64 every) (w : World) (pv qv : Value) (hpv : ClsR (fun b => b < w.heap.size) w P pv) (hqv : TmsR (fun b => b < w.heap.size) w Q qv) :
    Calls Try.prog 26 #[pv, qv, .int .i64 vars, .int .i64 fuel, .int .i64 every] w (MAllPost w (machF P Q vars fuel every)) := by
  rcases machF_cases P Q vars fuel every with ⟨h, _⟩ | ⟨_, h, _⟩ | ⟨⟨h1, h2⟩, h3, h4, h5, _⟩
  · exact mall_bad (.inl h) hnp hnq hv hf w pv qv hpv hqv
  · exact mall_bad (.inr h) hnp hnq hv hf w pv qv hpv hqv
  · exact mall_good h1 h2 h3 h4 h5 hei hnp hnq w pv qv hpv hqv
end
end Go.Proofs.Ytlpmfkpefoegeab
