/-
  The walk of queristkeep.CodeTerms.
-/
import Derived.Test.YtlpmfkpefoegeabQCodes
import Derived.Test.YtlpmfkpefoegeabHCode3
import Derived.Test.YtlpmfkpefoegeabQTermH
import Derived.Test.YtlpmfkpefoegeabQTidy
import Derived.Test.YtlpmfkpefoegeabQSameKL
import Derived.Test.YtlpmfkpefoegeabQLoad
namespace Go.Proofs.Ytlpmfkpefoegeab
set_option linter.unusedVariables false
set_option linter.unusedSimpArgs false
open Go.RowKit

/-- a block just made, of one element: the call's own -/
theorem own_one {α : Type} {R : (Nat → Prop) → World → α → List Value → Prop} (hR : Lasts R) {A : Nat → Prop} {w : World} {x : α} {us : List Value} {size : Nat} {E : TypeId} (hx : R (fun b => A b ∧ b ≠ w.heap.size) w x us) (hl : us.length = size) (hs : us.flatMap (fun u => [u]) = us) :
    OwnR (w.alloc (.cells us.toArray E)) w.heap.size E size R A [x] (.slice (some ⟨w.heap.size, 0, none⟩) 1 1) := by
  refine ⟨[us], rfl, ⟨by simp [hl], .inr ⟨w.heap.size, 1, us.toArray, rfl, by omega, Nat.le_refl _, heap_alloc_new _ _, by simp, by simp [maxLen], by simp [hl], by simp [← hl]⟩⟩, fun i y vs hy hv => ?_⟩
  cases i with
  | zero =>
    simp only [List.getElem?_cons_zero, Option.some.injEq] at hy hv
    subst hy hv
    exact ⟨hl, hR.1 _ _ _ _ _ (hR.2.1 _ _ _ _ _ hx (fun b hb hb2 => ⟨hb2.1, by simp [ownB]; exact fun e => hb2.2 e.symm⟩)) (Keeps.alloc _ _ _)⟩
  | succ i => simp at hy

theorem cl_head {w : World} {c : Cl} {ha ba : Option Addr} {hac bac : Nat} (h : Cl.rep (fun _ => True) w c [.int .i64 c.head.kind, .int .i64 c.head.n, .string c.head.s, .slice ha c.head.args.length hac, .slice ba c.body.length bac, .int .i64 c.vars]) :
    Tm.rep (fun b => True ∧ b ≠ w.heap.size) w c.head [.int .i64 c.head.kind, .int .i64 c.head.n, .string c.head.s, .slice ha c.head.args.length hac] := by
  obtain ⟨_, _, _, _, e, k1, -⟩ := h
  simp only [List.cons.injEq, Value.slice.injEq, and_true, true_and] at e
  obtain ⟨⟨rfl, rfl⟩, -⟩ := e
  exact Tm.rep_lasts.2.1 _ _ _ _ _ k1 (fun b hb _ => ⟨trivial, by omega⟩)
theorem cl_body {w : World} {c : Cl} {ha ba : Option Addr} {hac bac : Nat} (h : Cl.rep (fun _ => True) w c [.int .i64 c.head.kind, .int .i64 c.head.n, .string c.head.s, .slice ha c.head.args.length hac, .slice ba c.body.length bac, .int .i64 c.vars]) :
    TmsR (fun b => True ∧ b ≠ w.heap.size) w c.body (.slice ba c.body.length bac) := by
  obtain ⟨_, _, _, _, e, -, k1, -⟩ := h
  simp only [List.cons.injEq, Value.slice.injEq, and_true, true_and] at e
  obtain ⟨-, rfl, rfl⟩ := e
  exact SlR.mono Tm.rep_lasts (by omega) k1 (fun b hb _ => ⟨trivial, by omega⟩)

set_option maxRecDepth 100000 in
set_option maxHeartbeats 8000000 in
theorem codeTerms_walk (c : Cl) (h : Hp) (hnd : c.nodes ≤ 1048576) (w : World) (cs vs : List Value) (hc : Cl.rep (fun _ => True) w c cs) (hh : Hp.rep (fun _ => True) w h vs) :
    Calls Try.prog 3 #[.agg cs.toArray, .agg vs.toArray] w (Pure w (fun r _ => r = .bool true)) := by
  obtain ⟨va, cap, vb, tap, rfl, hc1, hc2, hc3, ht1, ht2, ht3, -⟩ := Hp.rep2 hh
  have hc0 := hc
  obtain ⟨ha, hac, ba, bac, rfl, -, hbd, hcv⟩ := hc0
  obtain ⟨_, _, -, -, -, -, -, hbl, -⟩ := hbd.at
  have HCL := hid (fun (W : World) (us : List Value) (k : Cl.rep (fun b => b < W.heap.size) W c us) => clause_ok c (by omega) W us k)
  clear hbd
  have HC := hid (hc)
  have HH := hid (hh)
  clear hc hh
  go_enter Try.func3, Try.ntmps3
  go_wp2_with fail
  have h2 := heap2 w (.cells #[.int .i64 c.head.kind, .int .i64 c.head.n, .string c.head.s, .slice ha c.head.args.length hac, .slice ba c.body.length bac, .int .i64 c.vars] 26) (.cells #[.slice va h.cells.length cap, .slice vb h.trail.length tap] 30)
  have HXn1 := hid h2.1
  have HXn2 := hid h2.2
  have HCa := hid (Cl.rep_lasts.1 _ _ _ _ _ HC.out ((Keeps.alloc _ _ (.cells #[.int .i64 c.head.kind, .int .i64 c.head.n, .string c.head.s, .slice ha c.head.args.length hac, .slice ba c.body.length bac, .int .i64 c.vars] 26)).trans (Keeps.alloc _ _ (.cells #[.slice va h.cells.length cap, .slice vb h.trail.length tap] 30))))
  have HHa := hid (Hp.rep.keeps HH.out ((Keeps.alloc _ _ (.cells #[.int .i64 c.head.kind, .int .i64 c.head.n, .string c.head.s, .slice ha c.head.args.length hac, .slice ba c.body.length bac, .int .i64 c.vars] 26)).trans (Keeps.alloc _ _ (.cells #[.slice va h.cells.length cap, .slice vb h.trail.length tap] 30))))
  have HBa2 := hid (((Below.refl _ w).alloc (Nat.le_refl _) (.cells #[.int .i64 c.head.kind, .int .i64 c.head.n, .string c.head.s, .slice ha c.head.args.length hac, .slice ba c.body.length bac, .int .i64 c.vars] 26)).alloc (by simp) (.cells #[.slice va h.cells.length cap, .slice vb h.trail.length tap] 30))
  clear h2
  have hsz2 : w.heap.size + 1 < ((w.alloc (.cells #[.int .i64 c.head.kind, .int .i64 c.head.n, .string c.head.s, .slice ha c.head.args.length hac, .slice ba c.body.length bac, .int .i64 c.vars] 26)).alloc (.cells #[.slice va h.cells.length cap, .slice vb h.trail.length tap] 30)).heap.size := by simp
  generalize (w.alloc (.cells #[.int .i64 c.head.kind, .int .i64 c.head.n, .string c.head.s, .slice ha c.head.args.length hac, .slice ba c.body.length bac, .int .i64 c.vars] 26)).alloc (.cells #[.slice va h.cells.length cap, .slice vb h.trail.length tap] 30) = w2 at HXn1 HXn2 HCa HHa HBa2 hsz2 ⊢
  obtain ⟨x0a, x0b, x0c, x0d, x0e, x0f, x0z⟩ := blk6 HXn1.out
  have hz0 := blk_lt HXn1.out
  obtain ⟨x1a, x1b, x1z⟩ := box2 HXn2.out
  have hz1 := blk_lt HXn2.out
  by_cases hg : c.Good
  case neg =>
    rw [show clauseF c = (bk0, 1) by rw [clauseF, if_neg hg]] at HCL
    generalize bk0 = bk at HCL
    obtain ⟨F, bv, bh, gs⟩ := bk
    clear hg
    refine (HCL.out _ [_, _, _, _, _, _] (Cl.rep_lasts.2.1 _ _ _ _ _ HCa.out (fun b hb _ => hb))).mono ?_
    rintro e w3 ⟨v, rfl, hb3, cv, gv, rfl, hcc, hgg⟩
    obtain ⟨ka, kc, -, -, rfl, -, -, hFl, -⟩ := SlR.at hcc
    obtain ⟨qa, qc, -, -, rfl, -, -, hgl, -⟩ := SlR.at hgg
    simp only at hFl hgl hcc hgg
    clear x0a x0b x0c x0d x0e x0f x0z hz0 x1a x1b x1z hz1
    have HXn1c3 := hid (blk_below HXn1.out hb3)
    have HXn2c3 := hid (blk_below HXn2.out hb3)
    have HCac3 := hid (Cl.rep_lasts.1 _ _ _ _ _ HCa.out (Keeps.of_below hb3))
    have HHac3 := hid (Hp.rep.keeps HHa.out (Keeps.of_below hb3))
    have HBc3 := hid (HBa2.out.trans (hb3.mono HBa2.out.size))
    have hzz3 := hb3.size
    clear hb3
    obtain ⟨x0a, x0b, x0c, x0d, x0e, x0f, x0z⟩ := blk6 HXn1c3.out
    have hz0 := blk_lt HXn1c3.out
    obtain ⟨x1a, x1b, x1z⟩ := box2 HXn2c3.out
    have hz1 := blk_lt HXn2c3.out
    have HF := hid (show CesR (fun _ => True) _ F (.slice ka F.length kc) from SlR.mono Ce.rep_lasts (by omega) hcc (fun _ _ _ => trivial))
    have HGS := hid (show NumsR (fun _ => True) _ gs (.slice qa gs.length qc) from SlR.mono numR_lasts (by omega) hgg (fun _ _ _ => trivial))
    clear hcc hgg
    go_wp2_with fail
    clear x0a x0b x0c x0d x0e x0f x0z hz0 x1a x1b x1z hz1
    have HXn1c3a4 := hid (blk_alloc HXn1c3.out (.cells #[.slice ka F.length kc, .int .i64 bv, .int .i64 bh, .slice qa gs.length qc] 32))
    have HXn2c3a4 := hid (blk_alloc HXn2c3.out (.cells #[.slice ka F.length kc, .int .i64 bv, .int .i64 bh, .slice qa gs.length qc] 32))
    have HCac3a4 := hid (Cl.rep_lasts.1 _ _ _ _ _ HCac3.out (Keeps.alloc _ _ (.cells #[.slice ka F.length kc, .int .i64 bv, .int .i64 bh, .slice qa gs.length qc] 32)))
    have HHac3a4 := hid (Hp.rep.keeps HHac3.out (Keeps.alloc _ _ (.cells #[.slice ka F.length kc, .int .i64 bv, .int .i64 bh, .slice qa gs.length qc] 32)))
    have HFa4 := hid (SlR.keeps Ce.rep_lasts HF.out (Keeps.alloc _ _ (.cells #[.slice ka F.length kc, .int .i64 bv, .int .i64 bh, .slice qa gs.length qc] 32)))
    have HGSa4 := hid (SlR.keeps numR_lasts HGS.out (Keeps.alloc _ _ (.cells #[.slice ka F.length kc, .int .i64 bv, .int .i64 bh, .slice qa gs.length qc] 32)))
    have HXn4 := hid (blk_new w3 (.cells #[.slice ka F.length kc, .int .i64 bv, .int .i64 bh, .slice qa gs.length qc] 32))
    have HBa4 := hid (HBc3.out.alloc HBc3.out.size (.cells #[.slice ka F.length kc, .int .i64 bv, .int .i64 bh, .slice qa gs.length qc] 32))
    have hsz4 : w3.heap.size < (w3.alloc (.cells #[.slice ka F.length kc, .int .i64 bv, .int .i64 bh, .slice qa gs.length qc] 32)).heap.size := by simp
    generalize w3.alloc (.cells #[.slice ka F.length kc, .int .i64 bv, .int .i64 bh, .slice qa gs.length qc] 32) = w4 at HXn1c3a4 HXn2c3a4 HXn4 HCac3a4 HHac3a4 HFa4 HGSa4 HBa4 hsz4 ⊢
    obtain ⟨x0a, x0b, x0c, x0d, x0e, x0f, x0z⟩ := blk6 HXn1c3a4.out
    have hz0 := blk_lt HXn1c3a4.out
    obtain ⟨x1a, x1b, x1z⟩ := box2 HXn2c3a4.out
    have hz1 := blk_lt HXn2c3a4.out
    obtain ⟨x2a, x2b, x2c, x2d, x2z⟩ := blk4 HXn4.out
    have hz2 := blk_lt HXn4.out
    go_wp2_with fail
    refine (codesK_ok _).mono ?_
    rintro e w5 ⟨v, rfl, hb5, rfl⟩
    clear x0a x0b x0c x0d x0e x0f x0z hz0 x1a x1b x1z hz1 x2a x2b x2c x2d x2z hz2
    have HXn1c3a4c5 := hid (blk_below HXn1c3a4.out hb5)
    have HXn2c3a4c5 := hid (blk_below HXn2c3a4.out hb5)
    have HXn4c5 := hid (blk_below HXn4.out hb5)
    have HCac3a4c5 := hid (Cl.rep_lasts.1 _ _ _ _ _ HCac3a4.out (Keeps.of_below hb5))
    have HHac3a4c5 := hid (Hp.rep.keeps HHac3a4.out (Keeps.of_below hb5))
    have HFa4c5 := hid (SlR.keeps Ce.rep_lasts HFa4.out (Keeps.of_below hb5))
    have HGSa4c5 := hid (SlR.keeps numR_lasts HGSa4.out (Keeps.of_below hb5))
    have HBc5 := hid (HBa4.out.trans (hb5.mono HBa4.out.size))
    have hzz5 := hb5.size
    clear hb5
    obtain ⟨x0a, x0b, x0c, x0d, x0e, x0f, x0z⟩ := blk6 HXn1c3a4c5.out
    have hz0 := blk_lt HXn1c3a4c5.out
    obtain ⟨x1a, x1b, x1z⟩ := box2 HXn2c3a4c5.out
    have hz1 := blk_lt HXn2c3a4c5.out
    obtain ⟨x2a, x2b, x2c, x2d, x2z⟩ := blk4 HXn4c5.out
    have hz2 := blk_lt HXn4c5.out
    go_wp2_with fail
    go_ret
    exact ⟨_, rfl, HBc5.out, rfl⟩
  case pos =>
    rw [show clauseF c = (clauseB c, 0) by rw [clauseF, if_pos hg]] at HCL
    by_cases hhg : h.Good
    case neg =>
      have HHG := hid hhg
      generalize clauseB c = bk at HCL
      obtain ⟨F, bv, bh, gs⟩ := bk
      clear hg hhg
      refine (HCL.out _ [_, _, _, _, _, _] (Cl.rep_lasts.2.1 _ _ _ _ _ HCa.out (fun b hb _ => hb))).mono ?_
      rintro e w3 ⟨v, rfl, hb3, cv, gv, rfl, hcc, hgg⟩
      obtain ⟨ka, kc, -, -, rfl, -, -, hFl, -⟩ := SlR.at hcc
      obtain ⟨qa, qc, -, -, rfl, -, -, hgl, -⟩ := SlR.at hgg
      simp only at hFl hgl hcc hgg
      clear x0a x0b x0c x0d x0e x0f x0z hz0 x1a x1b x1z hz1
      have HXn1c3 := hid (blk_below HXn1.out hb3)
      have HXn2c3 := hid (blk_below HXn2.out hb3)
      have HCac3 := hid (Cl.rep_lasts.1 _ _ _ _ _ HCa.out (Keeps.of_below hb3))
      have HHac3 := hid (Hp.rep.keeps HHa.out (Keeps.of_below hb3))
      have HBc3 := hid (HBa2.out.trans (hb3.mono HBa2.out.size))
      have hzz3 := hb3.size
      clear hb3
      obtain ⟨x0a, x0b, x0c, x0d, x0e, x0f, x0z⟩ := blk6 HXn1c3.out
      have hz0 := blk_lt HXn1c3.out
      obtain ⟨x1a, x1b, x1z⟩ := box2 HXn2c3.out
      have hz1 := blk_lt HXn2c3.out
      have HF := hid (show CesR (fun _ => True) _ F (.slice ka F.length kc) from SlR.mono Ce.rep_lasts (by omega) hcc (fun _ _ _ => trivial))
      have HGS := hid (show NumsR (fun _ => True) _ gs (.slice qa gs.length qc) from SlR.mono numR_lasts (by omega) hgg (fun _ _ _ => trivial))
      clear hcc hgg
      go_wp2_with fail
      clear x0a x0b x0c x0d x0e x0f x0z hz0 x1a x1b x1z hz1
      have HXn1c3a4 := hid (blk_alloc HXn1c3.out (.cells #[.slice ka F.length kc, .int .i64 bv, .int .i64 bh, .slice qa gs.length qc] 32))
      have HXn2c3a4 := hid (blk_alloc HXn2c3.out (.cells #[.slice ka F.length kc, .int .i64 bv, .int .i64 bh, .slice qa gs.length qc] 32))
      have HCac3a4 := hid (Cl.rep_lasts.1 _ _ _ _ _ HCac3.out (Keeps.alloc _ _ (.cells #[.slice ka F.length kc, .int .i64 bv, .int .i64 bh, .slice qa gs.length qc] 32)))
      have HHac3a4 := hid (Hp.rep.keeps HHac3.out (Keeps.alloc _ _ (.cells #[.slice ka F.length kc, .int .i64 bv, .int .i64 bh, .slice qa gs.length qc] 32)))
      have HFa4 := hid (SlR.keeps Ce.rep_lasts HF.out (Keeps.alloc _ _ (.cells #[.slice ka F.length kc, .int .i64 bv, .int .i64 bh, .slice qa gs.length qc] 32)))
      have HGSa4 := hid (SlR.keeps numR_lasts HGS.out (Keeps.alloc _ _ (.cells #[.slice ka F.length kc, .int .i64 bv, .int .i64 bh, .slice qa gs.length qc] 32)))
      have HXn4 := hid (blk_new w3 (.cells #[.slice ka F.length kc, .int .i64 bv, .int .i64 bh, .slice qa gs.length qc] 32))
      have HBa4 := hid (HBc3.out.alloc HBc3.out.size (.cells #[.slice ka F.length kc, .int .i64 bv, .int .i64 bh, .slice qa gs.length qc] 32))
      have hsz4 : w3.heap.size < (w3.alloc (.cells #[.slice ka F.length kc, .int .i64 bv, .int .i64 bh, .slice qa gs.length qc] 32)).heap.size := by simp
      generalize w3.alloc (.cells #[.slice ka F.length kc, .int .i64 bv, .int .i64 bh, .slice qa gs.length qc] 32) = w4 at HXn1c3a4 HXn2c3a4 HXn4 HCac3a4 HHac3a4 HFa4 HGSa4 HBa4 hsz4 ⊢
      obtain ⟨x0a, x0b, x0c, x0d, x0e, x0f, x0z⟩ := blk6 HXn1c3a4.out
      have hz0 := blk_lt HXn1c3a4.out
      obtain ⟨x1a, x1b, x1z⟩ := box2 HXn2c3a4.out
      have hz1 := blk_lt HXn2c3a4.out
      obtain ⟨x2a, x2b, x2c, x2d, x2z⟩ := blk4 HXn4.out
      have hz2 := blk_lt HXn4.out
      go_wp2_with fail
      refine (codesK_ok _).mono ?_
      rintro e w5 ⟨v, rfl, hb5, rfl⟩
      clear x0a x0b x0c x0d x0e x0f x0z hz0 x1a x1b x1z hz1 x2a x2b x2c x2d x2z hz2
      have HXn1c3a4c5 := hid (blk_below HXn1c3a4.out hb5)
      have HXn2c3a4c5 := hid (blk_below HXn2c3a4.out hb5)
      have HXn4c5 := hid (blk_below HXn4.out hb5)
      have HCac3a4c5 := hid (Cl.rep_lasts.1 _ _ _ _ _ HCac3a4.out (Keeps.of_below hb5))
      have HHac3a4c5 := hid (Hp.rep.keeps HHac3a4.out (Keeps.of_below hb5))
      have HFa4c5 := hid (SlR.keeps Ce.rep_lasts HFa4.out (Keeps.of_below hb5))
      have HGSa4c5 := hid (SlR.keeps numR_lasts HGSa4.out (Keeps.of_below hb5))
      have HBc5 := hid (HBa4.out.trans (hb5.mono HBa4.out.size))
      have hzz5 := hb5.size
      clear hb5
      obtain ⟨x0a, x0b, x0c, x0d, x0e, x0f, x0z⟩ := blk6 HXn1c3a4c5.out
      have hz0 := blk_lt HXn1c3a4c5.out
      obtain ⟨x1a, x1b, x1z⟩ := box2 HXn2c3a4c5.out
      have hz1 := blk_lt HXn2c3a4c5.out
      obtain ⟨x2a, x2b, x2c, x2d, x2z⟩ := blk4 HXn4c5.out
      have hz2 := blk_lt HXn4c5.out
      go_wp2_with fail
      refine (good_ok h (fun _ => True) _ [_, _] HHac3a4c5.out).mono ?_
      rintro e w6 ⟨v, rfl, hb6, b, rfl, ht⟩
      obtain rfl : b = false := (by cases b with | false => rfl | true => exact absurd (ht.1 rfl) HHG.out)
      clear ht
      clear x0a x0b x0c x0d x0e x0f x0z hz0 x1a x1b x1z hz1 x2a x2b x2c x2d x2z hz2
      have HXn1c3a4c5c6 := hid (blk_below HXn1c3a4c5.out hb6)
      have HXn2c3a4c5c6 := hid (blk_below HXn2c3a4c5.out hb6)
      have HXn4c5c6 := hid (blk_below HXn4c5.out hb6)
      have HCac3a4c5c6 := hid (Cl.rep_lasts.1 _ _ _ _ _ HCac3a4c5.out (Keeps.of_below hb6))
      have HHac3a4c5c6 := hid (Hp.rep.keeps HHac3a4c5.out (Keeps.of_below hb6))
      have HFa4c5c6 := hid (SlR.keeps Ce.rep_lasts HFa4c5.out (Keeps.of_below hb6))
      have HGSa4c5c6 := hid (SlR.keeps numR_lasts HGSa4c5.out (Keeps.of_below hb6))
      have HBc6 := hid (HBc5.out.trans (hb6.mono HBc5.out.size))
      have hzz6 := hb6.size
      clear hb6
      obtain ⟨x0a, x0b, x0c, x0d, x0e, x0f, x0z⟩ := blk6 HXn1c3a4c5c6.out
      have hz0 := blk_lt HXn1c3a4c5c6.out
      obtain ⟨x1a, x1b, x1z⟩ := box2 HXn2c3a4c5c6.out
      have hz1 := blk_lt HXn2c3a4c5c6.out
      obtain ⟨x2a, x2b, x2c, x2d, x2z⟩ := blk4 HXn4c5c6.out
      have hz2 := blk_lt HXn4c5c6.out
      go_wp2_with fail
      refine (codesK_ok _).mono ?_
      rintro e w7 ⟨v, rfl, hb7, rfl⟩
      clear x0a x0b x0c x0d x0e x0f x0z hz0 x1a x1b x1z hz1 x2a x2b x2c x2d x2z hz2
      have HXn1c3a4c5c6c7 := hid (blk_below HXn1c3a4c5c6.out hb7)
      have HXn2c3a4c5c6c7 := hid (blk_below HXn2c3a4c5c6.out hb7)
      have HXn4c5c6c7 := hid (blk_below HXn4c5c6.out hb7)
      have HCac3a4c5c6c7 := hid (Cl.rep_lasts.1 _ _ _ _ _ HCac3a4c5c6.out (Keeps.of_below hb7))
      have HHac3a4c5c6c7 := hid (Hp.rep.keeps HHac3a4c5c6.out (Keeps.of_below hb7))
      have HFa4c5c6c7 := hid (SlR.keeps Ce.rep_lasts HFa4c5c6.out (Keeps.of_below hb7))
      have HGSa4c5c6c7 := hid (SlR.keeps numR_lasts HGSa4c5c6.out (Keeps.of_below hb7))
      have HBc7 := hid (HBc6.out.trans (hb7.mono HBc6.out.size))
      have hzz7 := hb7.size
      clear hb7
      obtain ⟨x0a, x0b, x0c, x0d, x0e, x0f, x0z⟩ := blk6 HXn1c3a4c5c6c7.out
      have hz0 := blk_lt HXn1c3a4c5c6c7.out
      obtain ⟨x1a, x1b, x1z⟩ := box2 HXn2c3a4c5c6c7.out
      have hz1 := blk_lt HXn2c3a4c5c6c7.out
      obtain ⟨x2a, x2b, x2c, x2d, x2z⟩ := blk4 HXn4c5c6c7.out
      have hz2 := blk_lt HXn4c5c6c7.out
      go_wp2_with fail
      go_ret
      exact ⟨_, rfl, HBc7.out, rfl⟩
    case pos =>
      by_cases hl : h.cells.length ≤ 1000
      case neg =>
        have HHG := hid hhg
        have hl' : (1000 : Int) < (h.cells.length : Int) := by omega
        generalize clauseB c = bk at HCL
        obtain ⟨F, bv, bh, gs⟩ := bk
        clear hg hhg
        refine (HCL.out _ [_, _, _, _, _, _] (Cl.rep_lasts.2.1 _ _ _ _ _ HCa.out (fun b hb _ => hb))).mono ?_
        rintro e w3 ⟨v, rfl, hb3, cv, gv, rfl, hcc, hgg⟩
        obtain ⟨ka, kc, -, -, rfl, -, -, hFl, -⟩ := SlR.at hcc
        obtain ⟨qa, qc, -, -, rfl, -, -, hgl, -⟩ := SlR.at hgg
        simp only at hFl hgl hcc hgg
        clear x0a x0b x0c x0d x0e x0f x0z hz0 x1a x1b x1z hz1
        have HXn1c3 := hid (blk_below HXn1.out hb3)
        have HXn2c3 := hid (blk_below HXn2.out hb3)
        have HCac3 := hid (Cl.rep_lasts.1 _ _ _ _ _ HCa.out (Keeps.of_below hb3))
        have HHac3 := hid (Hp.rep.keeps HHa.out (Keeps.of_below hb3))
        have HBc3 := hid (HBa2.out.trans (hb3.mono HBa2.out.size))
        have hzz3 := hb3.size
        clear hb3
        obtain ⟨x0a, x0b, x0c, x0d, x0e, x0f, x0z⟩ := blk6 HXn1c3.out
        have hz0 := blk_lt HXn1c3.out
        obtain ⟨x1a, x1b, x1z⟩ := box2 HXn2c3.out
        have hz1 := blk_lt HXn2c3.out
        have HF := hid (show CesR (fun _ => True) _ F (.slice ka F.length kc) from SlR.mono Ce.rep_lasts (by omega) hcc (fun _ _ _ => trivial))
        have HGS := hid (show NumsR (fun _ => True) _ gs (.slice qa gs.length qc) from SlR.mono numR_lasts (by omega) hgg (fun _ _ _ => trivial))
        clear hcc hgg
        go_wp2_with fail
        clear x0a x0b x0c x0d x0e x0f x0z hz0 x1a x1b x1z hz1
        have HXn1c3a4 := hid (blk_alloc HXn1c3.out (.cells #[.slice ka F.length kc, .int .i64 bv, .int .i64 bh, .slice qa gs.length qc] 32))
        have HXn2c3a4 := hid (blk_alloc HXn2c3.out (.cells #[.slice ka F.length kc, .int .i64 bv, .int .i64 bh, .slice qa gs.length qc] 32))
        have HCac3a4 := hid (Cl.rep_lasts.1 _ _ _ _ _ HCac3.out (Keeps.alloc _ _ (.cells #[.slice ka F.length kc, .int .i64 bv, .int .i64 bh, .slice qa gs.length qc] 32)))
        have HHac3a4 := hid (Hp.rep.keeps HHac3.out (Keeps.alloc _ _ (.cells #[.slice ka F.length kc, .int .i64 bv, .int .i64 bh, .slice qa gs.length qc] 32)))
        have HFa4 := hid (SlR.keeps Ce.rep_lasts HF.out (Keeps.alloc _ _ (.cells #[.slice ka F.length kc, .int .i64 bv, .int .i64 bh, .slice qa gs.length qc] 32)))
        have HGSa4 := hid (SlR.keeps numR_lasts HGS.out (Keeps.alloc _ _ (.cells #[.slice ka F.length kc, .int .i64 bv, .int .i64 bh, .slice qa gs.length qc] 32)))
        have HXn4 := hid (blk_new w3 (.cells #[.slice ka F.length kc, .int .i64 bv, .int .i64 bh, .slice qa gs.length qc] 32))
        have HBa4 := hid (HBc3.out.alloc HBc3.out.size (.cells #[.slice ka F.length kc, .int .i64 bv, .int .i64 bh, .slice qa gs.length qc] 32))
        have hsz4 : w3.heap.size < (w3.alloc (.cells #[.slice ka F.length kc, .int .i64 bv, .int .i64 bh, .slice qa gs.length qc] 32)).heap.size := by simp
        generalize w3.alloc (.cells #[.slice ka F.length kc, .int .i64 bv, .int .i64 bh, .slice qa gs.length qc] 32) = w4 at HXn1c3a4 HXn2c3a4 HXn4 HCac3a4 HHac3a4 HFa4 HGSa4 HBa4 hsz4 ⊢
        obtain ⟨x0a, x0b, x0c, x0d, x0e, x0f, x0z⟩ := blk6 HXn1c3a4.out
        have hz0 := blk_lt HXn1c3a4.out
        obtain ⟨x1a, x1b, x1z⟩ := box2 HXn2c3a4.out
        have hz1 := blk_lt HXn2c3a4.out
        obtain ⟨x2a, x2b, x2c, x2d, x2z⟩ := blk4 HXn4.out
        have hz2 := blk_lt HXn4.out
        go_wp2_with fail
        refine (codesK_ok _).mono ?_
        rintro e w5 ⟨v, rfl, hb5, rfl⟩
        clear x0a x0b x0c x0d x0e x0f x0z hz0 x1a x1b x1z hz1 x2a x2b x2c x2d x2z hz2
        have HXn1c3a4c5 := hid (blk_below HXn1c3a4.out hb5)
        have HXn2c3a4c5 := hid (blk_below HXn2c3a4.out hb5)
        have HXn4c5 := hid (blk_below HXn4.out hb5)
        have HCac3a4c5 := hid (Cl.rep_lasts.1 _ _ _ _ _ HCac3a4.out (Keeps.of_below hb5))
        have HHac3a4c5 := hid (Hp.rep.keeps HHac3a4.out (Keeps.of_below hb5))
        have HFa4c5 := hid (SlR.keeps Ce.rep_lasts HFa4.out (Keeps.of_below hb5))
        have HGSa4c5 := hid (SlR.keeps numR_lasts HGSa4.out (Keeps.of_below hb5))
        have HBc5 := hid (HBa4.out.trans (hb5.mono HBa4.out.size))
        have hzz5 := hb5.size
        clear hb5
        obtain ⟨x0a, x0b, x0c, x0d, x0e, x0f, x0z⟩ := blk6 HXn1c3a4c5.out
        have hz0 := blk_lt HXn1c3a4c5.out
        obtain ⟨x1a, x1b, x1z⟩ := box2 HXn2c3a4c5.out
        have hz1 := blk_lt HXn2c3a4c5.out
        obtain ⟨x2a, x2b, x2c, x2d, x2z⟩ := blk4 HXn4c5.out
        have hz2 := blk_lt HXn4c5.out
        go_wp2_with fail
        refine (good_ok h (fun _ => True) _ [_, _] HHac3a4c5.out).mono ?_
        rintro e w6 ⟨v, rfl, hb6, b, rfl, ht⟩
        obtain rfl : b = true := ht.2 HHG.out
        clear ht
        clear x0a x0b x0c x0d x0e x0f x0z hz0 x1a x1b x1z hz1 x2a x2b x2c x2d x2z hz2
        have HXn1c3a4c5c6 := hid (blk_below HXn1c3a4c5.out hb6)
        have HXn2c3a4c5c6 := hid (blk_below HXn2c3a4c5.out hb6)
        have HXn4c5c6 := hid (blk_below HXn4c5.out hb6)
        have HCac3a4c5c6 := hid (Cl.rep_lasts.1 _ _ _ _ _ HCac3a4c5.out (Keeps.of_below hb6))
        have HHac3a4c5c6 := hid (Hp.rep.keeps HHac3a4c5.out (Keeps.of_below hb6))
        have HFa4c5c6 := hid (SlR.keeps Ce.rep_lasts HFa4c5.out (Keeps.of_below hb6))
        have HGSa4c5c6 := hid (SlR.keeps numR_lasts HGSa4c5.out (Keeps.of_below hb6))
        have HBc6 := hid (HBc5.out.trans (hb6.mono HBc5.out.size))
        have hzz6 := hb6.size
        clear hb6
        obtain ⟨x0a, x0b, x0c, x0d, x0e, x0f, x0z⟩ := blk6 HXn1c3a4c5c6.out
        have hz0 := blk_lt HXn1c3a4c5c6.out
        obtain ⟨x1a, x1b, x1z⟩ := box2 HXn2c3a4c5c6.out
        have hz1 := blk_lt HXn2c3a4c5c6.out
        obtain ⟨x2a, x2b, x2c, x2d, x2z⟩ := blk4 HXn4c5c6.out
        have hz2 := blk_lt HXn4c5c6.out
        go_wp2_with fail
        refine (codesK_ok _).mono ?_
        rintro e w7 ⟨v, rfl, hb7, rfl⟩
        clear x0a x0b x0c x0d x0e x0f x0z hz0 x1a x1b x1z hz1 x2a x2b x2c x2d x2z hz2
        have HXn1c3a4c5c6c7 := hid (blk_below HXn1c3a4c5c6.out hb7)
        have HXn2c3a4c5c6c7 := hid (blk_below HXn2c3a4c5c6.out hb7)
        have HXn4c5c6c7 := hid (blk_below HXn4c5c6.out hb7)
        have HCac3a4c5c6c7 := hid (Cl.rep_lasts.1 _ _ _ _ _ HCac3a4c5c6.out (Keeps.of_below hb7))
        have HHac3a4c5c6c7 := hid (Hp.rep.keeps HHac3a4c5c6.out (Keeps.of_below hb7))
        have HFa4c5c6c7 := hid (SlR.keeps Ce.rep_lasts HFa4c5c6.out (Keeps.of_below hb7))
        have HGSa4c5c6c7 := hid (SlR.keeps numR_lasts HGSa4c5c6.out (Keeps.of_below hb7))
        have HBc7 := hid (HBc6.out.trans (hb7.mono HBc6.out.size))
        have hzz7 := hb7.size
        clear hb7
        obtain ⟨x0a, x0b, x0c, x0d, x0e, x0f, x0z⟩ := blk6 HXn1c3a4c5c6c7.out
        have hz0 := blk_lt HXn1c3a4c5c6c7.out
        obtain ⟨x1a, x1b, x1z⟩ := box2 HXn2c3a4c5c6c7.out
        have hz1 := blk_lt HXn2c3a4c5c6c7.out
        obtain ⟨x2a, x2b, x2c, x2d, x2z⟩ := blk4 HXn4c5c6c7.out
        have hz2 := blk_lt HXn4c5c6c7.out
        go_wp2_with fail
        go_ret
        exact ⟨_, rfl, HBc7.out, rfl⟩
      case pos =>
        have HHG := hid hhg
        have hl' : ¬ (1000 : Int) < (h.cells.length : Int) := by omega
        have hld : decide ((1000 : Int) < (h.cells.length : Int)) = false := by simpa using hl'
        obtain ⟨n, hn⟩ : ∃ n : Nat, c.vars = (n : Int) := Int.eq_ofNat_of_zero_le hg.1.1
        have hg' : (⟨c.head, c.body, (n : Int)⟩ : Cl).Good := by rw [← hn]; exact hg
        obtain ⟨x, hx1, hx2, hx3⟩ := code_terms hg' hhg hl
        have HTD := hid (code_tidy hg' h.cells.length)
        have HLO := hid (fun (W : World) (us : List Value) (u : Value) (k1 : Hp.rep (fun _ => True) W h us) (k2 : CesR (fun _ => True) W (goalsF (goalF (begF n) c.head) c.body).1 u) => load_ok h (goalsF (goalF (begF n) c.head) c.body).1 (fun _ => True) W us u k1 k2)
        rw [hx1] at HLO
        have HGL := hid (goalsF_len2 c.body (goalF (begF n) c.head))
        have HX3 := hid hx3
        have HFT := hid (show ∀ t ∈ c.head :: c.body, t.nodes ≤ 24 from fun t ht => by
          rcases List.mem_cons.1 ht with rfl | ht
          · exact hg.2.2.1.2
          · exact (hg.1.2.2.2 t ht).2.2)
        have hcbl : c.body.length ≤ 5 := hg.1.2.2.1
        have HN1 := hid (show Tm.nodesL (c.head :: c.body) ≤ 4194303 by have := nodesL_le (c.head :: c.body) HFT.out; simp at this; omega)
        have HN2 := hid (show Tm.nodesL ((c.head :: c.body).map (Tm.ren fun k => k + (h.cells.length : Int))) ≤ 4194303 by
          have := nodesL_le ((c.head :: c.body).map (Tm.ren fun k => k + (h.cells.length : Int))) (fun t ht => by
            obtain ⟨t', h1, rfl⟩ := List.mem_map.1 ht
            rw [ren_nodes]; exact HFT.out t' h1)
          simp only [List.length_map, List.length_cons] at this; omega)
        have hn8 : n ≤ 8 := by have := hg.1.2.1; omega
        have HBI := hid (show I64 (n : Int) by unfold I64; omega)
        rw [show clauseB c = ⟨(goalsF (goalF (begF n) c.head) c.body).1, c.vars, (n : Int), (goalsF (goalF (begF n) c.head) c.body).2⟩ by simp [clauseB, hn]] at HCL
        generalize (goalsF (goalF (begF n) c.head) c.body).1 = F at HCL HLO
        generalize (goalsF (goalF (begF n) c.head) c.body).2 = gs at HCL HGL HX3
        clear hg hg' hhg hx1 hx3 hn
        refine (HCL.out _ [_, _, _, _, _, _] (Cl.rep_lasts.2.1 _ _ _ _ _ HCa.out (fun b hb _ => hb))).mono ?_
        rintro e w3 ⟨v, rfl, hb3, cv, gv, rfl, hcc, hgg⟩
        obtain ⟨ka, kc, -, -, rfl, -, -, hFl, -⟩ := SlR.at hcc
        obtain ⟨qa, qc, -, -, rfl, -, -, hgl, -⟩ := SlR.at hgg
        simp only at hFl hgl hcc hgg
        rw [HGL.out] at hgg ⊢
        clear x0a x0b x0c x0d x0e x0f x0z hz0 x1a x1b x1z hz1
        have HXn1c3 := hid (blk_below HXn1.out hb3)
        have HXn2c3 := hid (blk_below HXn2.out hb3)
        have HCac3 := hid (Cl.rep_lasts.1 _ _ _ _ _ HCa.out (Keeps.of_below hb3))
        have HHac3 := hid (Hp.rep.keeps HHa.out (Keeps.of_below hb3))
        have HBc3 := hid (HBa2.out.trans (hb3.mono HBa2.out.size))
        have hzz3 := hb3.size
        clear hb3
        obtain ⟨x0a, x0b, x0c, x0d, x0e, x0f, x0z⟩ := blk6 HXn1c3.out
        have hz0 := blk_lt HXn1c3.out
        obtain ⟨x1a, x1b, x1z⟩ := box2 HXn2c3.out
        have hz1 := blk_lt HXn2c3.out
        have HF := hid (show CesR (fun _ => True) _ F (.slice ka F.length kc) from SlR.mono Ce.rep_lasts (by omega) hcc (fun _ _ _ => trivial))
        have HGS := hid (show NumsR (fun _ => True) _ gs (.slice qa c.body.length qc) from SlR.mono numR_lasts (by omega) hgg (fun _ _ _ => trivial))
        clear hcc hgg
        go_wp2_with fail
        clear x0a x0b x0c x0d x0e x0f x0z hz0 x1a x1b x1z hz1
        have HXn1c3a4 := hid (blk_alloc HXn1c3.out (.cells #[.slice ka F.length kc, .int .i64 c.vars, .int .i64 (n : Int), .slice qa c.body.length qc] 32))
        have HXn2c3a4 := hid (blk_alloc HXn2c3.out (.cells #[.slice ka F.length kc, .int .i64 c.vars, .int .i64 (n : Int), .slice qa c.body.length qc] 32))
        have HCac3a4 := hid (Cl.rep_lasts.1 _ _ _ _ _ HCac3.out (Keeps.alloc _ _ (.cells #[.slice ka F.length kc, .int .i64 c.vars, .int .i64 (n : Int), .slice qa c.body.length qc] 32)))
        have HHac3a4 := hid (Hp.rep.keeps HHac3.out (Keeps.alloc _ _ (.cells #[.slice ka F.length kc, .int .i64 c.vars, .int .i64 (n : Int), .slice qa c.body.length qc] 32)))
        have HFa4 := hid (SlR.keeps Ce.rep_lasts HF.out (Keeps.alloc _ _ (.cells #[.slice ka F.length kc, .int .i64 c.vars, .int .i64 (n : Int), .slice qa c.body.length qc] 32)))
        have HGSa4 := hid (SlR.keeps numR_lasts HGS.out (Keeps.alloc _ _ (.cells #[.slice ka F.length kc, .int .i64 c.vars, .int .i64 (n : Int), .slice qa c.body.length qc] 32)))
        have HXn4 := hid (blk_new w3 (.cells #[.slice ka F.length kc, .int .i64 c.vars, .int .i64 (n : Int), .slice qa c.body.length qc] 32))
        have HBa4 := hid (HBc3.out.alloc HBc3.out.size (.cells #[.slice ka F.length kc, .int .i64 c.vars, .int .i64 (n : Int), .slice qa c.body.length qc] 32))
        have hsz4 : w3.heap.size < (w3.alloc (.cells #[.slice ka F.length kc, .int .i64 c.vars, .int .i64 (n : Int), .slice qa c.body.length qc] 32)).heap.size := by simp
        generalize w3.alloc (.cells #[.slice ka F.length kc, .int .i64 c.vars, .int .i64 (n : Int), .slice qa c.body.length qc] 32) = w4 at HXn1c3a4 HXn2c3a4 HXn4 HCac3a4 HHac3a4 HFa4 HGSa4 HBa4 hsz4 ⊢
        obtain ⟨x0a, x0b, x0c, x0d, x0e, x0f, x0z⟩ := blk6 HXn1c3a4.out
        have hz0 := blk_lt HXn1c3a4.out
        obtain ⟨x1a, x1b, x1z⟩ := box2 HXn2c3a4.out
        have hz1 := blk_lt HXn2c3a4.out
        obtain ⟨x2a, x2b, x2c, x2d, x2z⟩ := blk4 HXn4.out
        have hz2 := blk_lt HXn4.out
        go_wp2_with fail
        refine (codesK_ok _).mono ?_
        rintro e w5 ⟨v, rfl, hb5, rfl⟩
        clear x0a x0b x0c x0d x0e x0f x0z hz0 x1a x1b x1z hz1 x2a x2b x2c x2d x2z hz2
        have HXn1c3a4c5 := hid (blk_below HXn1c3a4.out hb5)
        have HXn2c3a4c5 := hid (blk_below HXn2c3a4.out hb5)
        have HXn4c5 := hid (blk_below HXn4.out hb5)
        have HCac3a4c5 := hid (Cl.rep_lasts.1 _ _ _ _ _ HCac3a4.out (Keeps.of_below hb5))
        have HHac3a4c5 := hid (Hp.rep.keeps HHac3a4.out (Keeps.of_below hb5))
        have HFa4c5 := hid (SlR.keeps Ce.rep_lasts HFa4.out (Keeps.of_below hb5))
        have HGSa4c5 := hid (SlR.keeps numR_lasts HGSa4.out (Keeps.of_below hb5))
        have HBc5 := hid (HBa4.out.trans (hb5.mono HBa4.out.size))
        have hzz5 := hb5.size
        clear hb5
        obtain ⟨x0a, x0b, x0c, x0d, x0e, x0f, x0z⟩ := blk6 HXn1c3a4c5.out
        have hz0 := blk_lt HXn1c3a4c5.out
        obtain ⟨x1a, x1b, x1z⟩ := box2 HXn2c3a4c5.out
        have hz1 := blk_lt HXn2c3a4c5.out
        obtain ⟨x2a, x2b, x2c, x2d, x2z⟩ := blk4 HXn4c5.out
        have hz2 := blk_lt HXn4c5.out
        go_wp2_with fail
        refine (good_ok h (fun _ => True) _ [_, _] HHac3a4c5.out).mono ?_
        rintro e w6 ⟨v, rfl, hb6, b, rfl, ht⟩
        obtain rfl : b = true := ht.2 HHG.out
        clear ht
        clear x0a x0b x0c x0d x0e x0f x0z hz0 x1a x1b x1z hz1 x2a x2b x2c x2d x2z hz2
        have HXn1c3a4c5c6 := hid (blk_below HXn1c3a4c5.out hb6)
        have HXn2c3a4c5c6 := hid (blk_below HXn2c3a4c5.out hb6)
        have HXn4c5c6 := hid (blk_below HXn4c5.out hb6)
        have HCac3a4c5c6 := hid (Cl.rep_lasts.1 _ _ _ _ _ HCac3a4c5.out (Keeps.of_below hb6))
        have HHac3a4c5c6 := hid (Hp.rep.keeps HHac3a4c5.out (Keeps.of_below hb6))
        have HFa4c5c6 := hid (SlR.keeps Ce.rep_lasts HFa4c5.out (Keeps.of_below hb6))
        have HGSa4c5c6 := hid (SlR.keeps numR_lasts HGSa4c5.out (Keeps.of_below hb6))
        have HBc6 := hid (HBc5.out.trans (hb6.mono HBc5.out.size))
        have hzz6 := hb6.size
        clear hb6
        obtain ⟨x0a, x0b, x0c, x0d, x0e, x0f, x0z⟩ := blk6 HXn1c3a4c5c6.out
        have hz0 := blk_lt HXn1c3a4c5c6.out
        obtain ⟨x1a, x1b, x1z⟩ := box2 HXn2c3a4c5c6.out
        have hz1 := blk_lt HXn2c3a4c5c6.out
        obtain ⟨x2a, x2b, x2c, x2d, x2z⟩ := blk4 HXn4c5c6.out
        have hz2 := blk_lt HXn4c5c6.out
        go_wp2_with fail
        refine (HLO.out _ [_, _] _ HHac3a4c5c6.out HFa4c5c6.out).mono ?_
        rintro e w7 ⟨v, rfl, hb7, us, rfl, hr⟩
        obtain ⟨xa, xc, xb, xd, rfl, -⟩ := Hp.rep2 hr
        clear x0a x0b x0c x0d x0e x0f x0z hz0 x1a x1b x1z hz1 x2a x2b x2c x2d x2z hz2
        have HXn1c3a4c5c6c7 := hid (blk_below HXn1c3a4c5c6.out hb7)
        have HXn2c3a4c5c6c7 := hid (blk_below HXn2c3a4c5c6.out hb7)
        have HXn4c5c6c7 := hid (blk_below HXn4c5c6.out hb7)
        have HCac3a4c5c6c7 := hid (Cl.rep_lasts.1 _ _ _ _ _ HCac3a4c5c6.out (Keeps.of_below hb7))
        have HHac3a4c5c6c7 := hid (Hp.rep.keeps HHac3a4c5c6.out (Keeps.of_below hb7))
        have HFa4c5c6c7 := hid (SlR.keeps Ce.rep_lasts HFa4c5c6.out (Keeps.of_below hb7))
        have HGSa4c5c6c7 := hid (SlR.keeps numR_lasts HGSa4c5c6.out (Keeps.of_below hb7))
        have HBc7 := hid (HBc6.out.trans (hb7.mono HBc6.out.size))
        have hzz7 := hb7.size
        clear hb7
        obtain ⟨x0a, x0b, x0c, x0d, x0e, x0f, x0z⟩ := blk6 HXn1c3a4c5c6c7.out
        have hz0 := blk_lt HXn1c3a4c5c6c7.out
        obtain ⟨x1a, x1b, x1z⟩ := box2 HXn2c3a4c5c6c7.out
        have hz1 := blk_lt HXn2c3a4c5c6c7.out
        obtain ⟨x2a, x2b, x2c, x2d, x2z⟩ := blk4 HXn4c5c6c7.out
        have hz2 := blk_lt HXn4c5c6c7.out
        have HX := hid (show Hp.rep (fun _ => True) _ x _ from Hp.rep.mono hr (fun _ _ _ => trivial))
        clear hr
        have hgs5 : gs.length ≤ 5 := by rw [HGL.out]; exact hcbl
        have hne1 : ((c.body.length : Int) != (c.body.length : Int)) = false := by simp
        have hne2 : (c.vars != c.vars) = false := by simp
        go_wp2_with (first | (at_builtin; clear x0a x0b x0c x0d x0e x0f x0z hz0 x1a x1b x1z hz1 x2a x2b x2c x2d x2z hz2; have HXn1c3a4c5c6c7a8 := hid (blk_alloc HXn1c3a4c5c6c7.out (.cells #[.slice xa x.cells.length xc, .slice xb x.trail.length xd] 30)); have HXn2c3a4c5c6c7a8 := hid (blk_alloc HXn2c3a4c5c6c7.out (.cells #[.slice xa x.cells.length xc, .slice xb x.trail.length xd] 30)); have HXn4c5c6c7a8 := hid (blk_alloc HXn4c5c6c7.out (.cells #[.slice xa x.cells.length xc, .slice xb x.trail.length xd] 30)); have HCac3a4c5c6c7a8 := hid (Cl.rep_lasts.1 _ _ _ _ _ HCac3a4c5c6c7.out (Keeps.alloc _ _ (.cells #[.slice xa x.cells.length xc, .slice xb x.trail.length xd] 30))); have HHac3a4c5c6c7a8 := hid (Hp.rep.keeps HHac3a4c5c6c7.out (Keeps.alloc _ _ (.cells #[.slice xa x.cells.length xc, .slice xb x.trail.length xd] 30))); have HFa4c5c6c7a8 := hid (SlR.keeps Ce.rep_lasts HFa4c5c6c7.out (Keeps.alloc _ _ (.cells #[.slice xa x.cells.length xc, .slice xb x.trail.length xd] 30))); have HGSa4c5c6c7a8 := hid (SlR.keeps numR_lasts HGSa4c5c6c7.out (Keeps.alloc _ _ (.cells #[.slice xa x.cells.length xc, .slice xb x.trail.length xd] 30))); have HXa8 := hid (Hp.rep.keeps HX.out (Keeps.alloc _ _ (.cells #[.slice xa x.cells.length xc, .slice xb x.trail.length xd] 30))); have HXn8 := hid (blk_new w7 (.cells #[.slice xa x.cells.length xc, .slice xb x.trail.length xd] 30)); have HBa8 := hid (HBc7.out.alloc HBc7.out.size (.cells #[.slice xa x.cells.length xc, .slice xb x.trail.length xd] 30)); have hsz8 : w7.heap.size < (w7.alloc (.cells #[.slice xa x.cells.length xc, .slice xb x.trail.length xd] 30)).heap.size := (by simp); have HSZE := hid (show (w7.alloc (.cells #[.slice xa x.cells.length xc, .slice xb x.trail.length xd] 30)).heap.size = w7.heap.size + 1 from by simp); generalize w7.alloc (.cells #[.slice xa x.cells.length xc, .slice xb x.trail.length xd] 30) = w8 at HSZE HXn1c3a4c5c6c7a8 HXn2c3a4c5c6c7a8 HXn4c5c6c7a8 HXn8 HCac3a4c5c6c7a8 HHac3a4c5c6c7a8 HFa4c5c6c7a8 HGSa4c5c6c7a8 HXa8 HBa8 hsz8 ⊢; obtain ⟨x0a, x0b, x0c, x0d, x0e, x0f, x0z⟩ := blk6 HXn1c3a4c5c6c7a8.out; have hz0 := blk_lt HXn1c3a4c5c6c7a8.out; obtain ⟨x1a, x1b, x1z⟩ := box2 HXn2c3a4c5c6c7a8.out; have hz1 := blk_lt HXn2c3a4c5c6c7a8.out; obtain ⟨x2a, x2b, x2c, x2d, x2z⟩ := blk4 HXn4c5c6c7a8.out; have hz2 := blk_lt HXn4c5c6c7a8.out; obtain ⟨x3a, x3b, x3z⟩ := box2 HXn8.out; have hz3 := blk_lt HXn8.out; have HHD := hid (cl_head HCac3a4c5c6c7a8.out); have HBD := hid (cl_body HCac3a4c5c6c7a8.out); have hoh := own_one (E := 24) Tm.rep_lasts HHD.out rfl rfl; rw [HSZE.out] at hoh; have HOH := hid hoh; clear hoh; have HBD2 := hid (SlR.keeps Tm.rep_lasts HBD.out (Keeps.alloc _ _ (.cells #[.int .i64 c.head.kind, .int .i64 c.head.n, .string c.head.s, .slice ha c.head.args.length hac] 24))); refine wpList_appS rfl (.tmp 68) (.tmp 70) 22 rfl (w7.heap.size + 1) 24 4 56 tyTerm Tm.rep_lasts (A := fun _ => True) (.slice (some ⟨w7.heap.size + 1, 0, none⟩) 1 1) [c.head] rfl HOH.out _ rfl c.body (SlR.mono Tm.rep_lasts (by omega) HBD2.out (fun b hb hb2 => ⟨trivial, by simp [ownB]; exact fun e => hb2.2 (e.symm.trans HSZE.out.symm)⟩)) (by simp; omega) (by have := HSZE.out; simp; omega) ?_; go_must (intro wv w9 hown hgrew; have hb9 : Below w8.heap.size w8 w9 := hgrew.below ((Below.refl _ _).alloc (Nat.le_refl _) _) (by simp) (fun k hk => by simp [ownB] at hk; have := HSZE.out; omega); clear x0a x0b x0c x0d x0e x0f x0z hz0 x1a x1b x1z hz1 x2a x2b x2c x2d x2z hz2 x3a x3b x3z hz3; have HXn1c3a4c5c6c7a8c9 := hid (blk_below HXn1c3a4c5c6c7a8.out hb9); have HXn2c3a4c5c6c7a8c9 := hid (blk_below HXn2c3a4c5c6c7a8.out hb9); have HXn4c5c6c7a8c9 := hid (blk_below HXn4c5c6c7a8.out hb9); have HXn8c9 := hid (blk_below HXn8.out hb9); have HCac3a4c5c6c7a8c9 := hid (Cl.rep_lasts.1 _ _ _ _ _ HCac3a4c5c6c7a8.out (Keeps.of_below hb9)); have HHac3a4c5c6c7a8c9 := hid (Hp.rep.keeps HHac3a4c5c6c7a8.out (Keeps.of_below hb9)); have HFa4c5c6c7a8c9 := hid (SlR.keeps Ce.rep_lasts HFa4c5c6c7a8.out (Keeps.of_below hb9)); have HGSa4c5c6c7a8c9 := hid (SlR.keeps numR_lasts HGSa4c5c6c7a8.out (Keeps.of_below hb9)); have HXa8c9 := hid (Hp.rep.keeps HXa8.out (Keeps.of_below hb9)); have HBc9 := hid (HBa8.out.trans (hb9.mono HBa8.out.size)); have hzz9 := hb9.size; have HW := hid (show TmsR (fun _ => True) w9 (c.head :: c.body) wv from OwnR.sl Tm.rep_lasts (OwnR.mono (A' := fun _ => True) Tm.rep_lasts hown (fun _ _ _ => trivial)) (by simp; omega) (fun _ _ => trivial)); clear hown hgrew hb9; obtain ⟨x0a, x0b, x0c, x0d, x0e, x0f, x0z⟩ := blk6 HXn1c3a4c5c6c7a8c9.out; have hz0 := blk_lt HXn1c3a4c5c6c7a8c9.out; obtain ⟨x1a, x1b, x1z⟩ := box2 HXn2c3a4c5c6c7a8c9.out; have hz1 := blk_lt HXn2c3a4c5c6c7a8c9.out; obtain ⟨x2a, x2b, x2c, x2d, x2z⟩ := blk4 HXn4c5c6c7a8c9.out; have hz2 := blk_lt HXn4c5c6c7a8c9.out; obtain ⟨x3a, x3b, x3z⟩ := box2 HXn8c9.out; have hz3 := blk_lt HXn8c9.out)) | (at_builtin; have HOG := hid (own_one (E := 3) (A := fun _ => True) (w := w9) (x := (n : Int)) (us := [.int .i64 (n : Int)]) numR_lasts ⟨HBI.out, rfl⟩ rfl rfl); have HGN := hid (SlR.keeps (w' := w9.alloc (.cells #[.int .i64 (n : Int)] 3)) numR_lasts (SlR.mono (A' := fun b => b ≠ w9.heap.size) numR_lasts (by omega) HGSa4c5c6c7a8c9.out (fun b hb _ => by omega)) (Keeps.alloc _ _ _)); refine wpList_appS rfl (.tmp 74) (.tmp 76) 28 rfl w9.heap.size 3 1 8 tyNums numR_lasts (A := fun _ => True) (.slice (some ⟨w9.heap.size, 0, none⟩) 1 1) [(n : Int)] rfl HOG.out _ rfl gs (SlR.mono numR_lasts (by omega) HGN.out (fun b hb hb2 => ⟨trivial, by simp [ownB]; exact fun e => hb2 e.symm⟩)) (by simp; omega) (by simp) ?_; go_must (intro av w10 hown hgrew; have hb10 : Below w9.heap.size w9 w10 := hgrew.below ((Below.refl _ _).alloc (Nat.le_refl _) _) (by simp) (fun k hk => by simp [ownB] at hk; omega); clear x0a x0b x0c x0d x0e x0f x0z hz0 x1a x1b x1z hz1 x2a x2b x2c x2d x2z hz2 x3a x3b x3z hz3; have HXn1c3a4c5c6c7a8c9c10 := hid (blk_below HXn1c3a4c5c6c7a8c9.out hb10); have HXn2c3a4c5c6c7a8c9c10 := hid (blk_below HXn2c3a4c5c6c7a8c9.out hb10); have HXn4c5c6c7a8c9c10 := hid (blk_below HXn4c5c6c7a8c9.out hb10); have HXn8c9c10 := hid (blk_below HXn8c9.out hb10); have HCac3a4c5c6c7a8c9c10 := hid (Cl.rep_lasts.1 _ _ _ _ _ HCac3a4c5c6c7a8c9.out (Keeps.of_below hb10)); have HHac3a4c5c6c7a8c9c10 := hid (Hp.rep.keeps HHac3a4c5c6c7a8c9.out (Keeps.of_below hb10)); have HFa4c5c6c7a8c9c10 := hid (SlR.keeps Ce.rep_lasts HFa4c5c6c7a8c9.out (Keeps.of_below hb10)); have HGSa4c5c6c7a8c9c10 := hid (SlR.keeps numR_lasts HGSa4c5c6c7a8c9.out (Keeps.of_below hb10)); have HXa8c9c10 := hid (Hp.rep.keeps HXa8c9.out (Keeps.of_below hb10)); have HWc10 := hid (SlR.keeps Tm.rep_lasts HW.out (Keeps.of_below hb10)); have HBc10 := hid (HBc9.out.trans (hb10.mono HBc9.out.size)); have hzz10 := hb10.size; have HAT := hid (show NumsR (fun _ => True) w10 ((n : Int) :: gs) av from OwnR.sl numR_lasts (OwnR.mono (A' := fun _ => True) numR_lasts hown (fun _ _ _ => trivial)) (by simp; omega) (fun _ _ => trivial)); clear hown hgrew hb10; obtain ⟨pa, pc, pb, po, rfl, hp1, hp2, hp3, hpa, hpe⟩ := SlR.at HAT.out; have HPA := hid hpa; have HPE := hid hpe; clear hpa hpe; simp only [List.length_cons] at hp1 hp3; obtain ⟨x0a, x0b, x0c, x0d, x0e, x0f, x0z⟩ := blk6 HXn1c3a4c5c6c7a8c9c10.out; have hz0 := blk_lt HXn1c3a4c5c6c7a8c9c10.out; obtain ⟨x1a, x1b, x1z⟩ := box2 HXn2c3a4c5c6c7a8c9c10.out; have hz1 := blk_lt HXn2c3a4c5c6c7a8c9c10.out; obtain ⟨x2a, x2b, x2c, x2d, x2z⟩ := blk4 HXn4c5c6c7a8c9c10.out; have hz2 := blk_lt HXn4c5c6c7a8c9c10.out; obtain ⟨x3a, x3b, x3z⟩ := box2 HXn8c9c10.out; have hz3 := blk_lt HXn8c9c10.out)))
        clear x0a x0b x0c x0d x0e x0f x0z hz0 x1a x1b x1z hz1 x2a x2b x2c x2d x2z hz2 x3a x3b x3z hz3
        clear hl' hld
        go_loopw [79, 11] (fun i gv W => ∃ j : Nat, j ≤ c.body.length + 1 ∧ i = .int .i64 (j : Int) ∧ Below w10.heap.size w10 W ∧ OwnR W w10.heap.size 24 4 Tm.rep (fun b => w10.heap.size ≤ b) (((c.head :: c.body).take j).map (Tm.ren fun k => k + (h.cells.length : Int))) gv) (fun i _ _ => c.body.length + 1 - (intOf i).toNat)
        case atStart => exact ⟨0, Nat.zero_le _, rfl, Below.refl _ _, OwnR.nil ..⟩
        case round =>
          obtain ⟨j, hj, rfl, hb, hown⟩ := hrel
          have HXn1c3a4c5c6c7a8c9c10j := hid (blk_below HXn1c3a4c5c6c7a8c9c10.out hb)
          have HXn2c3a4c5c6c7a8c9c10j := hid (blk_below HXn2c3a4c5c6c7a8c9c10.out hb)
          have HXn4c5c6c7a8c9c10j := hid (blk_below HXn4c5c6c7a8c9c10.out hb)
          have HXn8c9c10j := hid (blk_below HXn8c9c10.out hb)
          have HCac3a4c5c6c7a8c9c10j := hid (Cl.rep_lasts.1 _ _ _ _ _ HCac3a4c5c6c7a8c9c10.out (Keeps.of_below hb))
          have HHac3a4c5c6c7a8c9c10j := hid (Hp.rep.keeps HHac3a4c5c6c7a8c9c10.out (Keeps.of_below hb))
          have HFa4c5c6c7a8c9c10j := hid (SlR.keeps Ce.rep_lasts HFa4c5c6c7a8c9c10.out (Keeps.of_below hb))
          have HGSa4c5c6c7a8c9c10j := hid (SlR.keeps numR_lasts HGSa4c5c6c7a8c9c10.out (Keeps.of_below hb))
          have HXa8c9c10j := hid (Hp.rep.keeps HXa8c9c10.out (Keeps.of_below hb))
          have HWc10j := hid (SlR.keeps Tm.rep_lasts HWc10.out (Keeps.of_below hb))
          have HATj := hid (SlR.keeps numR_lasts HAT.out (Keeps.of_below hb))
          have HBj := hid (HBc10.out.trans (hb.mono HBc10.out.size))
          have HL := hid hb
          have hzw := hb.size
          have HO := hid hown
          obtain ⟨oa, oc, rfl, -, -⟩ := OwnR.val' hown
          have htl : (((c.head :: c.body).take j).map (Tm.ren fun k => k + (h.cells.length : Int))).length = j := by simp; omega
          rw [htl] at HO hown ⊢
          by_cases hlt : j < c.body.length + 1
          · obtain ⟨_, _, rb, ro, e, -, -, -, hra, hre⟩ := SlR.at HATj.out
            simp only [Value.slice.injEq, true_and] at e
            obtain ⟨rfl, rfl⟩ := e
            obtain ⟨rfl, -⟩ := hra (by simp)
            have hjl : j < ((n : Int) :: gs).length := by have := HGL.out; simp; omega
            obtain ⟨c0, ci⟩ := num_cell hre trivial (Keeps.refl _ _) hjl
            obtain ⟨q, m, hq1, hq2, hq3, hq4⟩ := HX3.out j (by simp; omega)
            have hqe : ((n : Int) :: gs)[j]'hjl = q := by rw [List.getElem?_eq_getElem hjl] at hq1; exact Option.some.inj hq1
            rw [hqe] at c0
            have hlt' : (j : Int) < (gs.length : Int) + 1 := by have := HGL.out; omega
            have hj0 : (0 : Int) ≤ (j : Int) := Int.natCast_nonneg _
            have HLT := hid hlt
            obtain ⟨t, ht⟩ : ∃ t, t = (c.head :: c.body)[j]'(by simp; omega) := ⟨_, rfl⟩
            rw [← ht] at hq4
            have HT := hid ht
            have HI1 := hid hq2
            have q1 : -9223372036854775808 ≤ (h.cells.length : Int) + q := by unfold I64 at hq2; omega
            have q2 : (h.cells.length : Int) + q ≤ 9223372036854775807 := by unfold I64 at hq2; omega
            have HC1 := hid (fun (W : World) (us : List Value) (k : Hp.rep (fun _ => True) W x us) => (show Calls _ _ _ W (Pure W (TmNEA (New W) (t.ren (fun k => k + (h.cells.length : Int)), m, 0))) by have := termH_okN x ((h.cells.length : Int) + q) 24 hq2 (by unfold I64; omega) (fun _ => True) W us k; rw [hq4] at this; exact this))
            clear hb hown hra hre hq1 hq2 hq3 hq4 hqe ht ci hjl
            obtain ⟨x0a, x0b, x0c, x0d, x0e, x0f, x0z⟩ := blk6 HXn1c3a4c5c6c7a8c9c10j.out
            have hz0 := blk_lt HXn1c3a4c5c6c7a8c9c10j.out
            obtain ⟨x1a, x1b, x1z⟩ := box2 HXn2c3a4c5c6c7a8c9c10j.out
            have hz1 := blk_lt HXn2c3a4c5c6c7a8c9c10j.out
            obtain ⟨x2a, x2b, x2c, x2d, x2z⟩ := blk4 HXn4c5c6c7a8c9c10j.out
            have hz2 := blk_lt HXn4c5c6c7a8c9c10j.out
            obtain ⟨x3a, x3b, x3z⟩ := box2 HXn8c9c10j.out
            have hz3 := blk_lt HXn8c9c10j.out
            go_wp2_with fail
            refine (HC1.out _ [_, _] HXa8c9c10j.out).mono ?_
            rintro e w11 ⟨v, rfl, hb11, us, rfl, hr⟩
            obtain ⟨sa, sc, rfl, -⟩ := Tm.rep4 hr
            obtain ⟨t2, ht2⟩ : ∃ t2, t2 = t.ren (fun k => k + (h.cells.length : Int)) := ⟨_, rfl⟩
            simp only at hr ⊢
            rw [← ht2] at hr ⊢
            have HT2 := hid ht2
            clear ht2
            clear x0a x0b x0c x0d x0e x0f x0z hz0 x1a x1b x1z hz1 x2a x2b x2c x2d x2z hz2 x3a x3b x3z hz3
            have HXn1c3a4c5c6c7a8c9c10jc11 := hid (blk_below HXn1c3a4c5c6c7a8c9c10j.out hb11)
            have HXn2c3a4c5c6c7a8c9c10jc11 := hid (blk_below HXn2c3a4c5c6c7a8c9c10j.out hb11)
            have HXn4c5c6c7a8c9c10jc11 := hid (blk_below HXn4c5c6c7a8c9c10j.out hb11)
            have HXn8c9c10jc11 := hid (blk_below HXn8c9c10j.out hb11)
            have HCac3a4c5c6c7a8c9c10jc11 := hid (Cl.rep_lasts.1 _ _ _ _ _ HCac3a4c5c6c7a8c9c10j.out (Keeps.of_below hb11))
            have HHac3a4c5c6c7a8c9c10jc11 := hid (Hp.rep.keeps HHac3a4c5c6c7a8c9c10j.out (Keeps.of_below hb11))
            have HFa4c5c6c7a8c9c10jc11 := hid (SlR.keeps Ce.rep_lasts HFa4c5c6c7a8c9c10j.out (Keeps.of_below hb11))
            have HGSa4c5c6c7a8c9c10jc11 := hid (SlR.keeps numR_lasts HGSa4c5c6c7a8c9c10j.out (Keeps.of_below hb11))
            have HXa8c9c10jc11 := hid (Hp.rep.keeps HXa8c9c10j.out (Keeps.of_below hb11))
            have HWc10jc11 := hid (SlR.keeps Tm.rep_lasts HWc10j.out (Keeps.of_below hb11))
            have HATjc11 := hid (SlR.keeps numR_lasts HATj.out (Keeps.of_below hb11))
            have HOc11 := hid (OwnR.keeps Tm.rep_lasts HO.out (Keeps.of_below hb11) (fun _ _ => trivial) (fun _ _ => trivial))
            have HBc11 := hid (HL.out.trans (hb11.mono HL.out.size))
            have hzz11 := hb11.size
            clear hb11
            obtain ⟨x0a, x0b, x0c, x0d, x0e, x0f, x0z⟩ := blk6 HXn1c3a4c5c6c7a8c9c10jc11.out
            have hz0 := blk_lt HXn1c3a4c5c6c7a8c9c10jc11.out
            obtain ⟨x1a, x1b, x1z⟩ := box2 HXn2c3a4c5c6c7a8c9c10jc11.out
            have hz1 := blk_lt HXn2c3a4c5c6c7a8c9c10jc11.out
            obtain ⟨x2a, x2b, x2c, x2d, x2z⟩ := blk4 HXn4c5c6c7a8c9c10jc11.out
            have hz2 := blk_lt HXn4c5c6c7a8c9c10jc11.out
            obtain ⟨x3a, x3b, x3z⟩ := box2 HXn8c9c10jc11.out
            have hz3 := blk_lt HXn8c9c10jc11.out
            have TR := hid (show Tm.rep (fun b => New wr b) _ t2 _ from hr)
            clear hr c0
            have HNE := hid (show Tm.rep (fun b => w10.heap.size ≤ b ∧ ownB (.slice oa j oc) ≠ some b) (w11.alloc (.cells #[.int .i64 t2.kind, .int .i64 t2.n, .string t2.s, .slice sa t2.args.length sc] 24)) t2 _ from Tm.rep_lasts.1 _ _ _ _ _ (Tm.rep_lasts.2.1 _ _ _ _ _ TR.out (fun b _ hb => ⟨by unfold New at hb; omega, fun e => by have := (HO.out.lt b e).2; unfold New at hb; omega⟩)) (Keeps.alloc _ _ _))
            have HON := hid (OwnR.alloc Tm.rep_lasts HOc11.out (.cells #[.int .i64 t2.kind, .int .i64 t2.n, .string t2.s, .slice sa t2.args.length sc] 24))
            have hlen : (((c.head :: c.body).take j).map (Tm.ren fun k => k + (h.cells.length : Int))).length < 4194304 := by rw [htl]; omega
            have hbs : w10.heap.size ≤ (w11.alloc (.cells #[.int .i64 t2.kind, .int .i64 t2.n, .string t2.s, .slice sa t2.args.length sc] 24)).heap.size := by simp; omega
            have hee : ((0 : Int) != 0) = false := by decide
            go_wp2_with (at_builtin; go_must (refine wpList_app1 rfl (.tmp 94) (.tmp 96) 22 rfl w10.heap.size 24 4 56 tyTerm Tm.rep_lasts (.slice oa j oc) (((c.head :: c.body).take j).map (Tm.ren fun k => k + (h.cells.length : Int))) rfl HON.out t2 [_, _, _, _] (by simp only [World.size_alloc]; rfl) rfl HNE.out ⟨hlen, hbs⟩ ?_); go_must (intro v2 w99 hown2 hgrew; have HO2 := hid hown2; have HG2 := hid hgrew; clear hown2 hgrew))
            go_roundw
            case rel =>
              refine ⟨j + 1, by omega, by go_num, HG2.out.below ((HBc11.out.alloc (by omega) _).alloc (by simp; omega) _) (by simp; omega) (fun k hk => (HO.out.lt k hk).1), ?_⟩
              rw [List.take_succ_eq_append_getElem (show j < (c.head :: c.body).length by have := HLT.out; simp; omega), List.map_append, List.map_singleton, ← HT.out, ← HT2.out]
              exact HO2.out
            case measure => first | (simp [intOf]; done) | (simp [intOf]; omega)
          · have hje : j = c.body.length + 1 := by omega
            subst hje
            have hfull : (c.head :: c.body).take (c.body.length + 1) = (c.head :: c.body) := List.take_of_length_le (by simp)
            rw [hfull] at HO hown
            obtain ⟨we, hwe⟩ : ∃ x, x = wr := ⟨_, rfl⟩
            subst hwe
            have HTB := hid (show TmsR (fun _ => True) we ((c.head :: c.body).map (Tm.ren fun k => k + (h.cells.length : Int))) (.slice oa (c.body.length + 1) oc) from OwnR.sl Tm.rep_lasts (OwnR.mono (A' := fun _ => True) Tm.rep_lasts hown (fun _ _ _ => trivial)) (by simp; omega) (fun _ _ => trivial))
            have hlt' : ¬ ((c.body.length : Int) + 1 < (gs.length : Int) + 1) := by have := HGL.out; omega
            clear hb hown hlt hj htl hfull
            obtain ⟨x0a, x0b, x0c, x0d, x0e, x0f, x0z⟩ := blk6 HXn1c3a4c5c6c7a8c9c10j.out
            have hz0 := blk_lt HXn1c3a4c5c6c7a8c9c10j.out
            obtain ⟨x1a, x1b, x1z⟩ := box2 HXn2c3a4c5c6c7a8c9c10j.out
            have hz1 := blk_lt HXn2c3a4c5c6c7a8c9c10j.out
            obtain ⟨x2a, x2b, x2c, x2d, x2z⟩ := blk4 HXn4c5c6c7a8c9c10j.out
            have hz2 := blk_lt HXn4c5c6c7a8c9c10j.out
            obtain ⟨x3a, x3b, x3z⟩ := box2 HXn8c9c10j.out
            have hz3 := blk_lt HXn8c9c10j.out
            go_wp2_with fail
            refine (tidy_ok _ HN1.out (fun _ => True) _ _ HWc10j.out).mono ?_
            rintro e w11 ⟨v, rfl, hb11, hta⟩
            have hta2 := SlR.mono (A' := fun _ => True) Tm.rep_lasts (by omega) hta (fun _ _ _ => trivial)
            clear x0a x0b x0c x0d x0e x0f x0z hz0 x1a x1b x1z hz1 x2a x2b x2c x2d x2z hz2 x3a x3b x3z hz3
            have HXn1c3a4c5c6c7a8c9c10jc11 := hid (blk_below HXn1c3a4c5c6c7a8c9c10j.out hb11)
            have HXn2c3a4c5c6c7a8c9c10jc11 := hid (blk_below HXn2c3a4c5c6c7a8c9c10j.out hb11)
            have HXn4c5c6c7a8c9c10jc11 := hid (blk_below HXn4c5c6c7a8c9c10j.out hb11)
            have HXn8c9c10jc11 := hid (blk_below HXn8c9c10j.out hb11)
            have HCac3a4c5c6c7a8c9c10jc11 := hid (Cl.rep_lasts.1 _ _ _ _ _ HCac3a4c5c6c7a8c9c10j.out (Keeps.of_below hb11))
            have HHac3a4c5c6c7a8c9c10jc11 := hid (Hp.rep.keeps HHac3a4c5c6c7a8c9c10j.out (Keeps.of_below hb11))
            have HFa4c5c6c7a8c9c10jc11 := hid (SlR.keeps Ce.rep_lasts HFa4c5c6c7a8c9c10j.out (Keeps.of_below hb11))
            have HGSa4c5c6c7a8c9c10jc11 := hid (SlR.keeps numR_lasts HGSa4c5c6c7a8c9c10j.out (Keeps.of_below hb11))
            have HXa8c9c10jc11 := hid (Hp.rep.keeps HXa8c9c10j.out (Keeps.of_below hb11))
            have HWc10jc11 := hid (SlR.keeps Tm.rep_lasts HWc10j.out (Keeps.of_below hb11))
            have HATjc11 := hid (SlR.keeps numR_lasts HATj.out (Keeps.of_below hb11))
            have HTBc11 := hid (SlR.keeps Tm.rep_lasts HTB.out (Keeps.of_below hb11))
            have HBc11 := hid (HBj.out.trans (hb11.mono HBj.out.size))
            have hzz11 := hb11.size
            clear hb11
            obtain ⟨x0a, x0b, x0c, x0d, x0e, x0f, x0z⟩ := blk6 HXn1c3a4c5c6c7a8c9c10jc11.out
            have hz0 := blk_lt HXn1c3a4c5c6c7a8c9c10jc11.out
            obtain ⟨x1a, x1b, x1z⟩ := box2 HXn2c3a4c5c6c7a8c9c10jc11.out
            have hz1 := blk_lt HXn2c3a4c5c6c7a8c9c10jc11.out
            obtain ⟨x2a, x2b, x2c, x2d, x2z⟩ := blk4 HXn4c5c6c7a8c9c10jc11.out
            have hz2 := blk_lt HXn4c5c6c7a8c9c10jc11.out
            obtain ⟨x3a, x3b, x3z⟩ := box2 HXn8c9c10jc11.out
            have hz3 := blk_lt HXn8c9c10jc11.out
            have HTC := hid (hta2)
            clear hta hta2
            go_wp2_with fail
            refine (tidy_ok _ HN2.out (fun _ => True) _ _ HTBc11.out).mono ?_
            rintro e w12 ⟨v, rfl, hb12, hta⟩
            have hta2 := SlR.mono (A' := fun _ => True) Tm.rep_lasts (by omega) hta (fun _ _ _ => trivial)
            clear x0a x0b x0c x0d x0e x0f x0z hz0 x1a x1b x1z hz1 x2a x2b x2c x2d x2z hz2 x3a x3b x3z hz3
            have HXn1c3a4c5c6c7a8c9c10jc11c12 := hid (blk_below HXn1c3a4c5c6c7a8c9c10jc11.out hb12)
            have HXn2c3a4c5c6c7a8c9c10jc11c12 := hid (blk_below HXn2c3a4c5c6c7a8c9c10jc11.out hb12)
            have HXn4c5c6c7a8c9c10jc11c12 := hid (blk_below HXn4c5c6c7a8c9c10jc11.out hb12)
            have HXn8c9c10jc11c12 := hid (blk_below HXn8c9c10jc11.out hb12)
            have HCac3a4c5c6c7a8c9c10jc11c12 := hid (Cl.rep_lasts.1 _ _ _ _ _ HCac3a4c5c6c7a8c9c10jc11.out (Keeps.of_below hb12))
            have HHac3a4c5c6c7a8c9c10jc11c12 := hid (Hp.rep.keeps HHac3a4c5c6c7a8c9c10jc11.out (Keeps.of_below hb12))
            have HFa4c5c6c7a8c9c10jc11c12 := hid (SlR.keeps Ce.rep_lasts HFa4c5c6c7a8c9c10jc11.out (Keeps.of_below hb12))
            have HGSa4c5c6c7a8c9c10jc11c12 := hid (SlR.keeps numR_lasts HGSa4c5c6c7a8c9c10jc11.out (Keeps.of_below hb12))
            have HXa8c9c10jc11c12 := hid (Hp.rep.keeps HXa8c9c10jc11.out (Keeps.of_below hb12))
            have HWc10jc11c12 := hid (SlR.keeps Tm.rep_lasts HWc10jc11.out (Keeps.of_below hb12))
            have HATjc11c12 := hid (SlR.keeps numR_lasts HATjc11.out (Keeps.of_below hb12))
            have HTBc11c12 := hid (SlR.keeps Tm.rep_lasts HTBc11.out (Keeps.of_below hb12))
            have HTCc12 := hid (SlR.keeps Tm.rep_lasts HTC.out (Keeps.of_below hb12))
            have HBc12 := hid (HBc11.out.trans (hb12.mono HBc11.out.size))
            have hzz12 := hb12.size
            clear hb12
            obtain ⟨x0a, x0b, x0c, x0d, x0e, x0f, x0z⟩ := blk6 HXn1c3a4c5c6c7a8c9c10jc11c12.out
            have hz0 := blk_lt HXn1c3a4c5c6c7a8c9c10jc11c12.out
            obtain ⟨x1a, x1b, x1z⟩ := box2 HXn2c3a4c5c6c7a8c9c10jc11c12.out
            have hz1 := blk_lt HXn2c3a4c5c6c7a8c9c10jc11c12.out
            obtain ⟨x2a, x2b, x2c, x2d, x2z⟩ := blk4 HXn4c5c6c7a8c9c10jc11c12.out
            have hz2 := blk_lt HXn4c5c6c7a8c9c10jc11c12.out
            obtain ⟨x3a, x3b, x3z⟩ := box2 HXn8c9c10jc11c12.out
            have hz3 := blk_lt HXn8c9c10jc11c12.out
            have HTE := hid (hta2)
            clear hta hta2
            go_wp2_with fail
            refine (sames_ok _ _ (fun _ => True) _ _ _ HTCc12.out HTE.out).mono ?_
            rintro e w13 ⟨v, rfl, hb13, b, rfl, ht⟩
            obtain rfl : b = true := ht.2 HTD.out.symm
            clear ht
            clear x0a x0b x0c x0d x0e x0f x0z hz0 x1a x1b x1z hz1 x2a x2b x2c x2d x2z hz2 x3a x3b x3z hz3
            have HXn1c3a4c5c6c7a8c9c10jc11c12c13 := hid (blk_below HXn1c3a4c5c6c7a8c9c10jc11c12.out hb13)
            have HXn2c3a4c5c6c7a8c9c10jc11c12c13 := hid (blk_below HXn2c3a4c5c6c7a8c9c10jc11c12.out hb13)
            have HXn4c5c6c7a8c9c10jc11c12c13 := hid (blk_below HXn4c5c6c7a8c9c10jc11c12.out hb13)
            have HXn8c9c10jc11c12c13 := hid (blk_below HXn8c9c10jc11c12.out hb13)
            have HCac3a4c5c6c7a8c9c10jc11c12c13 := hid (Cl.rep_lasts.1 _ _ _ _ _ HCac3a4c5c6c7a8c9c10jc11c12.out (Keeps.of_below hb13))
            have HHac3a4c5c6c7a8c9c10jc11c12c13 := hid (Hp.rep.keeps HHac3a4c5c6c7a8c9c10jc11c12.out (Keeps.of_below hb13))
            have HFa4c5c6c7a8c9c10jc11c12c13 := hid (SlR.keeps Ce.rep_lasts HFa4c5c6c7a8c9c10jc11c12.out (Keeps.of_below hb13))
            have HGSa4c5c6c7a8c9c10jc11c12c13 := hid (SlR.keeps numR_lasts HGSa4c5c6c7a8c9c10jc11c12.out (Keeps.of_below hb13))
            have HXa8c9c10jc11c12c13 := hid (Hp.rep.keeps HXa8c9c10jc11c12.out (Keeps.of_below hb13))
            have HWc10jc11c12c13 := hid (SlR.keeps Tm.rep_lasts HWc10jc11c12.out (Keeps.of_below hb13))
            have HATjc11c12c13 := hid (SlR.keeps numR_lasts HATjc11c12.out (Keeps.of_below hb13))
            have HTBc11c12c13 := hid (SlR.keeps Tm.rep_lasts HTBc11c12.out (Keeps.of_below hb13))
            have HTCc12c13 := hid (SlR.keeps Tm.rep_lasts HTCc12.out (Keeps.of_below hb13))
            have HTEc13 := hid (SlR.keeps Tm.rep_lasts HTE.out (Keeps.of_below hb13))
            have HBc13 := hid (HBc12.out.trans (hb13.mono HBc12.out.size))
            have hzz13 := hb13.size
            clear hb13
            obtain ⟨x0a, x0b, x0c, x0d, x0e, x0f, x0z⟩ := blk6 HXn1c3a4c5c6c7a8c9c10jc11c12c13.out
            have hz0 := blk_lt HXn1c3a4c5c6c7a8c9c10jc11c12c13.out
            obtain ⟨x1a, x1b, x1z⟩ := box2 HXn2c3a4c5c6c7a8c9c10jc11c12c13.out
            have hz1 := blk_lt HXn2c3a4c5c6c7a8c9c10jc11c12c13.out
            obtain ⟨x2a, x2b, x2c, x2d, x2z⟩ := blk4 HXn4c5c6c7a8c9c10jc11c12c13.out
            have hz2 := blk_lt HXn4c5c6c7a8c9c10jc11c12c13.out
            obtain ⟨x3a, x3b, x3z⟩ := box2 HXn8c9c10jc11c12c13.out
            have hz3 := blk_lt HXn8c9c10jc11c12c13.out
            go_wp2_with fail
            go_ret
            exact ⟨_, rfl, HBc13.out, rfl⟩
end Go.Proofs.Ytlpmfkpefoegeab
