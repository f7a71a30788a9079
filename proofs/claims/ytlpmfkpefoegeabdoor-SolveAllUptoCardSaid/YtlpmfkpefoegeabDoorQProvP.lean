/-
  The document's prover: prove.
-/
import Derived.Test.YtlpmfkpefoegeabDoorQProvA
import Derived.Test.YtlpmfkpefoegeabDoorQEverybody
import Derived.Test.YtlpmfkpefoegeabDoorPProveB
import Derived.BigQuiet
namespace Go.Proofs.YtlpmfkpefoegeabDoor
set_option linter.unusedVariables false
set_option linter.unusedSimpArgs false
open Go.RowKit
structure PrIn (q : Nat) (td : List Td) (p : Pv) : Prop where
  ended : p.ended = false
  out : p.out.length ≤ 11
  qv : (q : Int) ≤ p.vars
  calls : p.calls + p.fuel ≤ 150
  pot : p.pot ≤ 100000
  tds : ∀ a ∈ td, a.t.In p.vars ∧ a.call ≤ 150
section
variable {base : Nat} {P : List Cl} {q g : Nat} {pv : Value}
def ProveAt (base : Nat) (P : List Cl) (q g : Nat) (pv : Value) (k : Nat) : Prop := ∀ (td : List Td) (E : Env) (p : Pv) (w : World) (ov tv ev : Value), p.fuel < k → PrIn q td p → EnvOk p.vars E → PvI base P q g pv ov p w → TdQ (PA g ov) w td tv → EnvQ (PA g ov) w E.reverse ev →
  Calls Tryd.prog 62 #[.pointer (some ⟨g, 0, none⟩), tv, ev] w (PProvePost base P q g pv ov (proveR P q k td E p) w)
theorem mine_at {t : Tm} {j : Nat} (hj : j < P.length) : (P.take (j + 1)).filter (fun c => decide (likeF c.head t)) = if likeF P[j].head t then (P.take j).filter (fun c => decide (likeF c.head t)) ++ [P[j]] else (P.take j).filter (fun c => decide (likeF c.head t)) := by
  rw [List.take_succ_eq_append_getElem hj, List.filter_append]
  by_cases h : likeF P[j].head t
  · rw [if_pos h]; simp [h]
  · rw [if_neg h]; simp [h]
theorem psimple_ok {pr : List Td → Env → Pv → Int × Pv} {gt : Td} {rest : List Td} {p : Pv} {E : Env} {w : World} {ov tv ev : Value} : SimpOK base P q g pv pr gt rest p E w ov tv ev := by
  by_cases s1 : gt.t.s.toList = [33]
  · exact psimple_cut s1
  by_cases s2 : gt.t.s.toList = [116, 114, 117, 101]
  · exact psimple_true s1 s2
  by_cases s3 : gt.t.s.toList = [102, 97, 105, 108]
  · exact psimple_fail s1 s2 s3
  by_cases s4 : gt.t.s.toList = [101, 113]
  · exact psimple_eq s1 s2 s3 s4
  by_cases s5 : gt.t.s.toList = [108, 101, 115, 115]
  · exact psimple_less s1 s2 s3 s4 s5
  · exact psimple_add s1 s2 s3 s4 s5
theorem ClsR.move {ov ov' : Value} {w w' : World} {l : List Cl} {v : Value} (h : ClsR (PA g ov) w l v) (hc : Ch (PM g ov) w w') (ho : ∀ b, ownB ov' = some b → ownB ov = some b ∨ w.heap.size ≤ b) : ClsR (PA g ov') w' l v := by
  obtain ⟨h1, h2⟩ := pa_mid hc ho
  exact SlR.mono Cl.rep_lasts (by omega) (SlR.keeps Cl.rep_lasts (SlR.mono (A' := fun b => PA g ov b ∧ b < w.heap.size) Cl.rep_lasts (by omega) h fun b hb hA => ⟨hA, hb⟩) h1) fun b _ hb => h2 b hb
set_option maxRecDepth 100000 in
set_option maxHeartbeats 8000000 in
theorem prove_step (hP : GoodP P) (k : Nat) (ih : ProveAt base P q g pv k) : ProveAt base P q g pv (k + 1) := by
  intro td E p w ov tv ev hk hin hE h htd hev
  have HU := hid h
  have HE := hid hE
  have HIN := hid hin
  have HTD := hid htd
  have HEV := hid hev
  have HP := hid hP
  have HIH := hid ih
  have hcs := cell_set
  obtain ⟨ep, rfl⟩ := hev.ptr
  obtain ⟨hl1, hl2⟩ := h.lt
  obtain ⟨pa, pc, oa, oc, hpv, hov, hvl1, hvl2, hvl7, hvl8⟩ := h.vals
  obtain ⟨b0, b1, b2, b3, b4, b5, b6, bf⟩ := box7 h.box
  have hfu := h.fu
  cases td with
  | nil =>
    have e : tv = .pointer none := htd
    subst e
    have hres := hid (show proveR P q (k + 1) [] E p = tellR q E p by rw [proveR])
    clear h hE hin htd hev hP ih
    go_enter Tryd.func62, Tryd.ntmps62
    go_wp2_with fail
    refine (ptell_ok HU.out HE.out _ HEV.out HIN.out.qv (by have := HIN.out.out; omega)).mono ?_
    rintro e w1 ⟨rfl, hst⟩
    have HST := hid hst
    clear hst
    go_wp2_with fail
    go_ret
    rw [hres.out]
    exact ⟨rfl, HST.out⟩
  | cons gt rest =>
    obtain ⟨gb, ga, gcap, rv, rfl, hgA, hgb, hgr, hgrest⟩ := htd
    by_cases hf0 : p.fuel = 0
    · have hres := hid (show proveR P q (k + 1) (gt :: rest) E p = (-1, p.put 3) by rw [proveR, if_pos hf0])
      rw [hf0] at b2
      rw [show ((0 : Nat) : Int) = 0 from rfl] at b2
      clear h hE hin hev hP ih hgA hgb hgr hgrest
      go_enter Tryd.func62, Tryd.ntmps62
      go_wp2_with fail
      refine (pend_ok 3 (by unfold I64; omega) HU.out (by have := HIN.out.out; omega)).mono ?_
      rintro e w1 ⟨rfl, hst⟩
      have HST := hid hst
      clear hst
      go_wp2_with fail
      go_ret
      rw [hres.out]
      exact ⟨rfl, HST.out⟩
    obtain ⟨f, hf⟩ : ∃ f, p.fuel = f + 1 := ⟨p.fuel - 1, by omega⟩
    obtain ⟨p1, hp1⟩ : ∃ p1 : Pv, p1 = { p with fuel := f } := ⟨_, rfl⟩
    have hf2 : ((f + 1 : Nat) : Int) = (f : Int) + 1 := by omega
    have hff : (0 : Int) ≤ (f : Int) ∧ (f : Int) ≤ 150 := by omega
    rw [hf, hf2] at b2
    have hres0 := hid (show proveR P q (k + 1) (gt :: rest) E p = (haveI := Classical.propDecidable gt.t.Known
      if gt.t.Known then simpleR (proveR P q k) gt rest E p1
      else if mineR P gt.t 0 = [] then (-1, p1.put 5)
      else loopR (proveR P q k) gt.t rest E (p1.calls + 1) (mineR P gt.t 0) { p1 with calls := p1.calls + 1 }) by
      rw [proveR, if_neg hf0, hp1, show p.fuel - 1 = f by omega])
    have HSET := hid (h.set (p' := p1) 2 (.int .i64 (f : Int)) ((blk_set h.box 2 _).trans (by rw [hp1]; rfl)) (by rw [hp1]) (by rw [hp1]; exact h.v0) (by rw [hp1]; exact h.v1) (by rw [hp1]; simp only; omega) (by rw [hp1]; exact h.cl))
    have HIN1 := hid (show PrIn q (gt :: rest) p1 by
      rw [hp1]
      refine ⟨hin.ended, hin.out, hin.qv, by have := hin.calls; simp only; omega, ?_, hin.tds⟩
      have := hin.pot
      unfold Pv.pot at this ⊢
      simp only
      omega)
    have hpot1 : p1.pot ≤ 99992 := by
      rw [hp1]
      have := hin.pot
      unfold Pv.pot at this ⊢
      simp only
      omega
    have hpc1 : p1.calls + p1.fuel ≤ 149 := by rw [hp1]; have := hin.calls; simp only; omega
    have hkf : p1.fuel < k := by rw [hp1]; simp only; omega
    have HE1 := hid (show EnvOk p1.vars E by rw [hp1]; exact hE)
    obtain ⟨g00, g01, g02, g03, g04, g05, gf⟩ := blk6 hgb
    have hgbg : gb ≠ g := fun e => hgA (.inl e)
    have hgbg' : g ≠ gb := fun e => hgbg e.symm
    have hgbl := blk_lt hgb
    have HGB0 := hid hgb
    have HGA0 := hid hgA
    have HGR0 := hid hgr
    have HR0 := hid hgrest
    clear h hE hin hev hP ih hgA hgb hgr hgrest hf0 HTD hp1 hf hf2
    go_enter Tryd.func62, Tryd.ntmps62
    go_wp2_with fail
    obtain ⟨W1, hW1⟩ : ∃ W1, W1 = w.setCell ⟨g, 2, none⟩ (.int .i64 (f : Int)) := ⟨_, rfl⟩
    rw [← hW1] at HSET ⊢
    obtain ⟨ov1, hpv1, hch1, hot1⟩ := HSET.out
    have HU1 := hid hpv1
    obtain ⟨hm1, hm2⟩ := pa_mid hch1 hot1
    have HGB := hid (blk_keeps HGB0.out hm1 ⟨HGA0.out, hgbl⟩)
    have HGA := hid (hm2 gb ⟨HGA0.out, hgbl⟩)
    have HGR := hid (Tm.rep_lasts.2.1 _ (PA g ov1) _ _ _ (Tm.rep_lasts.1 _ _ _ _ _ (Tm.rep_lasts.2.1 _ (fun b => PA g ov b ∧ b < w.heap.size) _ _ _ HGR0.out fun b hb h => ⟨h, hb⟩) hm1) fun b _ h => hm2 b h)
    have HGREST := hid (HR0.out.move hch1 hot1)
    have HEV2 := hid (HEV.out.move hch1 hot1)
    have HST1 := hid (fun (p' : Pv) (w' : World) (hh : PStep base P q g pv ov1 p' W1 w') => (PStep.trans hch1 hot1 hh : PStep base P q g pv ov p' w w'))
    have hz1 := hch1.size
    clear hW1 HSET hpv1 hch1 hot1 hm1 hm2 HGB0 HGA0 HGR0 HR0 HEV HU HE HIN b0 b1 b2 b3 b4 b5 b6 bf g00 g01 g02 g03 g04 g05 gf hvl1 hvl2 hvl7 hvl8 hpv hov hl1 hl2 hgbg hgbg'
    refine (everybody_ok gt.t (PA g ov1) W1 _ HGR.out).mono ?_
    rintro e W2 ⟨r, rfl, hb2, kn, rfl, hkn⟩
    have HKN := hid hkn
    have HB2 := hid hb2
    have hz2 := hb2.size
    have HU2 := hid (HU1.out.below hb2)
    have HEV3 := hid (HEV2.out.keeps (Keeps.of_below hb2))
    have HR2 := hid (HGREST.out.keeps (Keeps.of_below hb2))
    have HG2 := hid (blk_below HGB.out hb2)
    have HGR2 := hid (Tm.rep_lasts.1 _ _ _ _ _ HGR.out (Keeps.of_below hb2))
    have HST2 := hid (fun (p' : Pv) (w' : World) (hh : PStep base P q g pv ov1 p' W2 w') => HST1.out _ _ (PStep.trans (Ch.of_below HB2.out) (fun b h => .inl h) hh))
    clear hb2 hkn HB2 HU1 HEV2 HGREST HGB HGR HST1
    cases kn with
    | true =>
      have hkk : gt.t.Known := HKN.out.1 rfl
      have hres := hid (show proveR P q (k + 1) (gt :: rest) E p = simpleR (proveR P q k) gt rest E p1 by rw [hres0.out]; exact if_pos hkk)
      go_wp2_with fail
      refine (psimple_ok (pr := proveR P q k) (fun E' => ?_) (fun E' w' ov' tv' ev' hE' hU' hT' hQ' => HIH.out rest E' p1 w' ov' tv' ev' hkf ⟨HIN1.out.ended, HIN1.out.out, HIN1.out.qv, HIN1.out.calls, HIN1.out.pot, fun a ha => HIN1.out.tds a (by simp [ha])⟩ hE' hU' hT' hQ') HE1.out HU2.out (HIN1.out.tds gt (by simp)).1 hkk (by have := (HIN1.out.tds gt (by simp)).2; omega) (by have := HIN1.out.out; omega) ⟨gb, ga, gcap, rv, rfl, HGA.out, HG2.out, HGR2.out, HR2.out⟩ HEV3.out).mono ?_
      · have hc := proveR_cut (P := P) (q := q) k rest E' p1
        refine ⟨hc.ge, ?_⟩
        rcases hc with h | ⟨a, ha, h⟩
        · rw [h]; omega
        · rw [h]; have := (HIN1.out.tds a (by simp [ha])).2; omega
      rintro e w3 ⟨rfl, hst⟩
      have HST := hid (HST2.out _ _ hst)
      clear hst
      go_wp2_with fail
      go_ret
      rw [hres.out]
      exact ⟨rfl, HST.out⟩
    | false =>
      have hkk : ¬ gt.t.Known := fun h => by have := HKN.out.2 h; cases this
      have hres1 := hid (show proveR P q (k + 1) (gt :: rest) E p = (if mineR P gt.t 0 = [] then (-1, p1.put 5)
        else loopR (proveR P q k) gt.t rest E (p1.calls + 1) (mineR P gt.t 0) { p1 with calls := p1.calls + 1 }) by rw [hres0.out]; exact if_neg hkk)
      clear hres0 HKN
      obtain ⟨pa', pc', pb, poff, hpv, hpl1, hpl2, hpl3, hpA, hpE⟩ := SlR.at HU2.out.prog
      subst hpv
      have HPA := hid hpA
      have HPE := hid hpE
      have hP24 := HP.out.1
      unfold maxLen at hpl2
      obtain ⟨hl1, hl2⟩ := HU2.out.lt
      obtain ⟨b0, b1, b2, b3, b4, b5, b6, bf⟩ := box7 HU2.out.box
      clear hpA hpE
      go_wp2_with fail
      go_loopw [7, 53, 9] (fun v7 i53 _ wr => ∃ j : Nat, j ≤ P.length ∧ i53 = .int .i64 (j : Int) ∧ Below W2.heap.size W2 wr ∧ OwnR wr W2.heap.size 39 6 Cl.rep (PA g ov1) ((P.take j).filter (fun c => decide (likeF c.head gt.t))) v7) (fun _ i53 _ _ => P.length - (intOf i53).toNat)
      case atStart => exact ⟨0, Nat.zero_le _, rfl, Below.refl _ _, by simpa using OwnR.nil ..⟩
      case round =>
        obtain ⟨j, hj, rfl, hb, hown⟩ := hrel
        have hz := hb.size
        have HO := hid hown
        have HB := hid hb
        have hjj : (0 : Int) ≤ (j : Int) := Int.natCast_nonneg _
        obtain ⟨va, vc, rfl, hvc⟩ := hown.val
        have HGj := hid (blk_below HG2.out hb)
        clear hown hb b0 b1 b2 b3 b4 b5 b6 bf
        by_cases hlt : j < P.length
        · obtain ⟨rfl, hpb⟩ := HPA.out (by omega)
          have hlt' : (j : Int) < (P.length : Int) := by omega
          obtain ⟨sa, sc, ba, bc, c0, c1, c2, c3, c4, c5, hr⟩ := cl_cells HPE.out hpb (Keeps.of_below HB.out) hlt
          have HR := hid hr
          have hpbl : pb < wr.heap.size := by omega
          have hma := mine_at (t := gt.t) hlt
          have hlen : ((P.take j).filter (fun c => decide (likeF c.head gt.t))).length ≤ 24 := by have := List.length_filter_le (fun c => decide (likeF c.head gt.t)) (P.take j); rw [List.length_take] at this; omega
          obtain ⟨c, hcc⟩ : ∃ c, c = P[j] := ⟨_, rfl⟩
          rw [← hcc] at c0 c1 c2 c3 c4 c5 hr HR hma
          generalize (P.take j).filter (fun c => decide (likeF c.head gt.t)) = mine at *
          have HMA := hid hma
          clear hma hcc hr
          go_wp2_with fail
          obtain ⟨W3, hW3⟩ : ∃ W3, W3 = wr.alloc (.cells #[.int .i64 c.head.kind, .int .i64 c.head.n, .string c.head.s, .slice sa c.head.args.length sc, .slice ba c.body.length bc, .int .i64 c.vars] 39) := ⟨_, rfl⟩
          have HB3 := hid (show Below wr.heap.size wr W3 by rw [hW3]; exact (Below.refl _ _).alloc (Nat.le_refl _) _)
          have HX3 := hid (show W3.heap[wr.heap.size]? = some (.cells #[.int .i64 c.head.kind, .int .i64 c.head.n, .string c.head.s, .slice sa c.head.args.length sc, .slice ba c.body.length bc, .int .i64 c.vars] 39 (0, 0)) by rw [hW3]; exact blk_new _ _)
          obtain ⟨cb, hcb⟩ : ∃ cb, cb = wr.heap.size := ⟨_, rfl⟩
          rw [← hcb] at HX3
          rw [← hcb, ← hW3]
          have hcbz : W2.heap.size ≤ cb := by omega
          have hz3 := HB3.out.size
          have hcbl := blk_lt HX3.out
          clear hW3 hcb c0 c1 c2 c3 c4 c5
          have HG3 := hid (blk_below HGj.out HB3.out)
          obtain ⟨q0, q1, q2, q3, q4, q5, qf⟩ := blk6 HX3.out
          obtain ⟨g00, g01, g02, g03, g04, g05, gf⟩ := blk6 HG3.out
          have hgb3 := blk_lt HG3.out
          by_cases e1 : c.head.s = gt.t.s
          · by_cases e2 : c.head.args.length = gt.t.args.length
            · have hma2 := hid (HMA.out.trans (if_pos ⟨e1, e2⟩))
              have e1' : (c.head.s.toList == gt.t.s.toList) = true := by simp [e1]
              have e2' : ((c.head.args.length : Int) == (gt.t.args.length : Int)) = true := by simp; omega
              clear e1 e2
              go_quiet (fail)
              have HBQ := hid (show Below W3.heap.size W3 (W3.drewN nq) from ⟨rfl, rfl, rfl, Nat.le_refl _, fun _ _ => rfl⟩)
              have HB4 := hid (HB3.out.trans (HBQ.out.mono HB3.out.size))
              have HX4 := hid (blk_below HX3.out HBQ.out)
              have hz4 : (W3.drewN nq).heap.size ≤ W3.heap.size := Nat.le_refl _
              have hz4' : W3.heap.size ≤ (W3.drewN nq).heap.size := Nat.le_refl _
              generalize W3.drewN nq = W4 at *
              clear q0 q1 q2 q3 q4 q5 qf g00 g01 g02 g03 g04 g05 gf e1' e2' HG3 HX3 HBQ hcbl
              obtain ⟨q0, q1, q2, q3, q4, q5, qf⟩ := blk6 HX4.out
              have HO4 := hid (HO.out.below Cl.rep_lasts HB4.out)
              have hcbl := blk_lt HX4.out
              have HN := hid (show Cl.rep (fun b => PA g ov1 b ∧ ownB (.slice va mine.length vc) ≠ some b) W4 c [_, _, _, _, _, _] from Cl.rep_lasts.1 _ _ _ _ _ (Cl.rep_lasts.2.1 _ _ _ _ _ HR.out fun b hb h => ⟨fun hp => by have := (HU2.out.pm_lt b hp).1; omega, fun e => by have := (HO.out.lt b e).1; omega⟩) (Keeps.of_below HB4.out))
              have HL := hid (show mine.length < 4194304 ∧ W2.heap.size ≤ W4.heap.size by omega)
              go_wp2_with (at_builtin; go_must (refine wpList_app1 rfl (.tmp 79) (.tmp 81) 32 rfl W2.heap.size 39 6 88 tyClause Cl.rep_lasts (A := PA g ov1) (.slice va mine.length vc) mine rfl HO4.out c [_, _, _, _, _, _] (by rfl) rfl HN.out HL.out ?_); go_must (intro v' w2 hown2 hgrew))
              go_roundw
              case rel => exact ⟨j + 1, by omega, by go_num, hgrew.below ((HB.out.trans (HB4.out.mono hz)).alloc (by omega) _) (by simp; omega) (fun b hb => (HO.out.lt b hb).1), by rw [hma2.out]; exact hown2⟩
              case measure => simp [intOf]; omega
            · have hma2 := hid (HMA.out.trans (if_neg (fun h => e2 h.2)))
              have e2' : ((c.head.args.length : Int) == (gt.t.args.length : Int)) = false := by simp; omega
              rw [e1] at q2
              clear e1 e2
              go_quiet (fail)
              have HBQ := hid (show Below W3.heap.size W3 (W3.drewN nq) from ⟨rfl, rfl, rfl, Nat.le_refl _, fun _ _ => rfl⟩)
              have HB4 := hid (HB3.out.trans (HBQ.out.mono HB3.out.size))
              generalize W3.drewN nq = W4 at *
              go_wp2_with fail
              go_roundw
              case rel => exact ⟨j + 1, by omega, by go_num, HB.out.trans (HB4.out.mono hz), by rw [hma2.out]; exact HO.out.below Cl.rep_lasts HB4.out⟩
              case measure => simp [intOf]; omega
          · have hma2 := hid (HMA.out.trans (if_neg (fun h => e1 h.1)))
            have e1' := toList_neS e1
            clear e1
            go_quiet (fail)
            have HBQ := hid (show Below W3.heap.size W3 (W3.drewN nq) from ⟨rfl, rfl, rfl, Nat.le_refl _, fun _ _ => rfl⟩)
            have HB4 := hid (HB3.out.trans (HBQ.out.mono HB3.out.size))
            generalize W3.drewN nq = W4 at *
            go_wp2_with fail
            go_roundw
            case rel => exact ⟨j + 1, by omega, by go_num, HB.out.trans (HB4.out.mono hz), by rw [hma2.out]; exact HO.out.below Cl.rep_lasts HB4.out⟩
            case measure => simp [intOf]; omega
        · have : j = P.length := by omega
          subst this
          have hmi : (P.take P.length).filter (fun c => decide (likeF c.head gt.t)) = mineR P gt.t 0 := by rw [List.take_length]; rfl
          rw [hmi] at HO ⊢
          have hml : (mineR P gt.t 0).length ≤ 24 := by rw [← hmi, List.take_length]; have := List.length_filter_le (fun c => decide (likeF c.head gt.t)) P; omega
          have HMM := hid (HO.out.sl Cl.rep_lasts (by omega) (fun b hb hp => by have := (HU2.out.pm_lt b hp).2; omega))
          by_cases hm0 : mineR P gt.t 0 = []
          · have hml0 : (mineR P gt.t 0).length = 0 := by rw [hm0]; rfl
            have hres := hid (hres1.out.trans (if_pos hm0))
            rw [hml0]
            clear hml0
            go_wp2_with fail
            refine (pend_ok 5 (by unfold I64; omega) (HU2.out.below HB.out) (by have := HIN1.out.out; omega)).mono ?_
            rintro e w9 ⟨rfl, hst⟩
            have HST := hid (HST2.out _ _ (PStep.trans (Ch.of_below HB.out) (fun b h => .inl h) hst))
            clear hst
            go_wp2_with fail
            go_ret
            rw [hres.out]
            exact ⟨rfl, HST.out⟩
          have hres := hid (hres1.out.trans (if_neg hm0))
          have hml0 : 0 < (mineR P gt.t 0).length := List.length_pos_iff.2 hm0
          have hcl := HIN1.out.calls
          have hmle : (((mineR P gt.t 0).length : Int) == 0) = false := by simp; omega
          have hUj := HU2.out.below HB.out
          have HUj := hid hUj
          obtain ⟨b0, b1, b2, b3, b4, b5, b6, bf⟩ := box7 hUj.box
          have hglj := hUj.lt.1
          clear hUj hm0
          go_wp2_with fail
          obtain ⟨p2, hp2⟩ : ∃ p2 : Pv, p2 = { p1 with calls := p1.calls + 1 } := ⟨_, rfl⟩
          obtain ⟨W3, hW3⟩ : ∃ W3, W3 = wr.setCell ⟨g, 6, none⟩ (.int .i64 ((p1.calls : Int) + 1)) := ⟨_, rfl⟩
          have hfu1 := HUj.out.fu
          have HSET := HUj.out.set (p' := p2) 6 (.int .i64 ((p1.calls : Int) + 1)) ((blk_set HUj.out.box 6 _).trans (by rw [hp2]; rfl)) (by rw [hp2]) (by rw [hp2]; exact HUj.out.v0) (by rw [hp2]; exact HUj.out.v1) (by rw [hp2]; exact HUj.out.fu) (by rw [hp2]; simp only; omega)
          rw [← hW3] at HSET ⊢
          obtain ⟨ov2, hpv2, hch2, hot2⟩ := HSET
          obtain ⟨hm1, hm2⟩ := pa_mid hch2 hot2
          have hgbj : gb < wr.heap.size := blk_lt HGj.out
          have HG := hid (blk_keeps HGj.out hm1 ⟨HGA.out, hgbj⟩)
          have HGA2 := hid (hm2 gb ⟨HGA.out, hgbj⟩)
          have HGT := hid (Tm.rep_lasts.2.1 _ (PA g ov2) _ _ _ (Tm.rep_lasts.1 _ _ _ _ _ (Tm.rep_lasts.2.1 _ (fun b => PA g ov1 b ∧ b < wr.heap.size) _ _ _ (Tm.rep_lasts.1 _ _ _ _ _ HGR2.out (Keeps.of_below HB.out)) fun b hb h => ⟨h, hb⟩) hm1) fun b _ h => hm2 b h)
          have HRT := hid (TdQ.move (HR2.out.keeps (Keeps.of_below HB.out)) hch2 hot2)
          have HEQ := hid (EnvQ.move (HEV3.out.keeps (Keeps.of_below HB.out)) hch2 hot2)
          have HMQ := hid (ClsR.move HMM.out hch2 hot2)
          have HU3 := hid hpv2
          have HST3 := hid (fun (p' : Pv) (w' : World) (hh : PStep base P q g (.slice pa' P.length pc') ov2 p' W3 w') => HST2.out _ _ (PStep.trans (Ch.of_below HB.out) (fun b h => .inl h) (PStep.trans hch2 hot2 hh)))
          have hmg : ∀ c ∈ mineR P gt.t 0, c.Good := fun c hc => HP.out.2 c (mineR_mem hc)
          have HMG := hid hmg
          have HIN2 := hid (show p2.ended = false ∧ p2.out.length ≤ 11 ∧ (q : Int) ≤ p2.vars ∧ p2.calls + p2.fuel ≤ 150 ∧ p2.pot ≤ 99992 ∧ (∀ a ∈ gt :: rest, a.t.In p2.vars ∧ a.call ≤ 150) ∧ p2.fuel < k ∧ p2.calls = p1.calls + 1 ∧ EnvOk p2.vars E from by
            rw [hp2]
            refine ⟨HIN1.out.ended, HIN1.out.out, HIN1.out.qv, by simp only; omega, hpot1, HIN1.out.tds, hkf, rfl, HE1.out⟩)
          have hres2 := hid (show proveR P q (k + 1) (gt :: rest) E p = loopR (proveR P q k) gt.t rest E (p1.calls + 1) (mineR P gt.t 0) p2 by rw [hp2]; exact hres.out)
          have hgT := hid (HIN1.out.tds gt (by simp)).1
          generalize mineR P gt.t 0 = ms at *
          have hcl0 : (0 : Int) ≤ (p1.calls : Int) := Int.natCast_nonneg _
          have hcl1 : (p1.calls : Int) + 1 ≤ 150 := by omega
          clear hp2 hW3 hpv2 hch2 hot2 hm1 hm2 b0 b1 b2 b3 b4 b5 b6 bf hres hmg HMM HGj HUj HIN1 HE1 HEV3 HR2 HG2 HGR2 HST2 HU2 hfu1 hcl HO
          go_loopw [102, 12, 13, 14, 15, 16, 17, 18, 19] (fun i102 _ _ _ _ _ _ _ _ wr => ∃ (j : Nat) (p' : Pv), j ≤ ms.length ∧ i102 = .int .i64 (j : Int) ∧ PStep base P q g (.slice pa' P.length pc') ov2 p' W3 wr ∧ (p'.ended = false ∧ p'.out.length ≤ 11 ∧ p2.vars ≤ p'.vars ∧ p'.fuel < k ∧ p'.calls + p'.fuel ≤ 150 ∧ p'.pot ≤ 99992) ∧ loopR (proveR P q k) gt.t rest E (p1.calls + 1) ms p2 = loopR (proveR P q k) gt.t rest E (p1.calls + 1) (ms.drop j) p') (fun i102 _ _ _ _ _ _ _ _ _ => ms.length - (intOf i102).toNat)
          case atStart =>
            obtain ⟨i1, i2, i3, i4, i5, i6, i7, i8, i9⟩ := HIN2.out
            exact ⟨0, p2, Nat.zero_le _, rfl, PStep.refl HU3.out, ⟨i1, i2, Int.le_refl _, i7, i4, i5⟩, by rw [List.drop_zero]⟩
          case round =>
            obtain ⟨wo, rfl⟩ : ∃ wo : World, wo = wr := ⟨_, rfl⟩
            obtain ⟨j, p', hj, rfl, ⟨ov', hpv, hch, hot⟩, hnum, hlr⟩ := hrel
            have HU := hid hpv
            have HLR := hid hlr
            have HNUM := hid hnum
            have HSJ := hid (fun (p9 : Pv) (w' : World) (hh : PStep base P q g (.slice pa' P.length pc') ov' p9 wo w') => (PStep.trans hch hot hh : PStep base P q g (.slice pa' P.length pc') ov2 p9 W3 w'))
            obtain ⟨hm1, hm2⟩ := pa_mid hch hot
            have hgb3 : gb < W3.heap.size := blk_lt HG.out
            have HGo := hid (blk_keeps HG.out hm1 ⟨HGA2.out, hgb3⟩)
            have HGAo := hid (hm2 gb ⟨HGA2.out, hgb3⟩)
            have HGTo := hid (Tm.rep_lasts.2.1 _ (PA g ov') _ _ _ (Tm.rep_lasts.1 _ _ _ _ _ (Tm.rep_lasts.2.1 _ (fun b => PA g ov2 b ∧ b < W3.heap.size) _ _ _ HGT.out fun b hb h => ⟨h, hb⟩) hm1) fun b _ h => hm2 b h)
            have HRTo := hid (HRT.out.move hch hot)
            have HEQo := hid (HEQ.out.move hch hot)
            have HMQo := hid (HMQ.out.move hch hot)
            have hz3 := hch.size
            have hjj : (0 : Int) ≤ (j : Int) := Int.natCast_nonneg _
            have hglo := hpv.lt.1
            clear hpv hch hot hnum hlr hm1 hm2
            by_cases hlt : j < ms.length
            rotate_left
            · have hr9 := hid (show loopR (proveR P q k) gt.t rest E (p1.calls + 1) ms p2 = (-1, p') by rw [HLR.out, List.drop_eq_nil_of_le (by omega), loopR])
              go_wp2_with fail
              go_ret
              rw [hres2.out, hr9.out]
              exact ⟨rfl, HST3.out _ _ (HSJ.out _ _ (PStep.refl HU.out))⟩
            have hlt' : (j : Int) < (ms.length : Int) := by omega
            obtain ⟨_, _, mb, moff, e9, -, -, -, hma, hme⟩ := SlR.at HMQo.out
            simp only [Value.slice.injEq, true_and] at e9
            obtain ⟨rfl, rfl⟩ := e9
            obtain ⟨rfl, hmb⟩ := hma (by omega)
            obtain ⟨ha, hca, ba, bca, c0, c1, c2, c3, c4, c5, hr⟩ := cl_cells hme hmb (Keeps.refl _ _) hlt
            have hmbl := World.block_lt_of_cell? wo _ c0
            simp only at hmbl
            have HCG := hid (HMG.out _ (List.getElem_mem hlt))
            have HLR1 := hid (show loopR (proveR P q k) gt.t rest E (p1.calls + 1) ms p2 = loopR (proveR P q k) gt.t rest E (p1.calls + 1) (ms[j] :: ms.drop (j + 1)) p' by rw [HLR.out, List.drop_eq_getElem_cons hlt])
            obtain ⟨c, hcc⟩ : ∃ c, c = ms[j] := ⟨_, rfl⟩
            rw [← hcc] at c0 c1 c2 c3 c4 c5 hr HCG HLR1
            have HR := hid hr
            clear hr hcc hma hme HLR
            have hcv0 : 0 ≤ c.vars := HCG.out.1.1
            have hcv8 : c.vars ≤ 8 := HCG.out.1.2.1
            have hpv0 := HU.out.v0
            have hpv1 : p'.vars ≤ 99992 := by
              have h1 := HNUM.out.2.2.2.2.2
              unfold Pv.pot at h1
              have h2 : (0 : Int) ≤ ((p'.fuel + (12 - p'.out.length) : Nat) : Int) := Int.natCast_nonneg _
              omega
            obtain ⟨b0, b1, b2, b3, b4, b5, b6, bf⟩ := box7 HU.out.box
            go_wp2_with fail
            obtain ⟨W4, hW4⟩ : ∃ W4, W4 = wo.alloc (.cells #[.int .i64 c.head.kind, .int .i64 c.head.n, .string c.head.s, .slice ha c.head.args.length hca, .slice ba c.body.length bca, .int .i64 c.vars] 39) := ⟨_, rfl⟩
            have HB4 := hid (show Below wo.heap.size wo W4 by rw [hW4]; exact (Below.refl _ _).alloc (Nat.le_refl _) _)
            have HX4 := hid (show W4.heap[wo.heap.size]? = some (.cells #[.int .i64 c.head.kind, .int .i64 c.head.n, .string c.head.s, .slice ha c.head.args.length hca, .slice ba c.body.length bca, .int .i64 c.vars] 39 (0, 0)) by rw [hW4]; exact blk_new _ _)
            obtain ⟨cb, hcb⟩ : ∃ cb, cb = wo.heap.size := ⟨_, rfl⟩
            have hcbl := blk_lt HX4.out
            rw [← hcb] at HX4 hcbl
            rw [← hcb, ← hW4]
            have hcbo : wo.heap.size ≤ cb := by omega
            have hcbo2 : cb ≤ wo.heap.size := by omega
            clear hW4 hcb b0 b1 b2 b3 b4 b5 b6 bf c0 c1 c2 c3 c4 c5
            have HHR := hid (show Tm.rep (PA g ov') W4 c.head [.int .i64 c.head.kind, .int .i64 c.head.n, .string c.head.s, .slice ha c.head.args.length hca] by
              obtain ⟨_, _, _, _, e, h1, -⟩ := HR.out
              simp only [List.cons.injEq, Value.slice.injEq, and_true, true_and] at e
              obtain ⟨⟨rfl, rfl⟩, -⟩ := e
              exact Tm.rep_lasts.1 _ _ _ _ _ h1 (Keeps.of_below HB4.out))
            have HBR := hid (show TmsR (PA g ov') wo c.body (.slice ba c.body.length bca) by
              obtain ⟨_, _, _, _, e, -, h1, -⟩ := HR.out
              simp only [List.cons.injEq, Value.slice.injEq, and_true, true_and] at e
              obtain ⟨-, rfl, rfl⟩ := e
              exact h1)
            have HU4 := hid (HU.out.below HB4.out)
            have HG4 := hid (blk_below HGo.out HB4.out)
            have hz4 := HB4.out.size
            obtain ⟨b0, b1, b2, b3, b4, b5, b6, bf⟩ := box7 HU4.out.box
            go_wp2_with fail
            refine wp_region_F (F := fun _ w' => Below W4.heap.size W4 w') (by kernel_rfl) ?_
            have HF : Below W4.heap.size W4 W4.drew := (Below.refl _ _).drew
            refine wpAnyF_take (i := 0) (v := ?_) rfl (by kernel_rfl) (by kernel_rfl) (by kernel_rfl) (fun _ _ _ h => h) (Or.inl ⟨by rfl, ?_⟩) HF ?_
            rotate_left
            · (intro w' hw; clear hw; go_simp <;> with_reducible rfl)
            try simp only [Act.put, List.setIfInBounds_toArray, List.set_cons_zero, List.set_cons_succ]
            refine wpAnyF_take (i := 1) (v := ?_) rfl (by kernel_rfl) (by kernel_rfl) (by kernel_rfl) (fun _ _ _ h => h) (Or.inl ⟨by rfl, ?_⟩) HF ?_
            rotate_left
            · (intro w' hw; clear hw; go_simp <;> with_reducible rfl)
            try simp only [Act.put, List.setIfInBounds_toArray, List.set_cons_zero, List.set_cons_succ]
            refine wpAnyF_take (i := 2) (v := .agg #[.int .i64 c.head.kind, .int .i64 c.head.n, .string c.head.s, .slice ha c.head.args.length hca]) rfl (by kernel_rfl) (by kernel_rfl) (by kernel_rfl) (fun _ _ _ h => h) (Or.inl ⟨by rfl, ?_⟩) HF ?_
            · (intro w' hw; obtain ⟨f0, f1, f2, f3, f4, f5, -⟩ := blk6 (blk_below HX4.out hw); clear hw; go_simp)
            try simp only [Act.put, List.setIfInBounds_toArray, List.set_cons_zero, List.set_cons_succ]
            refine wpAnyF_take (i := 3) (v := ?_) rfl (by kernel_rfl) (by kernel_rfl) (by kernel_rfl) (fun _ _ _ h => h) (Or.inl ⟨by rfl, ?_⟩) HF ?_
            rotate_left
            · (intro w' hw; clear hw; go_simp <;> with_reducible rfl)
            try simp only [Act.put, List.setIfInBounds_toArray, List.set_cons_zero, List.set_cons_succ]
            refine wpAnyF_take (i := 5) (v := ?_) rfl (by kernel_rfl) (by kernel_rfl) (by kernel_rfl) (fun _ _ _ h => h) (Or.inl ⟨by rfl, ?_⟩) HF ?_
            rotate_left
            · (intro w' hw; clear hw; go_simp <;> with_reducible rfl)
            try simp only [Act.put, List.setIfInBounds_toArray, List.set_cons_zero, List.set_cons_succ]
            refine wpAnyF_take (i := 6) (v := ?_) rfl (by kernel_rfl) (by kernel_rfl) (by kernel_rfl) (fun _ _ _ h => h) (Or.inl ⟨by rfl, ?_⟩) HF ?_
            rotate_left
            · (intro w' hw; clear hw; go_simp <;> with_reducible rfl)
            try simp only [Act.put, List.setIfInBounds_toArray, List.set_cons_zero, List.set_cons_succ]
            refine wpAnyF_take (i := 7) (v := ?_) rfl (by kernel_rfl) (by kernel_rfl) (by kernel_rfl) (fun _ _ _ h => h) (Or.inl ⟨by rfl, ?_⟩) HF ?_
            rotate_left
            · (intro w' hw; clear hw; go_simp <;> with_reducible rfl)
            try simp only [Act.put, List.setIfInBounds_toArray, List.set_cons_zero, List.set_cons_succ]
            refine wpAnyF_take (i := 8) (v := .agg #[.int .i64 gt.t.kind, .int .i64 gt.t.n, .string gt.t.s, .slice ga gt.t.args.length gcap]) rfl (by kernel_rfl) (by kernel_rfl) (by kernel_rfl) (fun _ _ _ h => h) (Or.inl ⟨by rfl, ?_⟩) HF ?_
            · (intro w' hw; obtain ⟨f0, f1, f2, f3, f4, f5, -⟩ := blk6 (blk_below HG4.out hw); clear hw; go_simp)
            try simp only [Act.put, List.setIfInBounds_toArray, List.set_cons_zero, List.set_cons_succ]
            clear HF
            refine wpAnyF_one (i := 4) (by kernel_rfl) (wpOp_run rfl (by rfl) ?_)
            go_simp
            have HVS := hid (show I64 p'.vars by unfold I64; omega)
            have HND := hid (show c.head.nodes ≤ 4194304 from by have := HCG.out.2.2.1.2; omega)
            refine (shifted_ok c.head p'.vars HVS.out HND.out (PA g ov') W4.drew [_, _, _, _] (Tm.rep_lasts.1 _ _ _ _ _ HHR.out (Keeps.drew _ _))).mono ?_
            rintro e W5 ⟨r, rfl, hb5, us, rfl, hsr⟩
            have HB5 := hid (show Below W4.heap.size W4 W5 from ((Below.refl _ W4).drew).trans hb5)
            have HSR := hid hsr
            obtain ⟨sha, shc, rfl, -⟩ := Tm.rep4 hsr
            clear hb5 hsr b0 b1 b2 b3 b4 b5 b6 bf
            refine ⟨fun _ _ _ => HB5.out, ?_⟩
            refine wpAnyF_one (i := 9) (by kernel_rfl) (wpOp_run rfl (by rfl) ?_)
            go_simp
            have hz5 := HB5.out.size
            have HBo5 := hid (HB4.out.trans (HB5.out.mono hz4))
            have HAI := hid (show (shiftF c.head p'.vars).In (p'.vars + c.vars) from shiftF_in HCG.out.2.2.1.1 hcv8 hpv0 (by omega))
            have HBI := hid (show gt.t.In (p'.vars + c.vars) from Tm.In.mono ((HIN2.out.2.2.2.2.2.1 gt (by simp)).1) (by have := HNUM.out.2.2.1; omega))
            have HEI := hid (show EnvOk (p'.vars + c.vars) E from HIN2.out.2.2.2.2.2.2.2.2.mono (by have := HNUM.out.2.2.1; omega))
            have HRA := hid (show Tm.rep (PA g ov') W5 (shiftF c.head p'.vars) _ from Tm.rep_lasts.2.1 _ _ _ _ _ HSR.out fun b _ hb => by
              have hb' : W4.heap.size ≤ b := hb
              intro hs
              have := (HU4.out.pm_lt b hs).2
              omega)
            refine (one_ok HEI.out (shiftF c.head p'.vars) gt.t HAI.out HBI.out (PA g ov') W5 _ [_, _, _, _] [_, _, _, _] (HEQo.out.keeps (Keeps.of_below HBo5.out)) HRA.out (Tm.rep_lasts.1 _ _ _ _ _ HGTo.out (Keeps.of_below HBo5.out))).mono ?_
            rintro e W6 ⟨uv, rfl, hb6, hq6⟩
            have HB6 := hid (show Below W4.heap.size W4 W6 from HB5.out.trans (hb6.mono hz5))
            have HUE := hid (uniS_env (N := p'.vars + c.vars) 400 [(shiftF c.head p'.vars, gt.t)] E HEI.out (by intro x hx; simp only [List.mem_singleton] at hx; subst hx; exact ⟨HAI.out, HBI.out⟩)).1
            rw [loopR] at HLR1
            simp only at HLR1
            generalize uniS 400 [(shiftF c.head p'.vars, gt.t)] E = u at *
            obtain ⟨uo, ue, uw⟩ := u
            obtain ⟨up, rfl⟩ := hq6.ptr
            have HQ6 := hid (hq6.mono (A' := PA g ov') (fun b _ h => h.elim id (fun h hp => by have := (HU4.out.pm_lt b hp).2; omega)))
            have HBo6 := hid (HB4.out.trans (HB6.out.mono hz4))
            have HX6 := hid (blk_below HX4.out HB6.out)
            have HG6 := hid (blk_below HGo.out HBo6.out)
            have HU6 := hid (HU.out.below HBo6.out)
            have HRT6 := hid (HRTo.out.keeps (Keeps.of_below HBo6.out))
            have hz6 := HB6.out.size
            clear hb6 hq6
            simp only at *
            refine ⟨fun _ _ _ => HB6.out, ?_⟩
            refine wpAnyF_one (i := 10) (by kernel_rfl) (wpOp_run rfl (by rfl) ?_)
            go_simp
            refine ⟨fun _ _ _ => HB6.out, ?_⟩
            have HF := HB6.out
            refine wpAnyF_take (i := 11) (v := ?_) rfl (by kernel_rfl) (by kernel_rfl) (by kernel_rfl) (fun _ _ _ h => h) (Or.inl ⟨by rfl, ?_⟩) HF ?_
            rotate_left
            · (intro w' hw; clear hw; go_simp <;> with_reducible rfl)
            try simp only [Act.put, List.setIfInBounds_toArray, List.set_cons_zero, List.set_cons_succ]
            refine wpAnyF_take (i := 12) (v := ?_) rfl (by kernel_rfl) (by kernel_rfl) (by kernel_rfl) (fun _ _ _ h => h) (Or.inl ⟨by rfl, ?_⟩) HF ?_
            rotate_left
            · (intro w' hw; clear hw; go_simp <;> with_reducible rfl)
            try simp only [Act.put, List.setIfInBounds_toArray, List.set_cons_zero, List.set_cons_succ]
            refine wpAnyF_take (i := 13) (v := ?_) rfl (by kernel_rfl) (by kernel_rfl) (by kernel_rfl) (fun _ _ _ h => h) (Or.inl ⟨by rfl, ?_⟩) HF ?_
            rotate_left
            · (intro w' hw; clear hw; go_simp <;> with_reducible rfl)
            try simp only [Act.put, List.setIfInBounds_toArray, List.set_cons_zero, List.set_cons_succ]
            clear HF
            refine wpAnyF_one (i := 14) (by kernel_rfl) (wpOp_run rfl (by rfl) ?_)
            go_simp
            refine ⟨fun _ _ _ => HB6.out, ?_⟩
            refine wpAnyF_one (i := 15) (by kernel_rfl) (wpOp_run rfl (by rfl) ?_)
            go_simp
            refine ⟨fun _ _ _ => HB6.out, ?_⟩
            refine wpAnyF_one (i := 16) (by kernel_rfl) (wpOp_run rfl (by rfl) ?_)
            go_simp
            refine ⟨fun _ _ _ => HB6.out, wpAnyF_done (by kernel_rfl) ?_ _⟩
            have HS6 := hid (fun (p9 : Pv) (w' : World) (hh : PStep base P q g (.slice pa' P.length pc') ov' p9 W6 w') => HSJ.out _ _ (PStep.trans (Ch.of_below HBo6.out) (fun b h => .inl h) hh))
            by_cases hw0 : uw < 0
            · have hr9 := hid (show loopR (proveR P q k) gt.t rest E (p1.calls + 1) ms p2 = (-1, p'.put 4) by rw [HLR1.out, if_pos hw0])
              go_wp2_with fail
              refine (pend_ok 4 (by unfold I64; omega) HU6.out (by have := HNUM.out.2.1; omega)).mono ?_
              rintro e W9 ⟨rfl, hst⟩
              have HST := hid (HST3.out _ _ (HS6.out _ _ hst))
              clear hst
              go_wp2_with fail
              go_ret
              rw [hres2.out, hr9.out]
              exact ⟨rfl, HST.out⟩
            have HLR2 := hid (HLR1.out.trans (if_neg hw0))
            clear HLR1
            cases uo with
            | false =>
              have hr9 := hid (HLR2.out.trans (if_pos rfl))
              go_wp2_with fail
              go_roundw
              case rel => exact ⟨j + 1, p', by omega, by go_num, HS6.out _ _ (PStep.refl HU6.out), HNUM.out, hr9.out⟩
              case measure => simp [intOf]; omega
            | true =>
              have HLR3 := hid (HLR2.out.trans (if_neg (by simp)))
              clear HLR2
              obtain ⟨b0, b1, b2, b3, b4, b5, b6, bf⟩ := box7 HU6.out.box
              obtain ⟨q0, q1, q2, q3, q4, q5, qf⟩ := blk6 HX6.out
              have hgl6 := HU6.out.lt.1
              have hcb6 := blk_lt HX6.out
              go_wp2_with fail
              have hbl5 : (c.body.length : Int) ≤ 5 := by have := HCG.out.1.2.2.1; omega
              have hbl0 : (0 : Int) ≤ (c.body.length : Int) := Int.natCast_nonneg _
              have hvb : p'.vars + c.vars ≤ 100000 := by omega
              have hvb0 : 0 ≤ p'.vars + c.vars := by omega
              go_still_tail 9, (by kernel_rfl)
              change wpList _ _ _ _ _ W6.drew
              have HBd := hid (show Below W6.heap.size W6 W6.drew from (Below.refl _ _).drew)
              generalize W6.drew = Wd at *
              clear q0 q1 q2 q3 q4 q5 qf b0 b1 b2 b3 b4 b5 b6 bf
              have HUd := hid (HU6.out.below HBd.out)
              have HXd := hid (blk_below HX6.out HBd.out)
              have HGd := hid (blk_below HG6.out HBd.out)
              have hzd := HBd.out.size
              obtain ⟨b0, b1, b2, b3, b4, b5, b6, bf⟩ := box7 HUd.out.box
              obtain ⟨q0, q1, q2, q3, q4, q5, qf⟩ := blk6 HXd.out
              obtain ⟨g00, g01, g02, g03, g04, g05, gf⟩ := blk6 HGd.out
              have hgld := HUd.out.lt.1
              have hcbd := blk_lt HXd.out
              have hgbd := blk_lt HGd.out
              have hcbg : cb ≠ g := by omega
              have hcbg' : g ≠ cb := by omega
              have hgbg : gb ≠ g := fun e => HGAo.out (.inl e)
              have hgbg' : g ≠ gb := fun e => hgbg e.symm
              go_wp2_with fail
              obtain ⟨W7, hW7⟩ : ∃ W7, W7 = Wd.setCell ⟨g, 3, none⟩ (.int .i64 (p'.vars + c.vars)) := ⟨_, rfl⟩
              obtain ⟨p3, hp3⟩ : ∃ p3 : Pv, p3 = { p' with vars := p'.vars + c.vars } := ⟨_, rfl⟩
              have HSET := HUd.out.set (p' := p3) 3 (.int .i64 (p'.vars + c.vars)) ((blk_set HUd.out.box 3 _).trans (by rw [hp3]; rfl)) (by rw [hp3]) (by rw [hp3]; exact hvb0) (by rw [hp3]; simp only; omega) (by rw [hp3]; exact HUd.out.fu) (by rw [hp3]; exact HUd.out.cl)
              rw [← hW7] at HSET ⊢
              obtain ⟨ov3, hpv3, hch3, hot3⟩ := HSET
              obtain ⟨hm1, hm2⟩ := pa_mid hch3 hot3
              have hpacb : PA g ov' cb := fun hp => by have := (HU.out.pm_lt cb hp).2; omega
              have HX7 := hid (blk_keeps HXd.out hm1 ⟨hpacb, hcbd⟩)
              have HQ7 := hid (EnvQ.move (HQ6.out.keeps (Keeps.of_below HBd.out)) hch3 hot3)
              have HRT7 := hid (TdQ.move (HRT6.out.keeps (Keeps.of_below HBd.out)) hch3 hot3)
              have HBR7 := hid (show TmsR (PA g ov3) W7 c.body (.slice ba c.body.length bca) from SlR.mono Tm.rep_lasts (by omega) (SlR.keeps Tm.rep_lasts (SlR.mono (A' := fun b => PA g ov' b ∧ b < Wd.heap.size) Tm.rep_lasts (by omega) (SlR.keeps Tm.rep_lasts HBR.out (Keeps.of_below (HBo6.out.trans (HBd.out.mono (by omega))))) fun b hb hA => ⟨hA, hb⟩) hm1) fun b _ hb => hm2 b hb)
              have HU7 := hid hpv3
              have HS7 := hid (fun (p9 : Pv) (w' : World) (hh : PStep base P q g (.slice pa' P.length pc') ov3 p9 W7 w') => HS6.out _ _ (PStep.trans (Ch.of_below HBd.out) (fun b h => .inl h) (PStep.trans hch3 hot3 hh)))
              have HLR4 := hid (show loopR (proveR P q k) gt.t rest E (p1.calls + 1) ms p2 = (if (proveR P q k (bodyT (p1.calls + 1) p'.vars c.body rest) ue p3).2.ended = true then (-1, (proveR P q k (bodyT (p1.calls + 1) p'.vars c.body rest) ue p3).2)
                else if (proveR P q k (bodyT (p1.calls + 1) p'.vars c.body rest) ue p3).1 = ((p1.calls + 1 : Nat) : Int) then (-1, (proveR P q k (bodyT (p1.calls + 1) p'.vars c.body rest) ue p3).2)
                else if (proveR P q k (bodyT (p1.calls + 1) p'.vars c.body rest) ue p3).1 ≥ 0 then proveR P q k (bodyT (p1.calls + 1) p'.vars c.body rest) ue p3
                else loopR (proveR P q k) gt.t rest E (p1.calls + 1) (ms.drop (j + 1)) (proveR P q k (bodyT (p1.calls + 1) p'.vars c.body rest) ue p3).2) by rw [hp3]; exact HLR3.out)
              have HN3 := hid (show p3.ended = false ∧ p3.out.length ≤ 11 ∧ (q : Int) ≤ p3.vars ∧ p3.fuel < k ∧ p3.calls + p3.fuel ≤ 150 ∧ p3.pot ≤ 100000 ∧ p3.vars = p'.vars + c.vars ∧ p2.vars ≤ p'.vars ∧ p3.pot = p'.pot + c.vars by
                obtain ⟨n1, n2, n3, n4, n5, n6⟩ := HNUM.out
                have n7 := HIN2.out.2.2.1
                rw [hp3]
                refine ⟨n1, n2, by simp only; omega, n4, n5, ?_, rfl, n3, ?_⟩ <;> unfold Pv.pot at n6 ⊢ <;> simp only <;> omega)
              have HUE3 := hid (show EnvOk p3.vars ue by rw [hp3]; exact HUE.out)
              have hz7 := hch3.size
              clear HLR3 hp3 hW7 hpv3 hch3 hot3 hm1 hm2 b0 b1 b2 b3 b4 b5 b6 bf q0 q1 q2 q3 q4 q5 qf g00 g01 g02 g03 g04 g05 gf
              go_loopw [17, 18] (fun i17 i18 wi => ∃ (i : Nat) (v : Value), i ≤ c.body.length ∧ i17 = v ∧ i18 = .int .i64 ((i : Int) - 1) ∧ Below W7.heap.size W7 wi ∧ TdQ (PA g ov3) wi (bodyT (p1.calls + 1) p'.vars (c.body.drop i) rest) v) (fun _ i18 _ => (intOf i18 + 1).toNat)
              case atStart => exact ⟨c.body.length, rv, Nat.le_refl _, rfl, rfl, Below.refl _ _, by rw [List.drop_length]; exact HRT7.out⟩
              case round =>
                obtain ⟨i, v, hi, rfl, rfl, hbl, htd⟩ := hrel
                have HBL := hid hbl
                have HTD := hid htd
                have hzl := hbl.size
                obtain ⟨vp, hvp⟩ := htd.ptr
                have hsvl := HU7.out.below hbl
                have HUL := hid hsvl
                have HXL := hid (blk_below HX7.out hbl)
                obtain ⟨b0, b1, b2, b3, b4, b5, b6, bf⟩ := box7 hsvl.box
                obtain ⟨q0, q1, q2, q3, q4, q5, qf⟩ := blk6 HXL.out
                have hgll := hsvl.lt.1
                have hcbll := blk_lt HXL.out
                subst hvp
                clear hbl htd hsvl
                by_cases hi0 : i = 0
                · subst hi0
                  rw [List.drop_zero] at HTD
                  rw [show ((0 : Nat) : Int) - 1 = -1 by omega]
                  have HN3' := HN3.out
                  obtain ⟨n1, n2, n3, n4, n5, n6, n7, n8, n9⟩ := HN3'
                  have HPI := hid (show PrIn q (bodyT (p1.calls + 1) p'.vars c.body rest) p3 from ⟨n1, n2, n3, n5, n6, fun a ha => by
                    unfold bodyT at ha
                    rcases List.mem_append.1 ha with ha | ha
                    · obtain ⟨t, ht, rfl⟩ := List.mem_map.1 ha
                      refine ⟨?_, by simp only; omega⟩
                      rw [n7]
                      exact shiftF_in (HCG.out.1.2.2.2 t ht).2.1 hcv8 hpv0 (by omega)
                    · obtain ⟨h1, h2⟩ := HIN2.out.2.2.2.2.2.1 a (by simp [ha])
                      exact ⟨h1.mono (by rw [n7]; omega), h2⟩⟩)
                  have HBN := hid (proveR_bnd (P := P) (q := q) (fun c hc => ⟨(HP.out.2 c hc).1.1, (HP.out.2 c hc).1.2.1⟩) k p3.fuel n4 (bodyT (p1.calls + 1) p'.vars c.body rest) ue p3 n1 n2 (Nat.le_refl _))
                  clear n1 n2 n3 n5 n6 n7 n8 n9
                  go_wp2_with fail
                  refine (HIH.out (bodyT (p1.calls + 1) p'.vars c.body rest) ue p3 wr ov3 _ _ n4 HPI.out HUE3.out HUL.out HTD.out (HQ7.out.keeps (Keeps.of_below HBL.out))).mono ?_
                  rintro e W9 ⟨rfl, hst⟩
                  generalize proveR P q k (bodyT (p1.calls + 1) p'.vars c.body rest) ue p3 = r at *
                  obtain ⟨ri, rp⟩ := r
                  have HS9 := hid (show PStep base P q g (.slice pa' P.length pc') ov2 rp W3 W9 from HS7.out _ _ (PStep.trans (Ch.of_below HBL.out) (fun b h => .inl h) hst))
                  obtain ⟨ov4, hpv4, -, -⟩ := hst
                  clear b0 b1 b2 b3 b4 b5 b6 bf q0 q1 q2 q3 q4 q5 qf
                  obtain ⟨b0, b1, b2, b3, b4, b5, b6, bf⟩ := box7 hpv4.box
                  have hgl9 := hpv4.lt.1
                  clear hpv4
                  have HLR5 := hid HLR4.out
                  simp only at HLR5 HBN
                  obtain ⟨re, hre⟩ : ∃ re, re = rp.ended := ⟨_, rfl⟩
                  rw [← hre] at b5 HLR5
                  cases re with
                  | true =>
                    have hr9 := hid (HLR5.out.trans (if_pos rfl))
                    clear hre
                    go_wp2_with fail
                    go_ret
                    rw [hres2.out, hr9.out]
                    exact ⟨rfl, HST3.out _ _ HS9.out⟩
                  | false =>
                    have HLR6 := hid (HLR5.out.trans (if_neg (by simp)))
                    have HON := hid (HBN.out.on hre.symm)
                    have HRE := hid hre.symm
                    clear hre
                    by_cases hcut : ri = (p1.calls : Int) + 1
                    · have hr9 := hid (HLR6.out.trans (if_pos (by omega)))
                      have hcut' : (ri == (p1.calls : Int) + 1) = true := by simpa using hcut
                      clear hcut
                      go_wp2_with fail
                      go_ret
                      rw [hres2.out, hr9.out]
                      exact ⟨rfl, HST3.out _ _ HS9.out⟩
                    · have HLR7 := hid (HLR6.out.trans (if_neg (by omega)))
                      have hcut' : (ri == (p1.calls : Int) + 1) = false := by simpa using hcut
                      clear hcut
                      by_cases hge : (0 : Int) ≤ ri
                      · have hr9 := hid (HLR7.out.trans (if_pos hge))
                        go_wp2_with fail
                        go_ret
                        rw [hres2.out, hr9.out]
                        exact ⟨rfl, HST3.out _ _ HS9.out⟩
                      · have hr9 := hid (HLR7.out.trans (if_neg (by omega)))
                        go_wp2_with fail
                        go_roundw
                        case rel =>
                          obtain ⟨o1, o2⟩ := HON.out
                          obtain ⟨v1, v2, v3, v4, v5, v6⟩ := HBN.out
                          obtain ⟨n1, n2, n3, n4, n5, n6, n7, n8, n9⟩ := HN3.out
                          exact ⟨j + 1, rp, by omega, by go_num, HS9.out, ⟨HRE.out, o1, by omega, by omega, by omega, by omega⟩, hr9.out⟩
                        case measure => simp [intOf]; omega
                · obtain ⟨jj, rfl⟩ : ∃ jj, i = jj + 1 := ⟨i - 1, by omega⟩
                  rw [show (((jj + 1 : Nat) : Int) - 1) = (jj : Int) by omega]
                  have hjl : jj < c.body.length := by omega
                  obtain ⟨_, _, bb, boff, e, -, -, -, hba, hbe⟩ := SlR.at HBR7.out
                  simp only [Value.slice.injEq, true_and] at e
                  obtain ⟨rfl, rfl⟩ := e
                  obtain ⟨rfl, hbb⟩ := hba (by omega)
                  obtain ⟨sa, sc, e0, e1, e2, e3, hre⟩ := tm_cells hbe hbb (Keeps.of_below HBL.out) hjl
                  have HRE := hid hre
                  have hjj0 : (0 : Int) ≤ (jj : Int) := Int.natCast_nonneg _
                  have hjj1 : (jj : Int) < (c.body.length : Int) := by omega
                  have hbbl : bb < wr.heap.size := World.block_lt_of_cell? wr _ e0
                  clear hba hbe hre hi0
                  go_wp2_with fail
                  have HND2 := hid (show c.body[jj].nodes ≤ 4194304 from by have := (HCG.out.1.2.2.2 c.body[jj] (List.getElem_mem hjl)).2.2; omega)
                  refine (shifted_ok c.body[jj] p'.vars HVS.out HND2.out (PA g ov3) wr [_, _, _, _] HRE.out).mono ?_
                  rintro e W10 ⟨r, rfl, hb10, us10, rfl, hsr10⟩
                  have HB10 := hid hb10
                  have HS10 := hid hsr10
                  obtain ⟨xa10, xc10, rfl, -⟩ := Tm.rep4 hsr10
                  have hz10 := hb10.size
                  clear hb10 hsr10 b0 b1 b2 b3 b4 b5 b6 bf q0 q1 q2 q3 q4 q5 qf e0 e1 e2 e3
                  go_wp2_with fail
                  go_roundw
                  case rel =>
                    have hbz : Below W7.heap.size W7 W10 := HBL.out.trans (HB10.out.mono hzl)
                    refine ⟨jj, _, by omega, rfl, by go_num, hbz.alloc (by omega) _, ?_⟩
                    rw [show c.body.drop jj = c.body[jj] :: c.body.drop (jj + 1) from List.drop_eq_getElem_cons hjl]
                    have hs10 := (HUL.out.below HB10.out).pm_lt
                    have hsl := HUL.out.pm_lt
                    refine ⟨W10.heap.size, xa10, xc10, .pointer vp, rfl, fun hs => by have := (hs10 _ hs).2; omega, ?_, ?_, ?_⟩
                    · simp only
                      rw [show ((p1.calls + 1 : Nat) : Int) = (p1.calls : Int) + 1 by omega]
                      exact blk_new _ _
                    · exact Tm.rep_lasts.1 _ _ _ _ _ (Tm.rep_lasts.2.1 _ _ _ _ _ HS10.out fun b _ hb => by
                        have hb' : wr.heap.size ≤ b := hb
                        exact fun hs => by have := (hsl b hs).2; omega) (Keeps.alloc _ _ _)
                    · exact (HTD.out.keeps (Keeps.of_below HB10.out)).keeps (Keeps.alloc _ _ _)
                  case measure => simp [intOf]
end
end Go.Proofs.YtlpmfkpefoegeabDoor
