/-
  The document's prover: tell.
  The solver: choices cut off.
-/
import Derived.Test.YtlpmfkpefoegeabDoorQSolveD
import Derived.Test.YtlpmfkpefoegeabDoorQSolveA
import Derived.Test.YtlpmfkpefoegeabDoorPTidy
import Derived.Test.YtlpmfkpefoegeabDoorQPlace
namespace Go.Proofs.YtlpmfkpefoegeabDoor
set_option linter.unusedVariables false
set_option linter.unusedSimpArgs false
open Go.RowKit
def PProvePost (base : Nat) (P : List Cl) (q g : Nat) (pv ov : Value) (r : Int × Pv) (w : World) (e : Ending) (w' : World) : Prop := e = .returned (.int .i64 r.1) ∧ PStep base P q g pv ov r.2 w w'
section
variable {base : Nat} {P : List Cl} {q g : Nat} {pv ov : Value} {p : Pv} {N : Int} {E : Env} {w : World}
set_option maxRecDepth 100000 in
set_option maxHeartbeats 4000000 in
theorem ptell_ok (h : PvI base P q g pv ov p w) (hE : EnvOk N E) (ev : Value) (he : EnvQ (PA g ov) w E.reverse ev) (hq : (q : Int) ≤ N) (hout : p.out.length + 2 ≤ 13) :
    Calls Tryd.prog 94 #[.pointer (some ⟨g, 0, none⟩), ev] w (PProvePost base P q g pv ov (tellR q E p) w) := by
  have HU := hid h
  have HE := hid hE
  have HQE := hid (EnvQ.mono (A' := fun b => PA g ov b ∧ b < w.heap.size) he fun b hb hA => ⟨hA, hb⟩)
  obtain ⟨ep, rfl⟩ := he.ptr
  have HQN := hid hq
  have HOUT := hid hout
  have hq8 := h.qq
  have hcs := cell_set
  obtain ⟨hl1, hl2⟩ := h.lt
  obtain ⟨pa, pc, oa, oc, hpv, hov, hvl1, hvl2, hvl7, hvl8⟩ := h.vals
  subst hov
  unfold maxLen at hvl8
  obtain ⟨b0, b1, b2, b3, b4, b5, b6, bf⟩ := box7 h.box
  have hAF : tellR q E p = match flL E 200 (qvars q) with
    | none => (-1, p.put 4)
    | some (l, _) => if p.out.length + 1 ≥ 12 then (-1, ({ p with out := p.out ++ [⟨1, tidy l⟩] } : Pv).put 6) else (-1, { p with out := p.out ++ [⟨1, tidy l⟩] }) := by
    unfold tellR qvars
    cases flL E 200 ((List.range q).map fun i => tvar (i : Nat)) with
    | none => rfl
    | some p => simp only [List.length_append, List.length_singleton]
  have HAF := hid hAF
  clear h hE hq hout hpv hvl1 hvl2 hAF he
  go_enter Tryd.func94, Tryd.ntmps94
  go_wp2_with fail
  obtain ⟨W1, hW1⟩ : ∃ W1, W1 = w.alloc (.cells #[.int .i64 200] 3) := ⟨_, rfl⟩
  obtain ⟨xb, hxb⟩ : ∃ xb, xb = w.heap.size := ⟨_, rfl⟩
  have HWK1 := hid (show WkAt xb 200 W1 by rw [hxb, hW1]; exact blk_new _ _)
  have HB1 := hid (show Below w.heap.size w W1 by rw [hW1]; exact (Below.refl _ _).alloc (Nat.le_refl _) _)
  have HSV1 := hid (HU.out.below HB1.out)
  have hs1 : W1.heap.size = xb + 1 := by rw [hW1, hxb]; simp
  have hxw : w.heap.size ≤ xb := by omega
  have hxw2 : xb ≤ w.heap.size := by omega
  have hxg : xb ≠ g := by omega
  have HXP := hid (show ∀ b, PM g (.slice oa p.out.length oc) b → b ≠ xb from fun b hb e => by have := (HU.out.pm_lt b hb).2; omega)
  try rw [← hW1]
  try rw [← hxb]
  clear hW1 hxb b0 b1 b2 b3 b4 b5 b6 bf
  obtain ⟨b0, b1, b2, b3, b4, b5, b6, bf⟩ := box7 HSV1.out.box
  have hgl : g < W1.heap.size := HSV1.out.lt.1
  go_wp2_with fail
  have HFU := hid (fun k hk => whole_ok (xb := xb) HE.out k hk)
  go_loopw [12, 6] (fun i v wr => ∃ (j : Nat) (m : Int) (ts : List Tm), j ≤ q ∧ i = .int .i64 (j : Int) ∧ m ≤ 200 ∧ ts.length = j ∧ ((0 ≤ m ∧ flL E 200 ((qvars q).take j) = some (ts, m.toNat)) ∨ (m < 0 ∧ -801 - (j : Int) ≤ m ∧ flL E 200 ((qvars q).take j) = none)) ∧ WkAt xb m wr ∧ Ch (fun b => b = xb) W1 wr ∧ OwnR wr (xb + 1) 31 4 Tm.rep (fun b => xb + 1 ≤ b) ts v) (fun i _ _ => q - (intOf i).toNat)
  case atStart => exact ⟨0, 200, [], Nat.zero_le _, rfl, Int.le_refl _, rfl, .inl ⟨by omega, by rw [List.take_zero, flL_nil]; rfl⟩, HWK1.out, Ch.refl _ _, OwnR.nil ..⟩
  case round =>
    obtain ⟨j, m, ts, hj, rfl, hm, htl, hst, hw, hch, hown⟩ := hrel
    have HST := hid hst
    have HTL := hid htl
    have HWK := hid hw
    have HCH := hid hch
    have HO := hid hown
    have HBW := hid (show Below w.heap.size w wr from ((Ch.of_below (M := fun b => b = xb) HB1.out).trans hch (fun _ h => .inl h)).below (fun k hk e => by omega))
    have HSV := hid (HU.out.below HBW.out)
    have HQW := hid (HQE.out.keeps (Keeps.of_below HBW.out))
    have hsz := hch.size
    obtain ⟨va, vc, rfl, hvc⟩ := hown.val
    have htl4 : ts.length ≤ 8 := by omega
    obtain ⟨q0, qf, ql⟩ := hw.cell
    clear htl hst hw hch hown b0 b1 b2 b3 b4 b5 b6 bf
    obtain ⟨b0, b1, b2, b3, b4, b5, b6, bf⟩ := box7 HSV.out.box
    have hgl2 := HSV.out.lt.1
    by_cases hlt : j < q
    · have hlt' : (j : Int) < (q : Int) := by omega
      have hj0 : (0 : Int) ≤ (j : Int) := Int.natCast_nonneg _
      have HI64 := hid (show I64 (j : Int) by unfold I64; omega)
      have hjl : j < (qvars q).length := by rw [qvars_len]; exact hlt
      have HNX := hid (fun (m' : Nat) (h : flL E 200 ((qvars q).take j) = some (ts, m')) => (show flL E 200 ((qvars q).take (j + 1)) = (match flL E m' [tvar (j : Nat)] with
        | none => none
        | some (rs, w2) => some (ts ++ rs, w2)) by
        rw [flL_next E 200 (qvars q) j hjl ts m' h, qvars_get]
        cases flL E m' [tvar (j : Nat)] with
        | none => rfl
        | some p => rfl))
      have HNN := hid (fun (h : flL E 200 ((qvars q).take j) = none) => (show flL E 200 ((qvars q).take (j + 1)) = none by rw [List.take_succ_eq_append_getElem hjl]; exact flL_none E 200 _ _ h))
      have HIN := hid (show (tvar (j : Nat)).In N from .var _ (by omega) (by have := HQN.out; omega))
      -- what comes of the call, whatever is left
      have HCALL : Hid (Calls Tryd.prog 123 #[.pointer ep, .agg #[.int .i64 0, .int .i64 (j : Int), .string ByteArray.empty, .slice none 0 0], .pointer (some ⟨xb, 0, none⟩)] wr (fun e w5 => ∃ (us : List Value) (t' : Tm) (k' : Int), e = .returned (.agg us.toArray) ∧ Ch (fun b => b = xb) wr w5 ∧ Tm.rep (fun b => New wr b) w5 t' us ∧ WkAt xb k' w5 ∧ k' ≤ 200 ∧
          ((0 ≤ k' ∧ flL E 200 ((qvars q).take (j + 1)) = some (ts ++ [t'], k'.toNat)) ∨ (k' < 0 ∧ -801 - ((j + 1 : Nat) : Int) ≤ k' ∧ flL E 200 ((qvars q).take (j + 1)) = none)))) := by
        rcases HST.out with ⟨hm0, hfl⟩ | ⟨hm0, hmb, hfl⟩
        · obtain ⟨m, rfl⟩ := Int.eq_ofNat_of_zero_le hm0
          rw [Int.toNat_natCast] at hfl
          refine hid ((HFU.out m (by omega) (tvar (j : Nat)) (fun b => PA g (.slice oa p.out.length oc) b ∧ b < w.heap.size) wr _ [_, _, _, _] HWK.out (fun h => by have := h.2; omega) HIN.out HQW.out (tvar_rep _ _ _ HI64.out)).mono ?_)
          rintro e w5 ⟨us, t', k', rfl, hch1, hr1, hl1, hres⟩
          have hnx := HNX.out m hfl
          rcases hres with ⟨r1, r2, r3⟩ | ⟨r1, r2⟩
          · exact ⟨us, t', k', rfl, hch1, hr1, hl1, by omega, .inr ⟨r2, by omega, by rw [hnx, r1]⟩⟩
          · have hle := (flL_le E m _ _ _ r1).1
            exact ⟨us, t', k', rfl, hch1, hr1, hl1, by omega, .inl ⟨r2, by rw [hnx, r1]⟩⟩
        · refine hid ((whole_neg m (by omega) (by omega) (tvar (j : Nat)) (fun _ => True) wr ep [_, _, _, _] HWK.out (tvar_rep _ _ _ HI64.out)).mono ?_)
          rintro e w5 ⟨rfl, hch1, hl1⟩
          exact ⟨[.int .i64 0, .int .i64 0, .string ByteArray.empty, .slice none 0 0], tm0, m - 1, rfl, hch1, tm0_rep _ _, hl1, by omega, .inr ⟨by omega, by omega, HNN.out hfl⟩⟩
      clear q0 qf
      go_wp2_with fail
      refine (HCALL.out).mono ?_
      rintro e w5 ⟨us, t', k', rfl, hch1, hr1, hl1, hkk, hres⟩
      obtain ⟨sa', sc', rfl, -⟩ := Tm.rep4 hr1
      have hsz1 := hch1.size
      have hkg : Keeps (fun b => b ≠ xb) wr w5 := hch1.keeps (A := fun b => b ≠ xb) (fun b _ hb e => hb e)
      have hlt9 := HO.out.lt
      have HO1 := hid (HO.out.keeps Tm.rep_lasts hkg (fun b hb => by omega) (fun b hb => by have := (hlt9 b hb).1; omega))
      have HN := hid (fresh_elem Tm.rep_lasts HO.out (wc := wr) (Nat.le_refl _) (A := fun b => xb + 1 ≤ b) (fun b hb => by omega) hr1)
      have HL9 := hid (show ts.length < 4194304 ∧ xb + 1 ≤ w5.heap.size by omega)
      have HCH5 := hid (show Ch (fun b => b = xb) W1 w5 from HCH.out.trans hch1 (fun _ h => .inl h))
      have HL11 := hid hl1
      have HRES := hid hres
      have HKK := hid hkk
      have HLT9 := hid hlt9
      clear hr1 hl1 hres hch1 hkg hlt9 hkk
      go_wp2_with (at_builtin; go_must (refine wpList_app1 rfl (.tmp 15) (.tmp 20) 29 rfl (xb + 1) 31 4 56 tyTerm Tm.rep_lasts (A := fun b => xb + 1 ≤ b) _ _ rfl HO1.out t' [_, _, _, _] rfl rfl HN.out HL9.out ?_); go_must (intro v2 w6 hown2 hgrew; obtain ⟨va2, vc2, hv2, hvc2⟩ := hown2.val; rw [show (ts ++ [t']).length = ts.length + 1 by simp] at hv2; subst hv2; have HO2 := hid hown2; have HG2 := hid hgrew; clear hown2 hgrew))
      have HCH6 := hid (HG2.out.ch (HCH5.out.alloc _) (fun b hb => .inr (by have := (HLT9.out b hb).1; omega)))
      have HL6 := hid (show WkAt xb k' _ from blk_keeps HL11.out ((Keeps.alloc (fun b => ownB (.slice va ts.length vc) ≠ some b) w5 _).trans (HG2.out.keeps (A := fun b => ownB (.slice va ts.length vc) ≠ some b) (fun _ h => h))) (fun e => by have := (HLT9.out _ e).1; omega))
      go_roundw
      case rel => exact ⟨j + 1, k', ts ++ [t'], by omega, by go_num, HKK.out, by have := HTL.out; simp; omega, HRES.out, HL6.out, HCH6.out, HO2.out⟩
      case measure => simp [intOf]; omega
    · have hje : j = q := by omega
      have HFL := hid (show (0 ≤ m ∧ flL E 200 (qvars q) = some (ts, m.toNat)) ∨ (m < 0 ∧ flL E 200 (qvars q) = none) by
        rcases HST.out with ⟨h1, h2⟩ | ⟨h1, h2, h3⟩
        · rw [List.take_of_length_le (by rw [qvars_len]; omega)] at h2; exact .inl ⟨h1, h2⟩
        · rw [List.take_of_length_le (by rw [qvars_len]; omega)] at h3; exact .inr ⟨h1, h3⟩)
      have HCHW := hid (show Ch (PM g (.slice oa p.out.length oc)) w wr from Ch.of_below HBW.out)
      clear hje
      by_cases hmn : m < 0
      · have hres := hid (show tellR q E p = (-1, p.put 4) by
          rcases HFL.out with ⟨h1, h2⟩ | ⟨h1, h2⟩
          · omega
          · rw [HAF.out, h2])
        have hmd : decide (m < 0) = true := by simpa using hmn
        go_wp2_with fail
        refine (pend_ok 4 (by unfold I64; omega) HSV.out (by have := HOUT.out; omega)).mono ?_
        rintro e W9 ⟨rfl, hst⟩
        have HST9 := hid (PStep.trans HCHW.out (fun b h => .inl h) hst)
        clear hst
        go_wp2_with fail
        go_ret
        rw [hres.out]
        exact ⟨rfl, HST9.out⟩
      have hmd : decide (m < 0) = false := by simpa using hmn
      have hm0 : (0 : Int) ≤ m := by omega
      have hfl := hid (show flL E 200 (qvars q) = some (ts, m.toNat) by
        rcases HFL.out with ⟨h1, h2⟩ | ⟨h1, h2⟩
        · exact h2
        · omega)
      have HAF2 := hid (show tellR q E p = if p.out.length + 1 ≥ 12 then (-1, ({ p with out := p.out ++ [⟨1, tidy ts⟩] } : Pv).put 6) else (-1, { p with out := p.out ++ [⟨1, tidy ts⟩] }) by rw [HAF.out, hfl.out])
      clear hmn
      have HTS := hid (HO.out.sl Tm.rep_lasts (A := fun b => xb + 1 ≤ b) (by omega) (fun b hb => hb))
      have hnd := hid (show Tm.nodesL ts ≤ 4194304 by have := flL_nodes _ _ _ _ _ hfl.out; omega)
      have hM1 : wr.drew.cell? ⟨g, 4, none⟩ = some (.slice oa p.out.length oc) := (box7 (show wr.drew.heap[g]? = _ from HSV.out.box)).2.2.2.2.1
      go_wp2_with fail
      refine wp_region_F (F := fun k w' => k = 4 → w'.cell? ⟨g, 4, none⟩ = some (.slice oa p.out.length oc)) (by kernel_rfl) ?_
      refine wpAnyF_take (i := 0) (v := ?_) rfl (by kernel_rfl) (by kernel_rfl) (by kernel_rfl) (fun _ _ _ h => h) (Or.inl ⟨by rfl, ?_⟩) (fun _ => hM1) ?_
      rotate_left
      · (intro w' hw; clear hw; go_simp <;> with_reducible rfl)
      try simp only [Act.put, List.setIfInBounds_toArray, List.set_cons_zero, List.set_cons_succ]
      refine wpAnyF_take (i := 1) (v := ?_) rfl (by kernel_rfl) (by kernel_rfl) (by kernel_rfl) (fun _ _ _ h => h) (Or.inl ⟨by rfl, ?_⟩) (fun _ => hM1) ?_
      rotate_left
      · (intro w' hw; clear hw; go_simp <;> with_reducible rfl)
      try simp only [Act.put, List.setIfInBounds_toArray, List.set_cons_zero, List.set_cons_succ]
      refine wpAnyF_take (i := 2) (v := ?_) rfl (by kernel_rfl) (by kernel_rfl) (by kernel_rfl) (fun _ _ _ h => h) (Or.inl ⟨by rfl, ?_⟩) (fun _ => hM1) ?_
      rotate_left
      · (intro w' hw; clear hw; go_simp <;> with_reducible rfl)
      try simp only [Act.put, List.setIfInBounds_toArray, List.set_cons_zero, List.set_cons_succ]
      refine wpAnyF_take (i := 3) (v := ?_) rfl (by kernel_rfl) (by kernel_rfl) (by kernel_rfl) (fun _ _ _ h => h) (Or.inl ⟨by rfl, ?_⟩) (fun _ => hM1) ?_
      rotate_left
      · (intro w' hw; clear hw; go_simp <;> with_reducible rfl)
      try simp only [Act.put, List.setIfInBounds_toArray, List.set_cons_zero, List.set_cons_succ]
      refine wpAnyF_take (i := 4) (v := ?_) rfl (by kernel_rfl) (by kernel_rfl) (by kernel_rfl) (fun _ _ _ h => h) (Or.inl ⟨by rfl, ?_⟩) (fun _ => hM1) ?_
      rotate_left
      · (intro w' hw; have q0 := hw rfl; clear hw; go_simp <;> with_reducible rfl)
      try simp only [Act.put, List.setIfInBounds_toArray, List.set_cons_zero, List.set_cons_succ]
      refine wpAnyF_take (i := 5) (v := ?_) rfl (by kernel_rfl) (by kernel_rfl) (by kernel_rfl) (fun _ _ _ h => h) (Or.inl ⟨by rfl, ?_⟩) (fun _ => hM1) ?_
      rotate_left
      · (intro w' hw; clear hw; go_simp <;> with_reducible rfl)
      try simp only [Act.put, List.setIfInBounds_toArray, List.set_cons_zero, List.set_cons_succ]
      refine wpAnyF_one (i := 6) (by kernel_rfl) (wpOp_run rfl (by rfl) ?_)
      go_simp
      refine (tidied_ok ts hnd.out (fun b => xb + 1 ≤ b) wr.drew _ (SlR.keeps Tm.rep_lasts HTS.out (Keeps.drew _ _))).mono ?_
      rintro e w5 ⟨lv, rfl, hb5, hlv⟩
      have HB5 := hid (show Below wr.heap.size wr w5 from ((Below.refl _ wr).drew).trans hb5)
      have HLV := hid (show TmsR (New wr.drew) w5 (tidy ts) lv from hlv)
      obtain ⟨la, lc, -, -, hlve, -⟩ := SlR.at hlv
      subst hlve
      have HSV5 := hid (HSV.out.below HB5.out)
      have HO5 := hid HSV5.out.out
      have hz5 := hb5.size
      simp only [World.size_drew] at hz5
      have hF5 := hid (show w5.cell? ⟨g, 4, none⟩ = some (.slice oa p.out.length oc) from (box7 HSV5.out.box).2.2.2.2.1)
      clear hb5 hlv
      refine ⟨fun _ _ _ _ => hF5.out, ?_⟩
      try simp only [Act.put, List.setIfInBounds_toArray, List.set_cons_zero, List.set_cons_succ]
      refine wpAnyF_take (i := 7) (v := ?_) rfl (by kernel_rfl) (by kernel_rfl) (by kernel_rfl) (fun _ _ _ h => h) (Or.inl ⟨by rfl, ?_⟩) (fun _ => hF5.out) ?_
      rotate_left
      · (intro w' hw; clear hw; go_simp <;> with_reducible rfl)
      try simp only [Act.put, List.setIfInBounds_toArray, List.set_cons_zero, List.set_cons_succ]
      refine wpAnyF_one (i := 8) (by kernel_rfl) (wpOp_run rfl (by rfl) ?_)
      go_simp
      refine ⟨fun _ _ _ _ => (Keeps.alloc (fun _ => True) w5 _).cell trivial hF5.out, ?_⟩
      try simp only [Act.put, List.setIfInBounds_toArray, List.set_cons_zero, List.set_cons_succ]
      refine wpAnyF_one (i := 9) (by kernel_rfl) (wpOp_run rfl (by rfl) ?_)
      refine wp_app1 (.tmp 31) (.tmp 35) 55 rfl base 69 2 32 tyEvs evR_lasts (A := PA g (.slice oa p.out.length oc)) (.slice oa p.out.length oc) p.out rfl HO5.out ⟨1, tidy ts⟩ [.int .i64 1, .slice la (tidy ts).length lc] rfl rfl ⟨_, rfl, SlR.mono Tm.rep_lasts (by omega) HLV.out (fun b _ hb => ⟨fun hs => by have h1 := (HSV.out.pm_lt b hs).2; have h2 : wr.drew.heap.size ≤ b := hb; simp only [World.size_drew] at h2; omega, fun e => by have h1 := (HSV.out.out.lt b e).2; have h2 : wr.drew.heap.size ≤ b := hb; simp only [World.size_drew] at h2; omega⟩), show I64 1 by unfold I64; omega⟩ ⟨by have := HOUT.out; omega, by have := HSV5.out.lt; omega⟩ ?_
      intro v2 w6 hown2 hgrew
      have hog : ownB (.slice oa p.out.length oc) ≠ some g := HSV5.out.og
      have HG6 := hid (show w6.heap[g]? = _ from (hgrew.grown.block g (by simp; omega) (fun e => HSV5.out.og e.symm)).trans (blk_alloc HSV5.out.box _))
      obtain ⟨va2, vc2, hv2, hvl2, hvm2⟩ := OwnR.val' hown2
      rw [show (p.out ++ [(⟨1, tidy ts⟩ : Ev)]).length = p.out.length + 1 by simp] at hv2
      subst hv2
      have HST6 := hid (HSV5.out.tell (by have := HOUT.out; omega) hown2 hgrew)
      have hgg6 : g < w6.heap.size := blk_lt HG6.out
      have hzz6 := hgrew.size
      refine ⟨fun _ _ _ _ => ?_, ?_⟩
      · exact (hgrew.keeps (A := fun b => ownB (.slice oa p.out.length oc) ≠ some b) (fun _ h => h)).cell hog ((Keeps.alloc (fun _ => True) w5 _).cell trivial hF5.out)
      clear hown2 hgrew b0 b1 b2 b3 b4 b5 b6 bf
      obtain ⟨b0, b1, b2, b3, b4, b5, b6, bf⟩ := box7 HG6.out
      try simp only [Act.put, List.setIfInBounds_toArray, List.set_cons_zero, List.set_cons_succ]
      refine wpAnyF_take (i := 10) (v := ?_) rfl (by kernel_rfl) (by kernel_rfl) (by kernel_rfl) (fun _ _ _ h => h) (Or.inl ⟨by rfl, ?_⟩) (fun h => by omega) ?_
      rotate_left
      · (intro w' hw; clear hw; go_simp <;> with_reducible rfl)
      try simp only [Act.put, List.setIfInBounds_toArray, List.set_cons_zero, List.set_cons_succ]
      refine wpAnyF_take (i := 11) (v := ?_) rfl (by kernel_rfl) (by kernel_rfl) (by kernel_rfl) (fun _ _ _ h => h) (Or.inl ⟨by rfl, ?_⟩) (fun h => by omega) ?_
      rotate_left
      · (intro w' hw; clear hw; go_simp <;> with_reducible rfl)
      try simp only [Act.put, List.setIfInBounds_toArray, List.set_cons_zero, List.set_cons_succ]
      refine wpAnyF_one (i := 12) (by kernel_rfl) (wpOp_run rfl (by rfl) ?_)
      go_simp
      refine ⟨fun k0 hk0 _ h12 => ?_, wpAnyF_done (by kernel_rfl) ?_ _⟩
      · subst h12
        exact absurd (show waits _ 12 4 = true by kernel_rfl) (by rw [hk0]; decide)
      clear b0 b1 b2 b3 b4 b5 b6 bf
      generalize w6.setCell ⟨g, 4, none⟩ (.slice va2 (p.out.length + 1) vc2) = w7 at *
      obtain ⟨o7, hsv7, hch7, hoa7⟩ := HST6.out
      have HSV7 := hid hsv7
      have HSTEP := hid (fun (s' : Pv) (w' : World) (hh : PStep base P q g pv o7 s' w7 w') =>
        (PStep.trans HCHW.out (fun b h => .inl h) (PStep.trans (Ch.of_below HB5.out) (fun b h => .inl h) (PStep.trans hch7 hoa7 hh)) : PStep base P q g pv (.slice oa p.out.length oc) s' w w'))
      obtain ⟨_, _, o7a, o7c, -, ho7, -⟩ := hsv7.vals
      subst ho7
      obtain ⟨b0, b1, b2, b3, b4, b5, b6, bf⟩ := box7 hsv7.box
      have hgl7 := hsv7.lt.1
      simp only [List.length_append, List.length_singleton] at b4
      have hout18 : p.out.length ≤ 11 := by have := HOUT.out; omega
      clear hsv7 hch7 hoa7
      by_cases h12 : p.out.length + 1 ≥ 12
      · have hres := hid (HAF2.out.trans (if_pos h12))
        have hle : p.out.length = 11 := by omega
        rw [hle] at b4
        go_wp2_with fail
        refine (pend_ok 6 (by unfold I64; omega) HSV7.out (by simp; omega)).mono ?_
        rintro e W9 ⟨rfl, hst⟩
        have HST := hid (HSTEP.out _ _ hst)
        clear hst
        go_wp2_with fail
        go_ret
        rw [hres.out]
        exact ⟨rfl, HST.out⟩
      · have hres := hid (HAF2.out.trans (if_neg h12))
        have hne : (((p.out.length + 1 : Nat) : Int) == 12) = false := by rw [beq_eq_false_iff_ne]; omega
        go_wp2_with fail
        go_ret
        rw [hres.out]
        exact ⟨rfl, HSTEP.out _ _ (PStep.refl HSV7.out)⟩
end
end Go.Proofs.YtlpmfkpefoegeabDoor

namespace Go.Proofs.YtlpmfkpefoegeabDoor
set_option linter.unusedVariables false
set_option linter.unusedSimpArgs false
open Go.RowKit
theorem flatten_take {size : Nat} : ∀ (vals : List (List Value)) (k : Nat), (∀ (i : Nat) (vs : List Value), vals[i]? = some vs → vs.length = size) → (vals.flatten).take (k * size) = (vals.take k).flatten
  | [], k, _ => by simp
  | v :: r, 0, _ => by simp
  | v :: r, k + 1, h => by
    have h0 := h 0 v rfl
    rw [List.flatten_cons, List.take_succ_cons, List.flatten_cons, List.take_append, h0, List.take_of_length_le (by rw [h0, Nat.add_mul]; omega), show (k + 1) * size - size = k * size by rw [Nat.add_mul]; omega,
      flatten_take r k (fun i vs hi => h (i + 1) vs (by simpa using hi))]
theorem OwnR.take {α : Type} {w : World} {base : Nat} {E : TypeId} {size : Nat} {R : (Nat → Prop) → World → α → List Value → Prop} {A : Nat → Prop} {xs : List α} {a : Option Addr} {cap : Nat} (h : OwnR w base E size R A xs (.slice a xs.length cap)) {k : Nat} (hk : k ≤ xs.length) :
    OwnR w base E size R A (xs.take k) (.slice a k cap) := by
  obtain ⟨vals, hl, ho, he⟩ := h
  have hob : ownB (.slice a k cap) = ownB (.slice a xs.length cap) := by cases a <;> rfl
  have hlk : (xs.take k).length = k := by rw [List.length_take]; omega
  have hsz : ∀ (i : Nat) (vs : List Value), vals[i]? = some vs → vs.length = size := fun i vs hv => by
    have hi : i < xs.length := by have := (List.getElem?_eq_some_iff.1 hv).1; omega
    exact (he i _ vs (List.getElem?_eq_getElem hi) hv).1
  refine ⟨vals.take k, by rw [List.length_take, List.length_take]; omega, ?_, fun i x vs hx hv => ?_⟩
  · rw [hlk, ← flatten_take vals k hsz]
    refine ⟨by rw [List.length_take, flatten_len vals hsz]; exact Nat.min_eq_left (Nat.mul_le_mul_right _ (by omega)), ?_⟩
    rcases ho.2 with ⟨h1, a', h2⟩ | ⟨g, c, cur, h2, hc, hb, hgg, hnc, hcm, hcs, htake⟩
    · simp only [Value.slice.injEq] at h2
      obtain ⟨rfl, -, rfl⟩ := h2
      exact .inl ⟨by omega, a, by rw [show k = 0 by omega]⟩
    · simp only [Value.slice.injEq, true_and] at h2
      obtain ⟨rfl, rfl⟩ := h2
      refine .inr ⟨g, cap, cur, rfl, hc, hb, hgg, by omega, hcm, hcs, ?_⟩
      rw [← htake, List.take_take, Nat.min_eq_left (Nat.mul_le_mul_right _ hk)]
  · have hi : i < k := by have := (List.getElem?_eq_some_iff.1 hx).1; omega
    rw [List.getElem?_take_of_lt hi] at hx hv
    rw [hob]
    exact he i x vs hx hv
section
variable {base : Nat} {P : List Cl} {q g mb xb : Nat} {pv tv cv ov : Value} {s : Sv} {w : World}
theorem SvI.cutChc {ca : Option Addr} {cc k : Nat} (h : SvI base P q g mb g pv tv (.slice ca s.choices.length cc) ov s w) (hk : k ≤ s.choices.length) :
    SStep base P q g mb pv tv (.slice ca s.choices.length cc) ov { s with choices := s.choices.drop (s.choices.length - k) } w (w.setCell ⟨g, 3, none⟩ (.slice ca k cc)) := by
  have ho : ownB (.slice ca k cc) = ownB (.slice ca s.choices.length cc) := by cases ca <;> rfl
  refine h.turned (s' := { s with choices := s.choices.drop (s.choices.length - k) }) ((blk_set h.box 3 _).trans rfl) rfl rfl h.v0 h.v1 h.fu (by simp only [List.length_drop]; have := h.few; omega) ((Ch.refl _ _).setCell (p := ⟨g, 3, none⟩) (.inl (.inl rfl)) _) (fun b hb => .inl (ho ▸ hb)) ?_
  have h5 : OwnR w base 137 3 chcR (SA g mb g tv (.slice ca s.choices.length cc) ov) s.choices.reverse (.slice ca s.choices.reverse.length cc) := by simpa using h.chc
  have h6 := h5.take (k := k) (by simpa using hk)
  rw [List.take_reverse] at h6
  exact h6.keeps (B := fun b => b ≠ g) chcR_lasts (Keeps.setCell _ _ _ _ (fun h => h rfl)) (fun b hb => hb.2) (fun b hb e => h.apart.cg (by rw [← ho, ← e]; exact hb))
end
end Go.Proofs.YtlpmfkpefoegeabDoor
