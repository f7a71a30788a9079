/-
  Does solve answer at all?
  Lists of terms that are alike.
  Events that are alike, as the document's own answer has it.
  SolveAll: solve answers exactly what the document's own prover does.
-/
import Derived.Test.YtlpmfkpefoegeabDoorPSolveS
import Derived.Test.YtlpmfkpefoegeabDoorQReg
import Derived.Test.YtlpmfkpefoegeabDoorQProvQ
namespace Go.Proofs.YtlpmfkpefoegeabDoor
set_option linter.unusedVariables false
set_option linter.unusedSimpArgs false
open Go.RowKit
theorem cls_one {A : Nat → Prop} {w : World} {c : Cl} {us : List Value} (hA : A w.heap.size) (hc : Cl.rep A w c us) (hl : us.length = 6) :
    ClsR A (w.alloc (.cells us.toArray 39)) [c] (.slice (some ⟨w.heap.size, 0, none⟩) 1 1) :=
  ⟨w.heap.size, 0, ⟨by simp, .inr ⟨by simp, hA, 1, rfl, by simp, by simp [maxLen]⟩⟩, elems_one Cl.rep_lasts _ hl hc⟩
theorem tms_one' {A : Nat → Prop} {w : World} {t : Tm} {us : List Value} (hA : A w.heap.size) (ht : Tm.rep A w t us) (hl : us.length = 4) :
    TmsR A (w.alloc (.cells us.toArray 31)) [t] (.slice (some ⟨w.heap.size, 0, none⟩) 1 1) :=
  ⟨w.heap.size, 0, ⟨by simp, .inr ⟨by simp, hA, 1, rfl, by simp, by simp [maxLen]⟩⟩, elems_one Tm.rep_lasts _ hl ht⟩
theorem solves_world (w : World) : (fun W => ClsR (fun b => b < W.heap.size) W [c4] (.slice (some ⟨w.heap.size + 1, 0, none⟩) 1 1) ∧ TmsR (fun b => b < W.heap.size) W [pV] (.slice (some ⟨w.heap.size + 3, 0, none⟩) 1 1) ∧ Below w.heap.size w W)
    ((((w.alloc (.cells #[.int .i64 2, .int .i64 4, .string ByteArray.empty, .slice none 0 0] 31)).alloc (.cells #[.int .i64 3, .int .i64 0, .string ⟨#[112]⟩, .slice (some ⟨w.heap.size, 0, none⟩) 1 1, .slice none 0 0, .int .i64 0] 39)).alloc
      (.cells #[.int .i64 0, .int .i64 0, .string ByteArray.empty, .slice none 0 0] 31)).alloc (.cells #[.int .i64 3, .int .i64 0, .string ⟨#[112]⟩, .slice (some ⟨w.heap.size + 2, 0, none⟩) 1 1] 31)) := by
  have i0 : I64 0 := by unfold I64; omega
  have i2 : I64 2 := by unfold I64; omega
  have i3 : I64 3 := by unfold I64; omega
  have i4 : I64 4 := by unfold I64; omega
  have A := fun (b : Nat) => b < w.heap.size + 4
  -- 4
  have h1 : Tm.rep (fun b => b < w.heap.size + 4) w n4 [.int .i64 2, .int .i64 4, .string ByteArray.empty, .slice none 0 0] := by
    rw [n4, Tm.rep_iff]; exact ⟨i2, i4, by decide, _, rfl, SlR.nil ..⟩
  have h2 := tms_one' (A := fun b => b < w.heap.size + 4) (w := w) (by omega) h1 rfl
  generalize hw1 : w.alloc (.cells [Value.int .i64 2, .int .i64 4, .string ByteArray.empty, .slice none 0 0].toArray 31) = w1 at h2
  have hs1 : w1.heap.size = w.heap.size + 1 := by rw [← hw1]; simp
  have hb1 : Below w.heap.size w w1 := by rw [← hw1]; exact (Below.refl _ _).alloc (Nat.le_refl _) _
  have h3 : Cl.rep (fun b => b < w.heap.size + 4) w1 c4 [.int .i64 3, .int .i64 0, .string ⟨#[112]⟩, .slice (some ⟨w.heap.size, 0, none⟩) 1 1, .slice none 0 0, .int .i64 0] := by
    refine ⟨some ⟨w.heap.size, 0, none⟩, 1, none, 0, rfl, ?_, SlR.nil .., i0⟩
    rw [show c4.head = Tm.mk 3 0 ⟨#[112]⟩ [n4] from rfl, Tm.rep_iff]
    exact ⟨i3, i0, by decide, _, rfl, h2⟩
  have h4 := cls_one (A := fun b => b < w.heap.size + 4) (w := w1) (by omega) h3 rfl
  rw [hs1] at h4
  generalize hw2 : w1.alloc (.cells [Value.int .i64 3, .int .i64 0, .string ⟨#[112]⟩, .slice (some ⟨w.heap.size, 0, none⟩) 1 1, .slice none 0 0, .int .i64 0].toArray 39) = w2 at h4
  have hs2 : w2.heap.size = w.heap.size + 2 := by rw [← hw2]; simp; omega
  have hb2 : Below w.heap.size w w2 := by rw [← hw2]; exact hb1.alloc (by omega) _
  have h5 : Tm.rep (fun b => b < w.heap.size + 4) w2 v0 [.int .i64 0, .int .i64 0, .string ByteArray.empty, .slice none 0 0] := by
    rw [v0, Tm.rep_iff]; exact ⟨i0, i0, by decide, _, rfl, SlR.nil ..⟩
  have h6 := tms_one' (A := fun b => b < w.heap.size + 4) (w := w2) (by omega) h5 rfl
  rw [hs2] at h6
  have h4' := SlR.keeps Cl.rep_lasts h4 (Keeps.alloc _ w2 (.cells [Value.int .i64 0, .int .i64 0, .string ByteArray.empty, .slice none 0 0].toArray 31))
  generalize hw3 : w2.alloc (.cells [Value.int .i64 0, .int .i64 0, .string ByteArray.empty, .slice none 0 0].toArray 31) = w3 at h6 h4'
  have hs3 : w3.heap.size = w.heap.size + 3 := by rw [← hw3]; simp; omega
  have hb3 : Below w.heap.size w w3 := by rw [← hw3]; exact hb2.alloc (by omega) _
  have h7 : Tm.rep (fun b => b < w.heap.size + 4) w3 pV [.int .i64 3, .int .i64 0, .string ⟨#[112]⟩, .slice (some ⟨w.heap.size + 2, 0, none⟩) 1 1] := by
    rw [show pV = Tm.mk 3 0 ⟨#[112]⟩ [v0] from rfl, Tm.rep_iff]
    exact ⟨i3, i0, by decide, _, rfl, h6⟩
  have h8 := tms_one' (A := fun b => b < w.heap.size + 4) (w := w3) (by omega) h7 rfl
  rw [hs3] at h8
  have h4'' := SlR.keeps Cl.rep_lasts h4' (Keeps.alloc _ w3 (.cells [Value.int .i64 3, .int .i64 0, .string ⟨#[112]⟩, .slice (some ⟨w.heap.size + 2, 0, none⟩) 1 1].toArray 31))
  have hs4 : (w3.alloc (.cells [Value.int .i64 3, .int .i64 0, .string ⟨#[112]⟩, .slice (some ⟨w.heap.size + 2, 0, none⟩) 1 1].toArray 31)).heap.size = w.heap.size + 4 := by simp; omega
  subst hw1; subst hw2; subst hw3
  simp only
  refine ⟨?_, ?_, hb3.alloc (by omega) _⟩
  · exact SlR.mono Cl.rep_lasts (by omega) h4'' (fun b _ hb => Nat.lt_of_lt_of_eq hb hs4.symm)
  · exact SlR.mono Tm.rep_lasts (by omega) h8 (fun b _ hb => Nat.lt_of_lt_of_eq hb hs4.symm)
set_option maxRecDepth 100000 in
set_option maxHeartbeats 4000000 in
theorem solvesL_ok (w : World) : Calls Tryd.prog 41 #[] w (Pure w (fun r _ => r = .bool true)) := by
  have i0 : I64 0 := by unfold I64; omega
  have i2 : I64 2 := by unfold I64; omega
  have i3 : I64 3 := by unfold I64; omega
  have i4 : I64 4 := by unfold I64; omega
  have hcs := cell_set
  have HQ := hid (fun (W : World) (pv qv : Value) hp hq => sall_ok (P := [c4]) (Q := [pV]) (vars := 1) (fuel := 9) (by decide) (by decide) (by unfold I64; omega) (by unfold I64; omega) W pv qv hp hq)
  rw [solve_p] at HQ
  go_enter Tryd.func41, Tryd.ntmps41
  go_wp2_with fail
  have hW := solves_world w
  have HW := hid hW
  clear hW
  refine (HQ.out _ _ _ HW.out.1 HW.out.2.1).mono ?_
  rintro e w1 ⟨ev, rfl, hb1, hev⟩
  have HB1 := hid (HW.out.2.2.trans (hb1.mono HW.out.2.2.size))
  clear hb1 HW HQ
  obtain ⟨ea, ec, eb, eo, rfl, -, -, -, hea, hee⟩ := SlR.at hev
  obtain ⟨rfl, hAe⟩ := hea (by simp)
  obtain ⟨ta, tc, c0, c1, hr0, -⟩ := ev_cells hee hAe (Keeps.refl _ _) (k := 0) (by simp)
  obtain ⟨ta1, tc1, d0, d1, -, -⟩ := ev_cells hee hAe (Keeps.refl _ _) (k := 1) (by simp)
  simp only [List.getElem_cons_zero, List.getElem_cons_succ, Nat.zero_mul, Nat.add_zero, Nat.one_mul, List.length_cons, List.length_nil] at c0 c1 d0 d1 hr0
  obtain ⟨_, _, tb, tof, e9, -, -, -, hta, hte⟩ := SlR.at hr0
  simp only [Value.slice.injEq, List.length_cons, List.length_nil, true_and] at e9
  obtain ⟨rfl, rfl⟩ := e9
  obtain ⟨rfl, hAt⟩ := hta (by simp)
  obtain ⟨xa, xc, f0, f1, f2, f3, -⟩ := tm_cells hte hAt (Keeps.refl _ _) (k := 0) (by simp)
  simp only [List.getElem_cons_zero, Nat.zero_mul, Nat.add_zero] at f0 f1 f2 f3
  have l1 := World.block_lt_of_cell? w1 _ c0
  have l2 := World.block_lt_of_cell? w1 _ f0
  simp only at l1 l2
  have hn4 : n4.n = 4 := rfl
  rw [hn4] at f1
  clear hev hea hee hr0 hta hte hAe hAt
  simp only [List.length_cons, List.length_nil]
  go_wp2_with fail
  go_ret
  exact ⟨_, rfl, HB1.out, rfl⟩
end Go.Proofs.YtlpmfkpefoegeabDoor

namespace Go.Proofs.YtlpmfkpefoegeabDoor
set_option linter.unusedVariables false
set_option linter.unusedSimpArgs false
open Go.RowKit
set_option maxHeartbeats 1000000 in
theorem sameTerms_ok (l l' : List Tm) (A : Nat → Prop) (w : World) (u v : Value) (hu : TmsR A w l u) (hv : TmsR A w l' v) :
    Calls Tryd.prog 64 #[u, v] w (Pure w fun r _ => ∃ t, r = .bool t ∧ (t = true ↔ l = l')) := by
  obtain ⟨a, cap, b, off, rfl, hlc, hcm, hlb, ha, he⟩ := hu.at
  obtain ⟨a', cap', b', off', rfl, hlc', hcm', hlb', ha', he'⟩ := hv.at
  have HE := hid he
  have HA := hid ha
  have HE' := hid he'
  have HA' := hid ha'
  clear he ha he' ha' hu hv
  by_cases e4 : l.length = l'.length
  · have E4 := hid e4
    rw [← e4] at hlc' hlb' HA' ⊢
    clear e4
    go_enter Tryd.func64, Tryd.ntmps64
    go_wp2_with fail
    go_loopw [13] (fun i wr => ∃ j : Nat, j ≤ l.length ∧ i = .int .i64 j ∧ Below w.heap.size w wr ∧ l.take j = l'.take j) (fun i _ => l.length - (intOf i).toNat)
    case atStart => exact ⟨0, Nat.zero_le _, rfl, Below.refl _ _, by simp⟩
    case round =>
      obtain ⟨j, hj, rfl, hb, hpre⟩ := hrel
      have HB := hid hb
      have HP := hid hpre
      have hz := hb.size
      clear hb hpre
      by_cases hlt : j < l.length
      · have hlt' : j < l'.length := by have := E4.out; omega
        obtain ⟨rfl, hAb⟩ := HA.out (by omega)
        obtain ⟨rfl, hAb'⟩ := HA'.out (by omega)
        obtain ⟨sa, sc, c0, c1, c2, c3, hr⟩ := tm_cells HE.out hAb (Keeps.of_below HB.out) hlt
        obtain ⟨sa', sc', d0, d1, d2, d3, hr'⟩ := tm_cells HE'.out hAb' (Keeps.of_below HB.out) hlt'
        have HC := hid (sameTerm_ok l[j] l'[j] _ _ _ _ (Tm.rep_lasts.1 _ _ _ _ _ hr (Keeps.drew _ _)) (Tm.rep_lasts.1 _ _ _ _ _ hr' (Keeps.drew _ _)))
        have hi0 : (0 : Int) ≤ (j : Int) := Int.natCast_nonneg _
        have hi1 : (j : Int) < (l.length : Int) := by omega
        clear hr hr'
        go_wp2_with fail
        go_region_held3 (fun w' => w'.cell? ⟨b, off + j * 4, none⟩ = some (.int .i64 l[j].kind) ∧ w'.cell? ⟨b, off + j * 4 + 1, none⟩ = some (.int .i64 l[j].n) ∧ w'.cell? ⟨b, off + j * 4 + 2, none⟩ = some (.string l[j].s) ∧ w'.cell? ⟨b, off + j * 4 + 3, none⟩ = some (.slice sa l[j].args.length sc) ∧
            w'.cell? ⟨b', off' + j * 4, none⟩ = some (.int .i64 l'[j].kind) ∧ w'.cell? ⟨b', off' + j * 4 + 1, none⟩ = some (.int .i64 l'[j].n) ∧ w'.cell? ⟨b', off' + j * 4 + 2, none⟩ = some (.string l'[j].s) ∧ w'.cell? ⟨b', off' + j * 4 + 3, none⟩ = some (.slice sa' l'[j].args.length sc'))
          (first | exact ⟨c0, c1, c2, c3, d0, d1, d2, d3⟩ | exact ⟨bc hb1 c0, bc hb1 c1, bc hb1 c2, bc hb1 c3, bc hb1 d0, bc hb1 d1, bc hb1 d2, bc hb1 d3⟩)
          ((go_at_call 98; refine (HC.out).mono ?_; rintro e w1 ⟨v, rfl, hb1, r, rfl, hr⟩))
        have HB1 := hid (HB.out.drew.trans (hb1.mono (by simp; omega)))
        have HR := hid hr
        clear hr hb1 HC c0 c1 c2 c3 d0 d1 d2 d3
        cases r with
        | false =>
          go_wp2_with fail
          go_ret
          refine ⟨_, rfl, HB1.out, false, rfl, ?_⟩
          have h1 := HR.out
          simp only [Bool.false_eq_true, false_iff] at h1 ⊢
          rintro rfl
          exact h1 rfl
        | true =>
          go_wp2_with fail
          go_roundw
          case rel => exact ⟨j + 1, by omega, by go_num, HB1.out, take_next HP.out hlt hlt' (by simpa using HR.out)⟩
          case measure => simp [intOf]; omega
      · go_wp2_with fail
        go_ret
        refine ⟨_, rfl, HB.out, true, rfl, ?_⟩
        have h1 := HP.out
        have h2 := E4.out
        rw [List.take_of_length_le (by omega), List.take_of_length_le (by omega)] at h1
        simp [h1]
  · have e4' : ((l.length : Int) != (l'.length : Int)) = true := by simp; omega
    go_enter Tryd.func64, Tryd.ntmps64
    go_wp2_with fail
    go_ret
    refine ⟨_, rfl, Below.refl _ _, false, rfl, by simp; rintro rfl; exact e4 rfl⟩
end Go.Proofs.YtlpmfkpefoegeabDoor

namespace Go.Proofs.YtlpmfkpefoegeabDoor
set_option linter.unusedVariables false
set_option linter.unusedSimpArgs false
open Go.RowKit
set_option maxRecDepth 100000 in
set_option maxHeartbeats 2000000 in
theorem sameEventsR_ok (l l' : List Ev) (A : Nat → Prop) (w : World) (u v : Value) (hu : EvsR A w l u) (hv : EvsR A w l' v) :
    Calls Tryd.prog 40 #[u, v] w (Pure w fun r _ => ∃ t, r = .bool t ∧ (t = true ↔ l = l')) := by
  obtain ⟨a, cap, b, off, rfl, hlc, hcm, hlb, ha, he⟩ := SlR.at hu
  obtain ⟨a', cap', b', off', rfl, hlc', hcm', hlb', ha', he'⟩ := SlR.at hv
  have HE := hid he
  have HA := hid ha
  have HE' := hid he'
  have HA' := hid ha'
  clear he ha he' ha' hu hv
  by_cases e4 : l.length = l'.length
  · have E4 := hid e4
    rw [← e4] at hlc' hlb' HA' ⊢
    clear e4
    go_enter Tryd.func40, Tryd.ntmps40
    go_wp2_with fail
    go_loopw [13] (fun i wr => ∃ j : Nat, j ≤ l.length ∧ i = .int .i64 j ∧ Below w.heap.size w wr ∧ l.take j = l'.take j) (fun i _ => l.length - (intOf i).toNat)
    case atStart => exact ⟨0, Nat.zero_le _, rfl, Below.refl _ _, by simp⟩
    case round =>
      obtain ⟨j, hj, rfl, hb, hpre⟩ := hrel
      have HB := hid hb
      have HP := hid hpre
      have hz := hb.size
      clear hb hpre
      by_cases hlt : j < l.length
      · have hlt' : j < l'.length := by have := E4.out; omega
        obtain ⟨rfl, hAb⟩ := HA.out (by omega)
        obtain ⟨rfl, hAb'⟩ := HA'.out (by omega)
        obtain ⟨sa, sc, c0, c1, hr, hk⟩ := ev_cells HE.out hAb (Keeps.of_below HB.out) hlt
        obtain ⟨sa', sc', d0, d1, hr', hk'⟩ := ev_cells HE'.out hAb' (Keeps.of_below HB.out) hlt'
        have hbl := World.block_lt_of_cell? wr _ c0
        have hbl' := World.block_lt_of_cell? wr _ d0
        simp only at hbl hbl'
        have HC := hid (sameTerms_ok l[j].terms l'[j].terms _ wr.drew _ _ (SlR.keeps Tm.rep_lasts hr (Keeps.drew _ _)) (SlR.keeps Tm.rep_lasts hr' (Keeps.drew _ _)))
        have hi0 : (0 : Int) ≤ (j : Int) := Int.natCast_nonneg _
        have hi1 : (j : Int) < (l.length : Int) := by omega
        clear hr hr' hk hk'
        by_cases hke : l[j].kind = l'[j].kind
        · have HKE := hid hke
          rw [← hke] at d0
          clear hke
          go_wp2_with fail
          go_still_tail 22, (by kernel_rfl)
          change wpList _ _ _ _ _ wr.drew
          have HBD := hid (show Below wr.heap.size wr wr.drew from (Below.refl _ _).drew)
          have hzd : wr.heap.size ≤ wr.drew.heap.size := Nat.le_refl _
          generalize wr.drew = W2 at *
          clear c0 c1 d0 d1
          go_wp2_with fail
          refine (HC.out).mono ?_
          rintro e w1 ⟨v, rfl, hb1, r, rfl, hr⟩
          have HB1 := hid (HB.out.trans ((HBD.out.trans (hb1.mono hzd)).mono hz))
          have HR := hid hr
          clear hr hb1 HC
          cases r with
          | false =>
            go_wp2_with fail
            go_ret
            refine ⟨_, rfl, HB1.out, false, rfl, ?_⟩
            have h1 := HR.out
            simp only [Bool.false_eq_true, false_iff] at h1 ⊢
            rintro rfl
            exact h1 rfl
          | true =>
            go_wp2_with fail
            go_roundw
            case rel => exact ⟨j + 1, by omega, by go_num, HB1.out, take_snoc_eq HP.out hlt hlt' (ev_ext HKE.out (HR.out.1 (by simp)))⟩
            case measure => simp [intOf]; omega
        · have HKE := hid hke
          have hne : (l[j].kind != l'[j].kind) = true := by simpa using hke
          clear hke
          go_wp2_with fail
          go_quiet (fail)
          have HBQ := hid (show Below wr.heap.size wr (wr.drewN nq) from ⟨rfl, rfl, rfl, Nat.le_refl _, fun _ _ => rfl⟩)
          generalize wr.drewN nq = W2 at *
          go_wp2_with fail
          go_ret
          refine ⟨_, rfl, HB.out.trans (HBQ.out.mono hz), false, rfl, ?_⟩
          simp only [Bool.false_eq_true, false_iff]
          rintro rfl
          exact HKE.out rfl
      · go_wp2_with fail
        go_ret
        refine ⟨_, rfl, HB.out, true, rfl, ?_⟩
        have h1 := HP.out
        have h2 := E4.out
        rw [List.take_of_length_le (by omega), List.take_of_length_le (by omega)] at h1
        simp [h1]
  · have e4' : ((l.length : Int) != (l'.length : Int)) = true := by simp; omega
    go_enter Tryd.func40, Tryd.ntmps40
    go_wp2_with fail
    go_ret
    refine ⟨_, rfl, Below.refl _ _, false, rfl, by simp; rintro rfl; exact e4 rfl⟩
end Go.Proofs.YtlpmfkpefoegeabDoor

namespace Go.Proofs.YtlpmfkpefoegeabDoor
set_option linter.unusedVariables false
set_option linter.unusedSimpArgs false
open Go.RowKit
theorem clsNodes_sumA : ∀ l : List Cl, clsNodes l = (l.map Cl.nodes).sum
  | [] => rfl
  | c :: r => by simp [clsNodes, clsNodes_sumA r]
set_option maxRecDepth 100000 in
set_option maxHeartbeats 4000000 in
theorem solveAll_walk (P : List Cl) (Q : List Tm) (vars fuel : Int) (hnp : (P.map Cl.nodes).sum ≤ 4194304) (hnq : Tm.nodesL Q ≤ 4194304) (hv : I64 vars) (hf : I64 fuel) (w : World) (pv qv : Value) (hpv : ClsR (fun _ => True) w P pv) (hqv : TmsR (fun _ => True) w Q qv) :
    Calls Tryd.prog 7 #[pv, qv, .int .i64 vars, .int .i64 fuel] w (Pure w (fun r _ => r = .bool true)) := by
  rw [← clsNodes_sumA] at hnp
  have HC1 := hid (progCopy_ok P _ w pv hpv)
  have HC2 := hid (fun (W : World) (hb : Below w.heap.size w W) => copyTerms_ok Q _ W qv (SlR.keeps Tm.rep_lasts hqv (Keeps.of_below hb)))
  have HA := hid (fun (W : World) (pv qv : Value) hp hq => sall_ok (P := P) (Q := Q) (vars := vars) (fuel := fuel) (by omega) (by omega) hv hf W pv qv hp hq)
  have HB := hid (fun (W : World) (hb : Below w.heap.size w W) => psolved_ok (P := P) (Q := Q) (vars := vars) (fuel := fuel) hnp hnq hv hf W pv qv (SlR.mono Cl.rep_lasts (by omega) (SlR.keeps Cl.rep_lasts hpv (Keeps.of_below hb)) (fun b hb _ => hb)) (SlR.mono Tm.rep_lasts (by omega) (SlR.keeps Tm.rep_lasts hqv (Keeps.of_below hb)) (fun b hb _ => hb)))
  have hsame := solved_same P Q vars fuel
  rw [hsame] at HA
  generalize provedR P Q vars fuel = r at *
  obtain ⟨l, er⟩ := r
  obtain ⟨pa, pc, -, -, rfl, -⟩ := SlR.at hpv
  obtain ⟨qa, qc, -, -, rfl, -⟩ := SlR.at hqv
  clear hpv hqv hsame
  go_enter Tryd.func7, Tryd.ntmps7
  go_wp2_with fail
  refine (HC1.out).mono ?_
  rintro e w1 ⟨v1, rfl, hb1, hc1⟩
  have HB1 := hid hb1
  have HP1 := hid hc1
  clear hb1 hc1 HC1
  go_wp2_with fail
  refine (HC2.out w1 HB1.out).mono ?_
  rintro e w2 ⟨v2, rfl, hb2, hc2⟩
  have HB2 := hid (HB1.out.trans (hb2.mono HB1.out.size))
  have HP2 := hid (SlR.keeps Cl.rep_lasts HP1.out (Keeps.of_below hb2))
  have HQ2 := hid hc2
  clear hb2 hc2 HC2
  go_wp2_with fail
  refine (HA.out w2 _ _ (SlR.mono Cl.rep_lasts (by omega) HP2.out (fun b hb _ => hb)) (SlR.mono Tm.rep_lasts (by omega) HQ2.out (fun b hb _ => hb))).mono ?_
  rintro e w3 ⟨av, rfl, hb3, hav⟩
  have HB3 := hid (HB2.out.trans (hb3.mono HB2.out.size))
  have HAV := hid hav
  clear hb3 hav HA
  go_wp2_with fail
  refine (HB.out w3 HB3.out).mono ?_
  rintro e w4 ⟨bv, rfl, hb4, hbv⟩
  have HB4 := hid (HB3.out.trans (hb4.mono HB3.out.size))
  have HAV4 := hid (SlR.keeps evR_lasts HAV.out (Keeps.of_below hb4))
  have HBV := hid hbv
  clear hb4 hbv HB HAV
  have hee : (er == er) = true := by simp
  go_wp2_with fail
  refine (sameEventsR_ok l l _ w4 av bv HAV4.out HBV.out).mono ?_
  rintro e w5 ⟨v, rfl, hb5, t, rfl, ht⟩
  obtain rfl : t = true := ht.2 rfl
  have HB5 := hid (HB4.out.trans (hb5.mono HB4.out.size))
  clear hb5 ht
  go_wp2_with fail
  refine (solvesL_ok w5).mono ?_
  rintro e w6 ⟨v, rfl, hb6, rfl⟩
  have HB6 := hid (HB5.out.trans (hb6.mono HB5.out.size))
  clear hb6
  go_wp2_with fail
  go_ret
  exact ⟨_, rfl, HB6.out, rfl⟩
end Go.Proofs.YtlpmfkpefoegeabDoor
