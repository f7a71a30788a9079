/-
  Terms that are alike.
  Terms that are alike.
  Lists of terms that are alike.
  Events that are alike.
-/
import Derived.Test.YtlpmfkpefoegeabQReg
import Derived.Test.YtlpmfkpefoegeabQSolveZ
namespace Go.Proofs.Ytlpmfkpefoegeab
set_option linter.unusedVariables false
set_option linter.unusedSimpArgs false
open Go.RowKit

theorem toList_ne {s s' : ByteArray} (h : ¬ s = s') : ¬ s.toList = s'.toList := by
  intro e
  rw [ByteArray.toList_eq, ByteArray.toList_eq] at e
  apply h
  cases s; cases s'
  congr 1
  exact Array.toList_inj.1 e

theorem take_next {α : Type} {l l' : List α} {k : Nat} (h : l.take k = l'.take k) (h1 : k < l.length) (h2 : k < l'.length) (he : l[k] = l'[k]) : l.take (k + 1) = l'.take (k + 1) := by
  rw [List.take_succ_eq_append_getElem h1, List.take_succ_eq_append_getElem h2, h, he]

def SameOK (f : FuncId) (t : Tm) : Prop := ∀ (t' : Tm) (A : Nat → Prop) (w : World) (us vs : List Value), Tm.rep A w t us → Tm.rep A w t' vs →
  Calls Try.prog f #[.agg us.toArray, .agg vs.toArray] w (Pure w fun v _ => ∃ r, v = .bool r ∧ (r = true ↔ t = t'))

end Go.Proofs.Ytlpmfkpefoegeab

namespace Go.Proofs.Ytlpmfkpefoegeab
set_option linter.unusedVariables false
set_option linter.unusedSimpArgs false
open Go.RowKit

set_option maxHeartbeats 400000 in
theorem same_keep_of (k n : Int) (s : ByteArray) (l : List Tm) (ih : ∀ t ∈ l, SameOK 33 t) : SameOK 33 (.mk k n s l) := by
  rintro ⟨k', n', s', l'⟩ A w us vs hu hv
  rw [Tm.rep_iff] at hu hv
  obtain ⟨hk, hn, hs, u, rfl, hl⟩ := hu
  obtain ⟨hk', hn', hs', v, rfl, hl'⟩ := hv
  obtain ⟨a, cap, b, off, rfl, hlc, hcm, hlb, ha, he⟩ := hl.at
  obtain ⟨a', cap', b', off', rfl, hlc', hcm', hlb', ha', he'⟩ := hl'.at
  have HE := hid he
  have HA := hid ha
  have HE' := hid he'
  have HA' := hid ha'
  have IH := hid ih
  clear he ha he' ha' hl hl' ih
  by_cases e1 : k = k'
  · subst e1
    by_cases e2 : n = n'
    · subst e2
      by_cases e3 : s = s'
      · subst e3
        by_cases e4 : l.length = l'.length
        · have E4 := hid e4
          rw [← e4] at hlc' hlb' HA' ⊢
          clear e4
          go_enter Try.func33, Try.ntmps33
          go_wp2_with fail
          go_loopw [37] (fun i wr => ∃ j : Nat, j ≤ l.length ∧ i = .int .i64 j ∧ Below (w.heap.size + 2) ((w.alloc (.cells #[.int .i64 k, .int .i64 n, .string s, .slice a l.length cap] 24)).alloc (.cells #[.int .i64 k, .int .i64 n, .string s, .slice a' l.length cap'] 24)) wr ∧ l.take j = l'.take j) (fun i _ => l.length - (intOf i).toNat)
          case atStart => exact ⟨0, Nat.zero_le _, rfl, Below.refl _ _, by simp⟩
          case round =>
            obtain ⟨j, hj, rfl, hb, hpre⟩ := hrel
            have HB := hid hb
            have HP := hid hpre
            have hz := hb.size
            simp only [World.size_alloc] at hz
            clear hb hpre
            by_cases hlt : j < l.length
            · have hlt' : j < l'.length := by have := E4.out; omega
              obtain ⟨rfl, hAb⟩ := HA.out (by omega)
              obtain ⟨rfl, hAb'⟩ := HA'.out (by omega)
              have hk2 : Keeps A w wr := ((Keeps.alloc _ _ _).trans (Keeps.alloc _ _ _)).trans (Keeps.of_below (HB.out.mono (by simp)))
              obtain ⟨sa, sc, c0, c1, c2, c3, hr⟩ := tm_cells HE.out hAb hk2 hlt
              obtain ⟨sa', sc', d0, d1, d2, d3, hr'⟩ := tm_cells HE'.out hAb' hk2 hlt'
              have f0 : wr.cell? ⟨w.heap.size, 3, none⟩ = some (.slice (some ⟨b, off, none⟩) l.length cap) := by
                rw [HB.out.cell (by simp)]; simp
              have f1 : wr.cell? ⟨w.heap.size + 1, 3, none⟩ = some (.slice (some ⟨b', off', none⟩) l.length cap') := by
                rw [HB.out.cell (by simp)]; simp
              have HC := hid (IH.out _ (List.getElem_mem hlt) _ _ _ _ _ (Tm.rep_lasts.1 _ _ _ _ _ hr (Keeps.drew _ _)) (Tm.rep_lasts.1 _ _ _ _ _ hr' (Keeps.drew _ _)))
              clear hr hr' hk2
              go_wp2_with fail
              go_region_held3 (fun w' => w'.cell? ⟨w.heap.size, 3, none⟩ = some (.slice (some ⟨b, off, none⟩) l.length cap) ∧ w'.cell? ⟨w.heap.size + 1, 3, none⟩ = some (.slice (some ⟨b', off', none⟩) l.length cap') ∧
                  w'.cell? ⟨b, off + j * 4, none⟩ = some (.int .i64 l[j].kind) ∧ w'.cell? ⟨b, off + j * 4 + 1, none⟩ = some (.int .i64 l[j].n) ∧ w'.cell? ⟨b, off + j * 4 + 2, none⟩ = some (.string l[j].s) ∧ w'.cell? ⟨b, off + j * 4 + 3, none⟩ = some (.slice sa l[j].args.length sc) ∧
                  w'.cell? ⟨b', off' + j * 4, none⟩ = some (.int .i64 l'[j].kind) ∧ w'.cell? ⟨b', off' + j * 4 + 1, none⟩ = some (.int .i64 l'[j].n) ∧ w'.cell? ⟨b', off' + j * 4 + 2, none⟩ = some (.string l'[j].s) ∧ w'.cell? ⟨b', off' + j * 4 + 3, none⟩ = some (.slice sa' l'[j].args.length sc'))
                (first | exact ⟨f0, f1, c0, c1, c2, c3, d0, d1, d2, d3⟩ | exact ⟨bc hb1 f0, bc hb1 f1, bc hb1 c0, bc hb1 c1, bc hb1 c2, bc hb1 c3, bc hb1 d0, bc hb1 d1, bc hb1 d2, bc hb1 d3⟩)
                ((go_at_call 33; refine (HC.out).mono ?_; rintro e w1 ⟨v, rfl, hb1, r, rfl, hr⟩))
              have HB1 := hid (HB.out.drew.trans (hb1.mono (by simp; omega)))
              have HR := hid hr
              clear hr hb1 HC c0 c1 c2 c3 d0 d1 d2 d3 f0 f1
              cases r with
              | false =>
                go_wp2_with fail
                go_ret
                refine ⟨_, rfl, below_pure (below_pure (HB1.out.mono (by simp))), false, rfl, ?_⟩
                have h1 := HR.out
                simp only [Bool.false_eq_true, false_iff, Tm.mk.injEq, true_and] at h1 ⊢
                rintro rfl
                exact h1 rfl
              | true =>
                go_wp2_with fail
                go_roundw
                case rel => exact ⟨j + 1, by omega, by go_num, HB1.out, take_next HP.out hlt hlt' (by simpa using HR.out)⟩
                case measure => simp [intOf]; omega
            · go_wp2_with fail
              go_ret
              refine ⟨_, rfl, below_pure (below_pure (HB.out.mono (by simp))), true, rfl, ?_⟩
              have h1 := HP.out
              have h2 := E4.out
              rw [List.take_of_length_le (by omega), List.take_of_length_le (by omega)] at h1
              simp [h1]
        · have e4' : ((l.length : Int) != (l'.length : Int)) = true := by simp; omega
          go_enter Try.func33, Try.ntmps33
          go_wp2_with fail
          go_ret
          refine ⟨_, rfl, ((Below.refl _ _).alloc (Nat.le_refl _) _).alloc (by simp) _, false, rfl, by simp; rintro rfl; exact e4 rfl⟩
      · have e3' := toList_ne e3
        go_enter Try.func33, Try.ntmps33
        go_wp2_with fail
        go_ret
        refine ⟨_, rfl, ((Below.refl _ _).alloc (Nat.le_refl _) _).alloc (by simp) _, false, rfl, by simp [e3]⟩
    · have e2' : (n != n') = true := by simpa using e2
      go_enter Try.func33, Try.ntmps33
      go_wp2_with fail
      go_ret
      refine ⟨_, rfl, ((Below.refl _ _).alloc (Nat.le_refl _) _).alloc (by simp) _, false, rfl, by simp [e2]⟩
  · have e1' : (k != k') = true := by simpa using e1
    go_enter Try.func33, Try.ntmps33
    go_wp2_with fail
    go_ret
    refine ⟨_, rfl, ((Below.refl _ _).alloc (Nat.le_refl _) _).alloc (by simp) _, false, rfl, by simp [e1]⟩

theorem same_keep_ok : ∀ t, SameOK 33 t := by
  intro t
  induction t using Tm.induct with
  | h k n s l ih => exact same_keep_of k n s l ih
end Go.Proofs.Ytlpmfkpefoegeab

namespace Go.Proofs.Ytlpmfkpefoegeab
set_option linter.unusedVariables false
set_option linter.unusedSimpArgs false
open Go.RowKit

set_option maxHeartbeats 1000000 in
theorem sames_ok (l l' : List Tm) (A : Nat → Prop) (w : World) (u v : Value) (hu : TmsR A w l u) (hv : TmsR A w l' v) :
    Calls Try.prog 14 #[u, v] w (Pure w fun r _ => ∃ t, r = .bool t ∧ (t = true ↔ l = l')) := by
  obtain ⟨a, cap, b, off, rfl, hlc, hcm, hlb, ha, he⟩ := hu.at
  obtain ⟨a', cap', b', off', rfl, hlc', hcm', hlb', ha', he'⟩ := hv.at
  have HE := hid he
  have HA := hid ha
  have HE' := hid he'
  have HA' := hid ha'
  clear he ha he' ha' hu hv
  by_cases e4 : l.length = l'.length
  · have E4 := hid e4
    rw [← e4] at hlc' hlb' HA' ⊢
    clear e4
    go_enter Try.func14, Try.ntmps14
    go_wp2_with fail
    go_loopw [13] (fun i wr => ∃ j : Nat, j ≤ l.length ∧ i = .int .i64 j ∧ Below w.heap.size w wr ∧ l.take j = l'.take j) (fun i _ => l.length - (intOf i).toNat)
    case atStart => exact ⟨0, Nat.zero_le _, rfl, Below.refl _ _, by simp⟩
    case round =>
      obtain ⟨j, hj, rfl, hb, hpre⟩ := hrel
      have HB := hid hb
      have HP := hid hpre
      have hz := hb.size
      clear hb hpre
      by_cases hlt : j < l.length
      · have hlt' : j < l'.length := by have := E4.out; omega
        obtain ⟨rfl, hAb⟩ := HA.out (by omega)
        obtain ⟨rfl, hAb'⟩ := HA'.out (by omega)
        obtain ⟨sa, sc, c0, c1, c2, c3, hr⟩ := tm_cells HE.out hAb (Keeps.of_below HB.out) hlt
        obtain ⟨sa', sc', d0, d1, d2, d3, hr'⟩ := tm_cells HE'.out hAb' (Keeps.of_below HB.out) hlt'
        have HC := hid (same_keep_ok l[j] l'[j] _ _ _ _ (Tm.rep_lasts.1 _ _ _ _ _ hr (Keeps.drew _ _)) (Tm.rep_lasts.1 _ _ _ _ _ hr' (Keeps.drew _ _)))
        have hi0 : (0 : Int) ≤ (j : Int) := Int.natCast_nonneg _
        have hi1 : (j : Int) < (l.length : Int) := by omega
        clear hr hr'
        go_wp2_with fail
        go_region_held3 (fun w' => w'.cell? ⟨b, off + j * 4, none⟩ = some (.int .i64 l[j].kind) ∧ w'.cell? ⟨b, off + j * 4 + 1, none⟩ = some (.int .i64 l[j].n) ∧ w'.cell? ⟨b, off + j * 4 + 2, none⟩ = some (.string l[j].s) ∧ w'.cell? ⟨b, off + j * 4 + 3, none⟩ = some (.slice sa l[j].args.length sc) ∧
            w'.cell? ⟨b', off' + j * 4, none⟩ = some (.int .i64 l'[j].kind) ∧ w'.cell? ⟨b', off' + j * 4 + 1, none⟩ = some (.int .i64 l'[j].n) ∧ w'.cell? ⟨b', off' + j * 4 + 2, none⟩ = some (.string l'[j].s) ∧ w'.cell? ⟨b', off' + j * 4 + 3, none⟩ = some (.slice sa' l'[j].args.length sc'))
          (first | exact ⟨c0, c1, c2, c3, d0, d1, d2, d3⟩ | exact ⟨bc hb1 c0, bc hb1 c1, bc hb1 c2, bc hb1 c3, bc hb1 d0, bc hb1 d1, bc hb1 d2, bc hb1 d3⟩)
          ((go_at_call 33; refine (HC.out).mono ?_; rintro e w1 ⟨v, rfl, hb1, r, rfl, hr⟩))
        have HB1 := hid (HB.out.drew.trans (hb1.mono (by simp; omega)))
        have HR := hid hr
        clear hr hb1 HC c0 c1 c2 c3 d0 d1 d2 d3
        cases r with
        | false =>
          go_wp2_with fail
          go_ret
          refine ⟨_, rfl, HB1.out, false, rfl, ?_⟩
          have h1 := HR.out
          simp only [Bool.false_eq_true, false_iff] at h1 ⊢
          rintro rfl
          exact h1 rfl
        | true =>
          go_wp2_with fail
          go_roundw
          case rel => exact ⟨j + 1, by omega, by go_num, HB1.out, take_next HP.out hlt hlt' (by simpa using HR.out)⟩
          case measure => simp [intOf]; omega
      · go_wp2_with fail
        go_ret
        refine ⟨_, rfl, HB.out, true, rfl, ?_⟩
        have h1 := HP.out
        have h2 := E4.out
        rw [List.take_of_length_le (by omega), List.take_of_length_le (by omega)] at h1
        simp [h1]
  · have e4' : ((l.length : Int) != (l'.length : Int)) = true := by simp; omega
    go_enter Try.func14, Try.ntmps14
    go_wp2_with fail
    go_ret
    refine ⟨_, rfl, Below.refl _ _, false, rfl, by simp; rintro rfl; exact e4 rfl⟩
end Go.Proofs.Ytlpmfkpefoegeab

namespace Go.Proofs.Ytlpmfkpefoegeab
set_option linter.unusedVariables false
set_option linter.unusedSimpArgs false
open Go.RowKit

theorem ev_cells {A : Nat → Prop} {w wr : World} {l : List Ev} {b off : Nat} (he : Elems A w 2 evR l b off) (hA : A b) (hk : Keeps A w wr) {k : Nat} (hlt : k < l.length) :
    ∃ a cap, wr.cell? ⟨b, off + k * 2, none⟩ = some (.int .i64 l[k].kind) ∧ wr.cell? ⟨b, off + k * 2 + 1, none⟩ = some (.slice a l[k].terms.length cap) ∧ TmsR A wr l[k].terms (.slice a l[k].terms.length cap) ∧ I64 l[k].kind := by
  obtain ⟨vs, hvl, hvr, hrow⟩ := he k _ (List.getElem?_eq_getElem hlt)
  have hrow' := RowAt.keeps hA hrow hk
  obtain ⟨v, rfl, hv, hi⟩ := hvr
  obtain ⟨a, cap, -, -, rfl, -⟩ := SlR.at hv
  exact ⟨a, cap, hrow' 0 _ rfl, hrow' 1 _ rfl, SlR.keeps Tm.rep_lasts hv hk, hi⟩

theorem ev_ext {a b : Ev} (h1 : a.kind = b.kind) (h2 : a.terms = b.terms) : a = b := by
  cases a; cases b; simp only at h1 h2; subst h1; subst h2; rfl

theorem take_snoc_eq {α : Type} {l l' : List α} {j : Nat} (h : l.take j = l'.take j) (h1 : j < l.length) (h2 : j < l'.length) (e : l[j] = l'[j]) : l.take (j + 1) = l'.take (j + 1) := by
  rw [List.take_succ_eq_append_getElem h1, List.take_succ_eq_append_getElem h2, h, e]

set_option maxRecDepth 100000 in
set_option maxHeartbeats 2000000 in
theorem sameEvents_ok (l l' : List Ev) (A : Nat → Prop) (w : World) (u v : Value) (hu : EvsR A w l u) (hv : EvsR A w l' v) :
    Calls Try.prog 24 #[u, v] w (Pure w fun r _ => ∃ t, r = .bool t ∧ (t = true ↔ l = l')) := by
  obtain ⟨a, cap, b, off, rfl, hlc, hcm, hlb, ha, he⟩ := SlR.at hu
  obtain ⟨a', cap', b', off', rfl, hlc', hcm', hlb', ha', he'⟩ := SlR.at hv
  have HE := hid he
  have HA := hid ha
  have HE' := hid he'
  have HA' := hid ha'
  clear he ha he' ha' hu hv
  by_cases e4 : l.length = l'.length
  · have E4 := hid e4
    rw [← e4] at hlc' hlb' HA' ⊢
    clear e4
    go_enter Try.func24, Try.ntmps24
    go_wp2_with fail
    go_loopw [13] (fun i wr => ∃ j : Nat, j ≤ l.length ∧ i = .int .i64 j ∧ Below w.heap.size w wr ∧ l.take j = l'.take j) (fun i _ => l.length - (intOf i).toNat)
    case atStart => exact ⟨0, Nat.zero_le _, rfl, Below.refl _ _, by simp⟩
    case round =>
      obtain ⟨j, hj, rfl, hb, hpre⟩ := hrel
      have HB := hid hb
      have HP := hid hpre
      have hz := hb.size
      clear hb hpre
      by_cases hlt : j < l.length
      · have hlt' : j < l'.length := by have := E4.out; omega
        obtain ⟨rfl, hAb⟩ := HA.out (by omega)
        obtain ⟨rfl, hAb'⟩ := HA'.out (by omega)
        obtain ⟨sa, sc, c0, c1, hr, hk⟩ := ev_cells HE.out hAb (Keeps.of_below HB.out) hlt
        obtain ⟨sa', sc', d0, d1, hr', hk'⟩ := ev_cells HE'.out hAb' (Keeps.of_below HB.out) hlt'
        have hbl := World.block_lt_of_cell? wr _ c0
        have hbl' := World.block_lt_of_cell? wr _ d0
        simp only at hbl hbl'
        have HC := hid (sames_ok l[j].terms l'[j].terms _ wr.drew _ _ (SlR.keeps Tm.rep_lasts hr (Keeps.drew _ _)) (SlR.keeps Tm.rep_lasts hr' (Keeps.drew _ _)))
        have hi0 : (0 : Int) ≤ (j : Int) := Int.natCast_nonneg _
        have hi1 : (j : Int) < (l.length : Int) := by omega
        clear hr hr' hk hk'
        by_cases hke : l[j].kind = l'[j].kind
        · have HKE := hid hke
          rw [← hke] at d0
          clear hke
          go_wp2_with fail
          go_still_tail 22, (by kernel_rfl)
          change wpList _ _ _ _ _ wr.drew
          have HBD := hid (show Below wr.heap.size wr wr.drew from (Below.refl _ _).drew)
          have hzd : wr.heap.size ≤ wr.drew.heap.size := Nat.le_refl _
          generalize wr.drew = W2 at *
          clear c0 c1 d0 d1
          go_wp2_with fail
          refine (HC.out).mono ?_
          rintro e w1 ⟨v, rfl, hb1, r, rfl, hr⟩
          have HB1 := hid (HB.out.trans ((HBD.out.trans (hb1.mono hzd)).mono hz))
          have HR := hid hr
          clear hr hb1 HC
          cases r with
          | false =>
            go_wp2_with fail
            go_ret
            refine ⟨_, rfl, HB1.out, false, rfl, ?_⟩
            have h1 := HR.out
            simp only [Bool.false_eq_true, false_iff] at h1 ⊢
            rintro rfl
            exact h1 rfl
          | true =>
            go_wp2_with fail
            go_roundw
            case rel => exact ⟨j + 1, by omega, by go_num, HB1.out, take_snoc_eq HP.out hlt hlt' (ev_ext HKE.out (HR.out.1 (by simp)))⟩
            case measure => simp [intOf]; omega
        · have HKE := hid hke
          have hne : (l[j].kind != l'[j].kind) = true := by simpa using hke
          clear hke
          go_wp2_with fail
          go_quiet (fail)
          have HBQ := hid (show Below wr.heap.size wr (wr.drewN nq) from ⟨rfl, rfl, rfl, Nat.le_refl _, fun _ _ => rfl⟩)
          generalize wr.drewN nq = W2 at *
          go_wp2_with fail
          go_ret
          refine ⟨_, rfl, HB.out.trans (HBQ.out.mono hz), false, rfl, ?_⟩
          simp only [Bool.false_eq_true, false_iff]
          rintro rfl
          exact HKE.out rfl
      · go_wp2_with fail
        go_ret
        refine ⟨_, rfl, HB.out, true, rfl, ?_⟩
        have h1 := HP.out
        have h2 := E4.out
        rw [List.take_of_length_le (by omega), List.take_of_length_le (by omega)] at h1
        simp [h1]
  · have e4' : ((l.length : Int) != (l'.length : Int)) = true := by simp; omega
    go_enter Try.func24, Try.ntmps24
    go_wp2_with fail
    go_ret
    refine ⟨_, rfl, Below.refl _ _, false, rfl, by simp; rintro rfl; exact e4 rfl⟩
end Go.Proofs.Ytlpmfkpefoegeab
