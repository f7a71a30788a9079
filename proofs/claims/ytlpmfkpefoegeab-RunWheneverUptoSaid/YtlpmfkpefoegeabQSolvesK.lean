/-
  Does solve answer at all?
-/
import Derived.Test.YtlpmfkpefoegeabHLoad
import Derived.Test.YtlpmfkpefoegeabHBack
import Derived.Test.YtlpmfkpefoegeabQRead
import Derived.Test.YtlpmfkpefoegeabQPlace
import Derived.Test.YtlpmfkpefoegeabQFront2
import Derived.Test.YtlpmfkpefoegeabQRen
import Derived.Test.YtlpmfkpefoegeabQFits
namespace Go.Proofs.Ytlpmfkpefoegeab
set_option linter.unusedVariables false
set_option linter.unusedSimpArgs false
open Go.RowKit
abbrev EvsR (A : Nat → Prop) (w : World) (l : List Ev) (v : Value) : Prop := SlR 2 evR A w l v
section
variable {base : Nat} {P : List Cl} {q g mb : Nat} {pv tv cv ov : Value} {s : Sv} {w : World}
end
section
variable {P : List Cl} {Q : List Tm} {vars fuel : Int}
end
theorem toList_ne {s s' : ByteArray} (h : ¬ s = s') : ¬ s.toList = s'.toList := by
  intro e
  rw [ByteArray.toList_eq, ByteArray.toList_eq] at e
  apply h
  cases s; cases s'
  congr 1
  exact Array.toList_inj.1 e
theorem take_next {α : Type} {l l' : List α} {k : Nat} (h : l.take k = l'.take k) (h1 : k < l.length) (h2 : k < l'.length) (he : l[k] = l'[k]) : l.take (k + 1) = l'.take (k + 1) := by
  rw [List.take_succ_eq_append_getElem h1, List.take_succ_eq_append_getElem h2, h, he]
def SameOK (f : FuncId) (t : Tm) : Prop := ∀ (t' : Tm) (A : Nat → Prop) (w : World) (us vs : List Value), Tm.rep A w t us → Tm.rep A w t' vs →
  Calls Try.prog f #[.agg us.toArray, .agg vs.toArray] w (Pure w fun v _ => ∃ r, v = .bool r ∧ (r = true ↔ t = t'))
set_option maxHeartbeats 400000 in
theorem same_keep_of (k n : Int) (s : ByteArray) (l : List Tm) (ih : ∀ t ∈ l, SameOK 33 t) : SameOK 33 (.mk k n s l) := by
  rintro ⟨k', n', s', l'⟩ A w us vs hu hv
  rw [Tm.rep_iff] at hu hv
  obtain ⟨hk, hn, hs, u, rfl, hl⟩ := hu
  obtain ⟨hk', hn', hs', v, rfl, hl'⟩ := hv
  obtain ⟨a, cap, b, off, rfl, hlc, hcm, hlb, ha, he⟩ := hl.at
  obtain ⟨a', cap', b', off', rfl, hlc', hcm', hlb', ha', he'⟩ := hl'.at
  have HE := hid he
  have HA := hid ha
  have HE' := hid he'
  have HA' := hid ha'
  have IH := hid ih
  clear he ha he' ha' hl hl' ih
  by_cases e1 : k = k'
  · subst e1
    by_cases e2 : n = n'
    · subst e2
      by_cases e3 : s = s'
      · subst e3
        by_cases e4 : l.length = l'.length
        · have E4 := hid e4
          rw [← e4] at hlc' hlb' HA' ⊢
          clear e4
          go_enter Try.func33, Try.ntmps33
          go_wp2_with fail
          go_loopw [37] (fun i wr => ∃ j : Nat, j ≤ l.length ∧ i = .int .i64 j ∧ Below (w.heap.size + 2) ((w.alloc (.cells #[.int .i64 k, .int .i64 n, .string s, .slice a l.length cap] 24)).alloc (.cells #[.int .i64 k, .int .i64 n, .string s, .slice a' l.length cap'] 24)) wr ∧ l.take j = l'.take j) (fun i _ => l.length - (intOf i).toNat)
          case atStart => exact ⟨0, Nat.zero_le _, rfl, Below.refl _ _, by simp⟩
          case round =>
            obtain ⟨j, hj, rfl, hb, hpre⟩ := hrel
            have HB := hid hb
            have HP := hid hpre
            have hz := hb.size
            simp only [World.size_alloc] at hz
            clear hb hpre
            by_cases hlt : j < l.length
            · have hlt' : j < l'.length := by have := E4.out; omega
              obtain ⟨rfl, hAb⟩ := HA.out (by omega)
              obtain ⟨rfl, hAb'⟩ := HA'.out (by omega)
              have hk2 : Keeps A w wr := ((Keeps.alloc _ _ _).trans (Keeps.alloc _ _ _)).trans (Keeps.of_below (HB.out.mono (by simp)))
              obtain ⟨sa, sc, c0, c1, c2, c3, hr⟩ := tm_cells HE.out hAb hk2 hlt
              obtain ⟨sa', sc', d0, d1, d2, d3, hr'⟩ := tm_cells HE'.out hAb' hk2 hlt'
              have f0 : wr.cell? ⟨w.heap.size, 3, none⟩ = some (.slice (some ⟨b, off, none⟩) l.length cap) := by
                rw [HB.out.cell (by simp)]; simp
              have f1 : wr.cell? ⟨w.heap.size + 1, 3, none⟩ = some (.slice (some ⟨b', off', none⟩) l.length cap') := by
                rw [HB.out.cell (by simp)]; simp
              have HC := hid (IH.out _ (List.getElem_mem hlt) _ _ _ _ _ (Tm.rep_lasts.1 _ _ _ _ _ hr (Keeps.drew _ _)) (Tm.rep_lasts.1 _ _ _ _ _ hr' (Keeps.drew _ _)))
              clear hr hr' hk2
              go_wp2_with fail
              go_region_held3 (fun w' => w'.cell? ⟨w.heap.size, 3, none⟩ = some (.slice (some ⟨b, off, none⟩) l.length cap) ∧ w'.cell? ⟨w.heap.size + 1, 3, none⟩ = some (.slice (some ⟨b', off', none⟩) l.length cap') ∧
                  w'.cell? ⟨b, off + j * 4, none⟩ = some (.int .i64 l[j].kind) ∧ w'.cell? ⟨b, off + j * 4 + 1, none⟩ = some (.int .i64 l[j].n) ∧ w'.cell? ⟨b, off + j * 4 + 2, none⟩ = some (.string l[j].s) ∧ w'.cell? ⟨b, off + j * 4 + 3, none⟩ = some (.slice sa l[j].args.length sc) ∧
                  w'.cell? ⟨b', off' + j * 4, none⟩ = some (.int .i64 l'[j].kind) ∧ w'.cell? ⟨b', off' + j * 4 + 1, none⟩ = some (.int .i64 l'[j].n) ∧ w'.cell? ⟨b', off' + j * 4 + 2, none⟩ = some (.string l'[j].s) ∧ w'.cell? ⟨b', off' + j * 4 + 3, none⟩ = some (.slice sa' l'[j].args.length sc'))
                (first | exact ⟨f0, f1, c0, c1, c2, c3, d0, d1, d2, d3⟩ | exact ⟨bc hb1 f0, bc hb1 f1, bc hb1 c0, bc hb1 c1, bc hb1 c2, bc hb1 c3, bc hb1 d0, bc hb1 d1, bc hb1 d2, bc hb1 d3⟩)
                ((go_at_call 33; refine (HC.out).mono ?_; rintro e w1 ⟨v, rfl, hb1, r, rfl, hr⟩))
              have HB1 := hid (HB.out.drew.trans (hb1.mono (by simp; omega)))
              have HR := hid hr
              clear hr hb1 HC c0 c1 c2 c3 d0 d1 d2 d3 f0 f1
              cases r with
              | false =>
                go_wp2_with fail
                go_ret
                refine ⟨_, rfl, below_pure (below_pure (HB1.out.mono (by simp))), false, rfl, ?_⟩
                have h1 := HR.out
                simp only [Bool.false_eq_true, false_iff, Tm.mk.injEq, true_and] at h1 ⊢
                rintro rfl
                exact h1 rfl
              | true =>
                go_wp2_with fail
                go_roundw
                case rel => exact ⟨j + 1, by omega, by go_num, HB1.out, take_next HP.out hlt hlt' (by simpa using HR.out)⟩
                case measure => simp [intOf]; omega
            · go_wp2_with fail
              go_ret
              refine ⟨_, rfl, below_pure (below_pure (HB.out.mono (by simp))), true, rfl, ?_⟩
              have h1 := HP.out
              have h2 := E4.out
              rw [List.take_of_length_le (by omega), List.take_of_length_le (by omega)] at h1
              simp [h1]
        · have e4' : ((l.length : Int) != (l'.length : Int)) = true := by simp; omega
          go_enter Try.func33, Try.ntmps33
          go_wp2_with fail
          go_ret
          refine ⟨_, rfl, ((Below.refl _ _).alloc (Nat.le_refl _) _).alloc (by simp) _, false, rfl, by simp; rintro rfl; exact e4 rfl⟩
      · have e3' := toList_ne e3
        go_enter Try.func33, Try.ntmps33
        go_wp2_with fail
        go_ret
        refine ⟨_, rfl, ((Below.refl _ _).alloc (Nat.le_refl _) _).alloc (by simp) _, false, rfl, by simp [e3]⟩
    · have e2' : (n != n') = true := by simpa using e2
      go_enter Try.func33, Try.ntmps33
      go_wp2_with fail
      go_ret
      refine ⟨_, rfl, ((Below.refl _ _).alloc (Nat.le_refl _) _).alloc (by simp) _, false, rfl, by simp [e2]⟩
  · have e1' : (k != k') = true := by simpa using e1
    go_enter Try.func33, Try.ntmps33
    go_wp2_with fail
    go_ret
    refine ⟨_, rfl, ((Below.refl _ _).alloc (Nat.le_refl _) _).alloc (by simp) _, false, rfl, by simp [e1]⟩
theorem same_keep_ok : ∀ t, SameOK 33 t := by
  intro t
  induction t using Tm.induct with
  | h k n s l ih => exact same_keep_of k n s l ih
set_option maxHeartbeats 1000000 in
theorem sames_ok (l l' : List Tm) (A : Nat → Prop) (w : World) (u v : Value) (hu : TmsR A w l u) (hv : TmsR A w l' v) :
    Calls Try.prog 14 #[u, v] w (Pure w fun r _ => ∃ t, r = .bool t ∧ (t = true ↔ l = l')) := by
  obtain ⟨a, cap, b, off, rfl, hlc, hcm, hlb, ha, he⟩ := hu.at
  obtain ⟨a', cap', b', off', rfl, hlc', hcm', hlb', ha', he'⟩ := hv.at
  have HE := hid he
  have HA := hid ha
  have HE' := hid he'
  have HA' := hid ha'
  clear he ha he' ha' hu hv
  by_cases e4 : l.length = l'.length
  · have E4 := hid e4
    rw [← e4] at hlc' hlb' HA' ⊢
    clear e4
    go_enter Try.func14, Try.ntmps14
    go_wp2_with fail
    go_loopw [13] (fun i wr => ∃ j : Nat, j ≤ l.length ∧ i = .int .i64 j ∧ Below w.heap.size w wr ∧ l.take j = l'.take j) (fun i _ => l.length - (intOf i).toNat)
    case atStart => exact ⟨0, Nat.zero_le _, rfl, Below.refl _ _, by simp⟩
    case round =>
      obtain ⟨j, hj, rfl, hb, hpre⟩ := hrel
      have HB := hid hb
      have HP := hid hpre
      have hz := hb.size
      clear hb hpre
      by_cases hlt : j < l.length
      · have hlt' : j < l'.length := by have := E4.out; omega
        obtain ⟨rfl, hAb⟩ := HA.out (by omega)
        obtain ⟨rfl, hAb'⟩ := HA'.out (by omega)
        obtain ⟨sa, sc, c0, c1, c2, c3, hr⟩ := tm_cells HE.out hAb (Keeps.of_below HB.out) hlt
        obtain ⟨sa', sc', d0, d1, d2, d3, hr'⟩ := tm_cells HE'.out hAb' (Keeps.of_below HB.out) hlt'
        have HC := hid (same_keep_ok l[j] l'[j] _ _ _ _ (Tm.rep_lasts.1 _ _ _ _ _ hr (Keeps.drew _ _)) (Tm.rep_lasts.1 _ _ _ _ _ hr' (Keeps.drew _ _)))
        have hi0 : (0 : Int) ≤ (j : Int) := Int.natCast_nonneg _
        have hi1 : (j : Int) < (l.length : Int) := by omega
        clear hr hr'
        go_wp2_with fail
        go_region_held3 (fun w' => w'.cell? ⟨b, off + j * 4, none⟩ = some (.int .i64 l[j].kind) ∧ w'.cell? ⟨b, off + j * 4 + 1, none⟩ = some (.int .i64 l[j].n) ∧ w'.cell? ⟨b, off + j * 4 + 2, none⟩ = some (.string l[j].s) ∧ w'.cell? ⟨b, off + j * 4 + 3, none⟩ = some (.slice sa l[j].args.length sc) ∧
            w'.cell? ⟨b', off' + j * 4, none⟩ = some (.int .i64 l'[j].kind) ∧ w'.cell? ⟨b', off' + j * 4 + 1, none⟩ = some (.int .i64 l'[j].n) ∧ w'.cell? ⟨b', off' + j * 4 + 2, none⟩ = some (.string l'[j].s) ∧ w'.cell? ⟨b', off' + j * 4 + 3, none⟩ = some (.slice sa' l'[j].args.length sc'))
          (first | exact ⟨c0, c1, c2, c3, d0, d1, d2, d3⟩ | exact ⟨bc hb1 c0, bc hb1 c1, bc hb1 c2, bc hb1 c3, bc hb1 d0, bc hb1 d1, bc hb1 d2, bc hb1 d3⟩)
          ((go_at_call 33; refine (HC.out).mono ?_; rintro e w1 ⟨v, rfl, hb1, r, rfl, hr⟩))
        have HB1 := hid (HB.out.drew.trans (hb1.mono (by simp; omega)))
        have HR := hid hr
        clear hr hb1 HC c0 c1 c2 c3 d0 d1 d2 d3
        cases r with
        | false =>
          go_wp2_with fail
          go_ret
          refine ⟨_, rfl, HB1.out, false, rfl, ?_⟩
          have h1 := HR.out
          simp only [Bool.false_eq_true, false_iff] at h1 ⊢
          rintro rfl
          exact h1 rfl
        | true =>
          go_wp2_with fail
          go_roundw
          case rel => exact ⟨j + 1, by omega, by go_num, HB1.out, take_next HP.out hlt hlt' (by simpa using HR.out)⟩
          case measure => simp [intOf]; omega
      · go_wp2_with fail
        go_ret
        refine ⟨_, rfl, HB.out, true, rfl, ?_⟩
        have h1 := HP.out
        have h2 := E4.out
        rw [List.take_of_length_le (by omega), List.take_of_length_le (by omega)] at h1
        simp [h1]
  · have e4' : ((l.length : Int) != (l'.length : Int)) = true := by simp; omega
    go_enter Try.func14, Try.ntmps14
    go_wp2_with fail
    go_ret
    refine ⟨_, rfl, Below.refl _ _, false, rfl, by simp; rintro rfl; exact e4 rfl⟩
theorem ev_cells {A : Nat → Prop} {w wr : World} {l : List Ev} {b off : Nat} (he : Elems A w 2 evR l b off) (hA : A b) (hk : Keeps A w wr) {k : Nat} (hlt : k < l.length) :
    ∃ a cap, wr.cell? ⟨b, off + k * 2, none⟩ = some (.int .i64 l[k].kind) ∧ wr.cell? ⟨b, off + k * 2 + 1, none⟩ = some (.slice a l[k].terms.length cap) ∧ TmsR A wr l[k].terms (.slice a l[k].terms.length cap) ∧ I64 l[k].kind := by
  obtain ⟨vs, hvl, hvr, hrow⟩ := he k _ (List.getElem?_eq_getElem hlt)
  have hrow' := RowAt.keeps hA hrow hk
  obtain ⟨v, rfl, hv, hi⟩ := hvr
  obtain ⟨a, cap, -, -, rfl, -⟩ := SlR.at hv
  exact ⟨a, cap, hrow' 0 _ rfl, hrow' 1 _ rfl, SlR.keeps Tm.rep_lasts hv hk, hi⟩
theorem ev_ext {a b : Ev} (h1 : a.kind = b.kind) (h2 : a.terms = b.terms) : a = b := by
  cases a; cases b; simp only at h1 h2; subst h1; subst h2; rfl
theorem take_snoc_eq {α : Type} {l l' : List α} {j : Nat} (h : l.take j = l'.take j) (h1 : j < l.length) (h2 : j < l'.length) (e : l[j] = l'[j]) : l.take (j + 1) = l'.take (j + 1) := by
  rw [List.take_succ_eq_append_getElem h1, List.take_succ_eq_append_getElem h2, h, e]
set_option maxRecDepth 100000 in
set_option maxHeartbeats 2000000 in
theorem sameEvents_ok (l l' : List Ev) (A : Nat → Prop) (w : World) (u v : Value) (hu : EvsR A w l u) (hv : EvsR A w l' v) :
    Calls Try.prog 24 #[u, v] w (Pure w fun r _ => ∃ t, r = .bool t ∧ (t = true ↔ l = l')) := by
  obtain ⟨a, cap, b, off, rfl, hlc, hcm, hlb, ha, he⟩ := SlR.at hu
  obtain ⟨a', cap', b', off', rfl, hlc', hcm', hlb', ha', he'⟩ := SlR.at hv
  have HE := hid he
  have HA := hid ha
  have HE' := hid he'
  have HA' := hid ha'
  clear he ha he' ha' hu hv
  by_cases e4 : l.length = l'.length
  · have E4 := hid e4
    rw [← e4] at hlc' hlb' HA' ⊢
    clear e4
    go_enter Try.func24, Try.ntmps24
    go_wp2_with fail
    go_loopw [13] (fun i wr => ∃ j : Nat, j ≤ l.length ∧ i = .int .i64 j ∧ Below w.heap.size w wr ∧ l.take j = l'.take j) (fun i _ => l.length - (intOf i).toNat)
    case atStart => exact ⟨0, Nat.zero_le _, rfl, Below.refl _ _, by simp⟩
    case round =>
      obtain ⟨j, hj, rfl, hb, hpre⟩ := hrel
      have HB := hid hb
      have HP := hid hpre
      have hz := hb.size
      clear hb hpre
      by_cases hlt : j < l.length
      · have hlt' : j < l'.length := by have := E4.out; omega
        obtain ⟨rfl, hAb⟩ := HA.out (by omega)
        obtain ⟨rfl, hAb'⟩ := HA'.out (by omega)
        obtain ⟨sa, sc, c0, c1, hr, hk⟩ := ev_cells HE.out hAb (Keeps.of_below HB.out) hlt
        obtain ⟨sa', sc', d0, d1, hr', hk'⟩ := ev_cells HE'.out hAb' (Keeps.of_below HB.out) hlt'
        have hbl := World.block_lt_of_cell? wr _ c0
        have hbl' := World.block_lt_of_cell? wr _ d0
        simp only at hbl hbl'
        have HC := hid (sames_ok l[j].terms l'[j].terms _ wr.drew _ _ (SlR.keeps Tm.rep_lasts hr (Keeps.drew _ _)) (SlR.keeps Tm.rep_lasts hr' (Keeps.drew _ _)))
        have hi0 : (0 : Int) ≤ (j : Int) := Int.natCast_nonneg _
        have hi1 : (j : Int) < (l.length : Int) := by omega
        clear hr hr' hk hk'
        by_cases hke : l[j].kind = l'[j].kind
        · have HKE := hid hke
          rw [← hke] at d0
          clear hke
          go_wp2_with fail
          go_still_tail 22, (by kernel_rfl)
          change wpList _ _ _ _ _ wr.drew
          have HBD := hid (show Below wr.heap.size wr wr.drew from (Below.refl _ _).drew)
          have hzd : wr.heap.size ≤ wr.drew.heap.size := Nat.le_refl _
          generalize wr.drew = W2 at *
          clear c0 c1 d0 d1
          go_wp2_with fail
          refine (HC.out).mono ?_
          rintro e w1 ⟨v, rfl, hb1, r, rfl, hr⟩
          have HB1 := hid (HB.out.trans ((HBD.out.trans (hb1.mono hzd)).mono hz))
          have HR := hid hr
          clear hr hb1 HC
          cases r with
          | false =>
            go_wp2_with fail
            go_ret
            refine ⟨_, rfl, HB1.out, false, rfl, ?_⟩
            have h1 := HR.out
            simp only [Bool.false_eq_true, false_iff] at h1 ⊢
            rintro rfl
            exact h1 rfl
          | true =>
            go_wp2_with fail
            go_roundw
            case rel => exact ⟨j + 1, by omega, by go_num, HB1.out, take_snoc_eq HP.out hlt hlt' (ev_ext HKE.out (HR.out.1 (by simp)))⟩
            case measure => simp [intOf]; omega
        · have HKE := hid hke
          have hne : (l[j].kind != l'[j].kind) = true := by simpa using hke
          clear hke
          go_wp2_with fail
          go_quiet (fail)
          have HBQ := hid (show Below wr.heap.size wr (wr.drewN nq) from ⟨rfl, rfl, rfl, Nat.le_refl _, fun _ _ => rfl⟩)
          generalize wr.drewN nq = W2 at *
          go_wp2_with fail
          go_ret
          refine ⟨_, rfl, HB.out.trans (HBQ.out.mono hz), false, rfl, ?_⟩
          simp only [Bool.false_eq_true, false_iff]
          rintro rfl
          exact HKE.out rfl
      · go_wp2_with fail
        go_ret
        refine ⟨_, rfl, HB.out, true, rfl, ?_⟩
        have h1 := HP.out
        have h2 := E4.out
        rw [List.take_of_length_le (by omega), List.take_of_length_le (by omega)] at h1
        simp [h1]
  · have e4' : ((l.length : Int) != (l'.length : Int)) = true := by simp; omega
    go_enter Try.func24, Try.ntmps24
    go_wp2_with fail
    go_ret
    refine ⟨_, rfl, Below.refl _ _, false, rfl, by simp; rintro rfl; exact e4 rfl⟩
end Go.Proofs.Ytlpmfkpefoegeab
namespace Go.Proofs.Ytlpmfkpefoegeab
set_option linter.unusedVariables false
set_option linter.unusedSimpArgs false
def n4 : Tm := .mk 2 4 ByteArray.empty []
def v0 : Tm := .mk 0 0 ByteArray.empty []
def p4 : Tm := .mk 3 0 ⟨#[112]⟩ [n4]
def pV : Tm := .mk 3 0 ⟨#[112]⟩ [v0]
def c4 : Cl := ⟨p4, [], 0⟩
theorem pgood {x : Tm} {N : Int} (hx : x.Good N) : (Tm.mk 3 0 ⟨#[112]⟩ [x]).Good N := by
  refine .comp _ _ ?_ (by decide +kernel) (by simp) (by simp) (fun t ht => ?_)
  · refine .inr ⟨by decide, by decide, fun i h => ?_⟩
    have : i = 0 := by have : (⟨#[112]⟩ : ByteArray).size = 1 := rfl; omega
    subst this
    show (97 : Int) ≤ ((112 : UInt8).toNat : Int) ∧ ((112 : UInt8).toNat : Int) ≤ 122
    decide
  · simp only [List.mem_singleton] at ht
    subst ht
    exact hx
theorem not_known {x : Tm} : ¬ (Tm.mk 3 0 ⟨#[112]⟩ [x]).Known := by
  have h : (⟨#[112]⟩ : ByteArray).toList = [112] := by decide +kernel
  simp [Tm.Known, Tm.args, Tm.s, h]
theorem c4_good : GoodP [c4] := by
  refine ⟨by decide, fun c hc => ?_⟩
  simp only [List.mem_singleton] at hc
  subst hc
  exact ⟨⟨by decide, by decide, by decide, by simp [c4]⟩, .inr rfl, ⟨pgood (.int 4 (by omega) (by omega)), by decide⟩, not_known⟩
theorem pV_good : GoodQ [pV] 1 := by
  refine ⟨by omega, by omega, by decide, fun g hg => ?_⟩
  simp only [List.mem_singleton] at hg
  subst hg
  exact ⟨.inr rfl, pgood (.var 0 (by omega) (by omega)), by decide⟩
theorem look_n4 (E : Env) : slook E n4 = n4 := slook_stop (.inl (by decide))
theorem look_p (E : Env) (x : Tm) : slook E (.mk 3 0 ⟨#[112]⟩ [x]) = .mk 3 0 ⟨#[112]⟩ [x] := slook_stop (.inl (by simp [Tm.kind]))
theorem look_v0 : slook [] v0 = v0 := slook_stop (.inr rfl)
theorem look_v0' : slook [(0, n4)] v0 = n4 := by simp [slook, slookN, v0, Tm.kind, Tm.n, eget, n4]
theorem uni_p : uniS 400 [(p4, pV)] [] = ⟨true, [(0, n4)], 397⟩ := by
  rw [uniS]
  simp only [p4, pV, look_p]
  rw [if_neg (by simp [Tm.kind]), if_neg (by simp [Tm.kind]), if_neg (by simp [Tm.kind, Tm.n, Tm.s, Tm.args])]
  simp only [Tm.args, List.zip_cons_cons, List.zip_nil_right, List.append_nil]
  rw [uniS]
  simp only [look_n4, look_v0]
  rw [if_neg (by simp [n4, Tm.kind]), if_pos (.inr (by simp [v0, Tm.kind]))]
  have hk : v0.kind = 0 := rfl
  have hn : v0.n = 0 := rfl
  have h4 : n4.kind = 2 := rfl
  simp only [hk, hn, if_true]
  have hin : inS [] 0 398 [n4] = (false, 397) := by
    rw [inS_succ, look_n4, if_neg (by rw [h4]; omega)]
    rfl
  rw [hin]
  rw [if_neg (by simp)]
  rw [uniS_nil]
  rfl
theorem shift_p4 (d : Int) : shiftF p4 d = p4 := by
  simp [shiftF, p4, n4, Tm.ren, Tm.renL]
theorem solve_p : solveF [c4] [pV] 1 9 = ([⟨1, [n4]⟩, ⟨2, []⟩], 0) := by
  rcases solveF_cases [c4] [pV] 1 9 with ⟨h, _⟩ | ⟨_, h, _⟩ | ⟨_, _, _, h⟩
  · exact absurd ⟨c4_good, pV_good⟩ h
  · omega
  rw [h]
  have hn : (1 : Int).toNat = 1 := rfl
  have hf : (9 : Int).toNat = 9 := rfl
  rw [hn, hf]
  have hl : likeF c4.head pV := ⟨rfl, rfl⟩
  have hc : callF [c4] ⟨pV, 0⟩ [] 1 0 ⟨[], [], 1, 8, []⟩ = (.next [], ⟨[(0, n4)], [], 1, 8, []⟩) := by
    rw [callF]
    simp only [List.getElem?_cons_zero]
    rw [if_neg (not_not_intro hl)]
    simp only [show c4.head = p4 from rfl, shift_p4, uni_p]
    rw [if_neg (by omega), if_neg (by simp)]
    simp [bodyF, c4, nextF]
  have hs : stepF [c4] ⟨pV, 0⟩ [] ⟨[], [], 1, 9, []⟩ = (.next [], ⟨[(0, n4)], [], 1, 8, []⟩) := by
    unfold stepF
    simp only
    rw [if_neg (by omega), if_neg (show ¬ pV.Known from not_known), if_neg (fun h => h c4 (by simp) hl)]
    simp only [List.length_singleton, hc]
  have ha : answerF 1 ⟨[(0, n4)], [], 1, 8, []⟩ = (true, ⟨[(0, n4)], [], 1, 8, [⟨1, [n4]⟩]⟩) := by
    have hfl : flL [(0, n4)] 200 [tvar (0 : Nat)] = some ([n4], 199) := by
      rw [flL, show slook [(0, n4)] (tvar ((0 : Nat) : Int)) = n4 from look_v0']
      simp [flL_nil, n4, Tm.args, Tm.kind, Tm.n, Tm.s]
    unfold answerF
    rw [show (List.range 1).map (fun i => tvar (i : Nat)) = [tvar (0 : Nat)] from rfl, hfl]
    have ht : tidy [n4] = [n4] := by simp [tidy, Tm.renSL, Tm.renS, n4, Tm.num]
    simp [ht]
  have hb : backF [c4] [] ⟨[(0, n4)], [], 1, 8, [⟨1, [n4]⟩]⟩ = (.off, ⟨[(0, n4)], [], 1, 8, [⟨1, [n4]⟩, ⟨2, []⟩]⟩) := by
    simp [backF, Sv.put]
  rw [show List.map (fun t => (⟨t, 0⟩ : Gl)) [pV] = [⟨pV, 0⟩] from rfl, runF, hs]
  simp only
  rw [runF, ha]
  simp only [hb]
end Go.Proofs.Ytlpmfkpefoegeab
namespace Go.Proofs.Ytlpmfkpefoegeab
set_option linter.unusedVariables false
set_option linter.unusedSimpArgs false
open Go.RowKit
theorem cls_one {A : Nat → Prop} {w : World} {c : Cl} {us : List Value} (hA : A w.heap.size) (hc : Cl.rep A w c us) (hl : us.length = 6) :
    ClsR A (w.alloc (.cells us.toArray 26)) [c] (.slice (some ⟨w.heap.size, 0, none⟩) 1 1) :=
  ⟨w.heap.size, 0, ⟨by simp, .inr ⟨by simp, hA, 1, rfl, by simp, by simp [maxLen]⟩⟩, elems_one Cl.rep_lasts _ hl hc⟩
theorem tms_one' {A : Nat → Prop} {w : World} {t : Tm} {us : List Value} (hA : A w.heap.size) (ht : Tm.rep A w t us) (hl : us.length = 4) :
    TmsR A (w.alloc (.cells us.toArray 24)) [t] (.slice (some ⟨w.heap.size, 0, none⟩) 1 1) :=
  ⟨w.heap.size, 0, ⟨by simp, .inr ⟨by simp, hA, 1, rfl, by simp, by simp [maxLen]⟩⟩, elems_one Tm.rep_lasts _ hl ht⟩
theorem solves_world (w : World) : (fun W => ClsR (fun b => b < W.heap.size) W [c4] (.slice (some ⟨w.heap.size + 1, 0, none⟩) 1 1) ∧ TmsR (fun b => b < W.heap.size) W [pV] (.slice (some ⟨w.heap.size + 3, 0, none⟩) 1 1) ∧ Below w.heap.size w W)
    ((((w.alloc (.cells #[.int .i64 2, .int .i64 4, .string ByteArray.empty, .slice none 0 0] 24)).alloc (.cells #[.int .i64 3, .int .i64 0, .string ⟨#[112]⟩, .slice (some ⟨w.heap.size, 0, none⟩) 1 1, .slice none 0 0, .int .i64 0] 26)).alloc
      (.cells #[.int .i64 0, .int .i64 0, .string ByteArray.empty, .slice none 0 0] 24)).alloc (.cells #[.int .i64 3, .int .i64 0, .string ⟨#[112]⟩, .slice (some ⟨w.heap.size + 2, 0, none⟩) 1 1] 24)) := by
  have i0 : I64 0 := by unfold I64; omega
  have i2 : I64 2 := by unfold I64; omega
  have i3 : I64 3 := by unfold I64; omega
  have i4 : I64 4 := by unfold I64; omega
  have A := fun (b : Nat) => b < w.heap.size + 4
  -- 4
  have h1 : Tm.rep (fun b => b < w.heap.size + 4) w n4 [.int .i64 2, .int .i64 4, .string ByteArray.empty, .slice none 0 0] := by
    rw [n4, Tm.rep_iff]; exact ⟨i2, i4, by decide, _, rfl, SlR.nil ..⟩
  have h2 := tms_one' (A := fun b => b < w.heap.size + 4) (w := w) (by omega) h1 rfl
  generalize hw1 : w.alloc (.cells [Value.int .i64 2, .int .i64 4, .string ByteArray.empty, .slice none 0 0].toArray 24) = w1 at h2
  have hs1 : w1.heap.size = w.heap.size + 1 := by rw [← hw1]; simp
  have hb1 : Below w.heap.size w w1 := by rw [← hw1]; exact (Below.refl _ _).alloc (Nat.le_refl _) _
  have h3 : Cl.rep (fun b => b < w.heap.size + 4) w1 c4 [.int .i64 3, .int .i64 0, .string ⟨#[112]⟩, .slice (some ⟨w.heap.size, 0, none⟩) 1 1, .slice none 0 0, .int .i64 0] := by
    refine ⟨some ⟨w.heap.size, 0, none⟩, 1, none, 0, rfl, ?_, SlR.nil .., i0⟩
    rw [show c4.head = Tm.mk 3 0 ⟨#[112]⟩ [n4] from rfl, Tm.rep_iff]
    exact ⟨i3, i0, by decide, _, rfl, h2⟩
  have h4 := cls_one (A := fun b => b < w.heap.size + 4) (w := w1) (by omega) h3 rfl
  rw [hs1] at h4
  generalize hw2 : w1.alloc (.cells [Value.int .i64 3, .int .i64 0, .string ⟨#[112]⟩, .slice (some ⟨w.heap.size, 0, none⟩) 1 1, .slice none 0 0, .int .i64 0].toArray 26) = w2 at h4
  have hs2 : w2.heap.size = w.heap.size + 2 := by rw [← hw2]; simp; omega
  have hb2 : Below w.heap.size w w2 := by rw [← hw2]; exact hb1.alloc (by omega) _
  have h5 : Tm.rep (fun b => b < w.heap.size + 4) w2 v0 [.int .i64 0, .int .i64 0, .string ByteArray.empty, .slice none 0 0] := by
    rw [v0, Tm.rep_iff]; exact ⟨i0, i0, by decide, _, rfl, SlR.nil ..⟩
  have h6 := tms_one' (A := fun b => b < w.heap.size + 4) (w := w2) (by omega) h5 rfl
  rw [hs2] at h6
  have h4' := SlR.keeps Cl.rep_lasts h4 (Keeps.alloc _ w2 (.cells [Value.int .i64 0, .int .i64 0, .string ByteArray.empty, .slice none 0 0].toArray 24))
  generalize hw3 : w2.alloc (.cells [Value.int .i64 0, .int .i64 0, .string ByteArray.empty, .slice none 0 0].toArray 24) = w3 at h6 h4'
  have hs3 : w3.heap.size = w.heap.size + 3 := by rw [← hw3]; simp; omega
  have hb3 : Below w.heap.size w w3 := by rw [← hw3]; exact hb2.alloc (by omega) _
  have h7 : Tm.rep (fun b => b < w.heap.size + 4) w3 pV [.int .i64 3, .int .i64 0, .string ⟨#[112]⟩, .slice (some ⟨w.heap.size + 2, 0, none⟩) 1 1] := by
    rw [show pV = Tm.mk 3 0 ⟨#[112]⟩ [v0] from rfl, Tm.rep_iff]
    exact ⟨i3, i0, by decide, _, rfl, h6⟩
  have h8 := tms_one' (A := fun b => b < w.heap.size + 4) (w := w3) (by omega) h7 rfl
  rw [hs3] at h8
  have h4'' := SlR.keeps Cl.rep_lasts h4' (Keeps.alloc _ w3 (.cells [Value.int .i64 3, .int .i64 0, .string ⟨#[112]⟩, .slice (some ⟨w.heap.size + 2, 0, none⟩) 1 1].toArray 24))
  have hs4 : (w3.alloc (.cells [Value.int .i64 3, .int .i64 0, .string ⟨#[112]⟩, .slice (some ⟨w.heap.size + 2, 0, none⟩) 1 1].toArray 24)).heap.size = w.heap.size + 4 := by simp; omega
  subst hw1; subst hw2; subst hw3
  simp only
  refine ⟨?_, ?_, hb3.alloc (by omega) _⟩
  · exact SlR.mono Cl.rep_lasts (by omega) h4'' (fun b _ hb => Nat.lt_of_lt_of_eq hb hs4.symm)
  · exact SlR.mono Tm.rep_lasts (by omega) h8 (fun b _ hb => Nat.lt_of_lt_of_eq hb hs4.symm)
end Go.Proofs.Ytlpmfkpefoegeab
