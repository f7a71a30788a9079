/-
  How many terms there are in one.
  Lists of numbers, of cells, that are alike.
-/
import Derived.Test.YtlpmfkpefoegeabDoorQRen
import Derived.Test.YtlpmfkpefoegeabDoorQNamed
import Derived.Test.YtlpmfkpefoegeabDoorQHeap
namespace Go.Proofs.YtlpmfkpefoegeabDoor
set_option linter.unusedVariables false
set_option linter.unusedSimpArgs false
open Go.RowKit

def NodesOK (t : Tm) : Prop := ∀ (A : Nat → Prop) (w : World) (vs : List Value), t.nodes ≤ 1099511627776 → Tm.rep A w t vs →
  Calls Tryd.prog 17 #[.agg vs.toArray] w (Pure w fun v _ => v = .int .i64 t.nodes)

set_option maxHeartbeats 1000000 in
theorem nodes_of (k n : Int) (s : ByteArray) (l : List Tm) (ih : ∀ t ∈ l, NodesOK t) : NodesOK (.mk k n s l) := by
  intro A w vs hnd hv
  rw [Tm.rep_iff] at hv
  obtain ⟨hk, hn, hs, v, rfl, hl⟩ := hv
  obtain ⟨a, cap, b, off, rfl, hlc, hcm, hlb, ha, he⟩ := hl.at
  have HE := hid he
  have HA := hid ha
  have IH := hid ih
  simp only [Tm.nodes] at hnd
  have HND := hid hnd
  have HB0 := hid (show Below w.heap.size w (w.alloc (.cells #[.int .i64 k, .int .i64 n, .string s, .slice a l.length cap] 31)) from below_pure (Below.refl _ _))
  clear he ha hl ih hnd
  go_enter Tryd.func17, Tryd.ntmps17
  go_wp2_with fail
  go_loopw [3, 9] (fun m q wr => ∃ j : Nat, j ≤ l.length ∧ q = .int .i64 j ∧ m = .int .i64 ((1 + Tm.nodesL (l.take j) : Nat) : Int) ∧ Below w.heap.size w wr) (fun _ q _ => l.length - (intOf q).toNat)
  case atStart => exact ⟨0, Nat.zero_le _, rfl, by simp [Tm.nodesL], HB0.out⟩
  case round =>
    obtain ⟨j, hj, rfl, rfl, hb⟩ := hrel
    have HB := hid hb
    have hz := hb.size
    clear hb
    by_cases hlt : j < l.length
    · obtain ⟨rfl, hAb⟩ := HA.out (by omega)
      obtain ⟨sa, sc, c0, c1, c2, c3, hr⟩ := tm_cells HE.out hAb (Keeps.of_below HB.out) hlt
      have hn1 := Tm.nodesL_take l j hlt
      have hn2 := HND.out
      have hb1 : Tm.nodesL (l.take j) + l[j].nodes ≤ 1099511627776 := by omega
      have HS : Hid (Tm.nodesL (l.take (j + 1)) = Tm.nodesL (l.take j) + l[j].nodes) := by
        rw [List.take_succ_eq_append_getElem hlt, Tm.nodesL_append]; simp [Hid, Tm.nodesL]
      have HC := hid (IH.out _ (List.getElem_mem hlt) _ (wr.alloc _) _ (by omega) (Tm.rep_lasts.1 _ _ _ _ _ hr (Keeps.alloc _ _ (.cells (#[.int .i64 l[j].kind, .int .i64 l[j].n, .string l[j].s, .slice sa l[j].args.length sc] : Array Value) 31))))
      clear hr hn1 hn2
      go_wp2_with fail
      refine (HC.out).mono ?_
      rintro e w1 ⟨v, rfl, hb1, rfl⟩
      have HB1 := hid ((HB.out.alloc hz _).trans (hb1.mono (by simp; omega)))
      clear hb1 HC c0 c1 c2 c3
      go_wp2_with fail
      go_roundw
      case rel => exact ⟨j + 1, by omega, by go_num, by rw [HS.out]; congr 1; omega, HB1.out⟩
      case measure => simp [intOf]; omega
    · have : j = l.length := by omega
      subst this
      go_wp2_with fail
      go_ret
      refine ⟨_, rfl, HB.out, ?_⟩
      rw [List.take_length]
      simp only [Tm.nodes]
      show Value.int .i64 _ = _
      congr 1; omega

theorem nodes_ok : ∀ t, NodesOK t := by
  intro t
  induction t using Tm.induct with
  | h k n s l ih => exact nodes_of k n s l ih
end Go.Proofs.YtlpmfkpefoegeabDoor

namespace Go.Proofs.YtlpmfkpefoegeabDoor
set_option linter.unusedVariables false
set_option linter.unusedSimpArgs false
open Go.RowKit

theorem Ce.ext' {a b : Ce} (h1 : a.kind = b.kind) (h2 : a.n = b.n) (h3 : a.s.toList = b.s.toList) : a = b := by
  obtain ⟨k, n, s⟩ := a
  obtain ⟨k', n', s'⟩ := b
  simp only at h1 h2 h3
  subst h1; subst h2
  congr 1
  exact toList_inj' h3

theorem take_next' {α : Type} {l l' : List α} {j : Nat} (h : l.take j = l'.take j) (h1 : j < l.length) (h2 : j < l'.length) (he : l[j] = l'[j]) : l.take (j + 1) = l'.take (j + 1) := by
  rw [List.take_succ_eq_append_getElem h1, List.take_succ_eq_append_getElem h2, h, he]

set_option maxHeartbeats 1000000 in
theorem sameNumbers_ok (l l' : List Int) (A : Nat → Prop) (w : World) (u v : Value) (hu : NumsR A w l u) (hv : NumsR A w l' v) :
    Calls Tryd.prog 58 #[u, v] w (Pure w fun r _ => ∃ t, r = .bool t ∧ (t = true ↔ l = l')) := by
  obtain ⟨a, cap, b, off, rfl, hlc, hcm, hlb, ha, he⟩ := hu.at
  obtain ⟨a', cap', b', off', rfl, hlc', hcm', hlb', ha', he'⟩ := hv.at
  have HE := hid he
  have HA := hid ha
  have HE' := hid he'
  have HA' := hid ha'
  clear he ha he' ha' hu hv
  by_cases e4 : l.length = l'.length
  · have E4 := hid e4
    rw [← e4] at hlc' hlb' HA' ⊢
    clear e4
    go_enter Tryd.func58, Tryd.ntmps58
    go_wp2_with fail
    go_loopw [13] (fun i wr => ∃ j : Nat, j ≤ l.length ∧ i = .int .i64 j ∧ Below w.heap.size w wr ∧ l.take j = l'.take j) (fun i _ => l.length - (intOf i).toNat)
    case atStart => exact ⟨0, Nat.zero_le _, rfl, Below.refl _ _, by simp⟩
    case round =>
      obtain ⟨j, hj, rfl, hb, hpre⟩ := hrel
      have HB := hid hb
      have HP := hid hpre
      have hz := hb.size
      clear hb hpre
      by_cases hlt : j < l.length
      · have hlt' : j < l'.length := by have := E4.out; omega
        obtain ⟨rfl, hAb⟩ := HA.out (by omega)
        obtain ⟨rfl, hAb'⟩ := HA'.out (by omega)
        obtain ⟨c0, -⟩ := num_cell HE.out hAb (Keeps.of_below HB.out) hlt
        obtain ⟨d0, -⟩ := num_cell HE'.out hAb' (Keeps.of_below HB.out) hlt'
        have hi0 : (0 : Int) ≤ (j : Int) := Int.natCast_nonneg _
        have hi1 : (j : Int) < (l.length : Int) := by omega
        by_cases hq : l[j] = l'[j]
        · have HQ := hid hq
          rw [← hq] at d0
          clear hq
          go_wp2_with fail
          go_region
          go_wp2_with fail
          go_roundw
          case rel => exact ⟨j + 1, by omega, by go_num, HB.out.drew, take_next' HP.out hlt hlt' HQ.out⟩
          case measure => simp [intOf]; omega
        · have hq' : (l[j] != l'[j]) = true := by simpa using hq
          go_wp2_with fail
          go_region
          go_wp2_with fail
          go_ret
          refine ⟨_, rfl, HB.out.drew, false, rfl, ?_⟩
          simp only [Bool.false_eq_true, false_iff]
          rintro rfl
          exact hq rfl
      · go_wp2_with fail
        go_ret
        refine ⟨_, rfl, HB.out, true, rfl, ?_⟩
        have h1 := HP.out
        have h2 := E4.out
        rw [List.take_of_length_le (by omega), List.take_of_length_le (by omega)] at h1
        simp [h1]
  · have e4' : ((l.length : Int) != (l'.length : Int)) = true := by simp; omega
    go_enter Tryd.func58, Tryd.ntmps58
    go_wp2_with fail
    go_ret
    refine ⟨_, rfl, Below.refl _ _, false, rfl, by simp; rintro rfl; exact e4 rfl⟩

set_option maxHeartbeats 1000000 in
theorem sameCells_ok (l l' : List Ce) (A : Nat → Prop) (w : World) (u v : Value) (hu : CesR A w l u) (hv : CesR A w l' v) :
    Calls Tryd.prog 57 #[u, v] w (Pure w fun r _ => ∃ t, r = .bool t ∧ (t = true ↔ l = l')) := by
  obtain ⟨a, cap, b, off, rfl, hlc, hcm, hlb, ha, he⟩ := hu.at
  obtain ⟨a', cap', b', off', rfl, hlc', hcm', hlb', ha', he'⟩ := hv.at
  have HE := hid he
  have HA := hid ha
  have HE' := hid he'
  have HA' := hid ha'
  clear he ha he' ha' hu hv
  by_cases e4 : l.length = l'.length
  · have E4 := hid e4
    rw [← e4] at hlc' hlb' HA' ⊢
    clear e4
    go_enter Tryd.func57, Tryd.ntmps57
    go_wp2_with fail
    go_loopw [13] (fun i wr => ∃ j : Nat, j ≤ l.length ∧ i = .int .i64 j ∧ Below w.heap.size w wr ∧ l.take j = l'.take j) (fun i _ => l.length - (intOf i).toNat)
    case atStart => exact ⟨0, Nat.zero_le _, rfl, Below.refl _ _, by simp⟩
    case round =>
      obtain ⟨j, hj, rfl, hb, hpre⟩ := hrel
      have HB := hid hb
      have HP := hid hpre
      have hz := hb.size
      clear hb hpre
      by_cases hlt : j < l.length
      · have hlt' : j < l'.length := by have := E4.out; omega
        obtain ⟨rfl, hAb⟩ := HA.out (by omega)
        obtain ⟨rfl, hAb'⟩ := HA'.out (by omega)
        obtain ⟨c0, c1, c2, -⟩ := ce_cells HE.out hAb (Keeps.of_below HB.out) hlt
        obtain ⟨d0, d1, d2, -⟩ := ce_cells HE'.out hAb' (Keeps.of_below HB.out) hlt'
        have hi0 : (0 : Int) ≤ (j : Int) := Int.natCast_nonneg _
        have hi1 : (j : Int) < (l.length : Int) := by omega
        by_cases hq : l[j] = l'[j]
        · have HQ := hid hq
          rw [← hq] at d0 d1 d2
          clear hq
          go_wp2_with fail
          go_region
          go_wp2_with fail
          go_roundw
          case rel => exact ⟨j + 1, by omega, by go_num, HB.out.drew, take_next' HP.out hlt hlt' HQ.out⟩
          case measure => simp [intOf]; omega
        · by_cases q1 : l[j].kind = l'[j].kind
          · by_cases q2 : l[j].n = l'[j].n
            · by_cases q3 : l[j].s.toList = l'[j].s.toList
              · exfalso
                exact hq (Ce.ext' q1 q2 q3)
              · go_wp2_with fail
                go_region
                go_wp2_with fail
                go_ret
                refine ⟨_, rfl, HB.out.drew, false, rfl, ?_⟩
                simp only [Bool.false_eq_true, false_iff]
                rintro rfl
                exact hq rfl
            · go_wp2_with fail
              go_region
              go_wp2_with fail
              go_ret
              refine ⟨_, rfl, HB.out.drew, false, rfl, ?_⟩
              simp only [Bool.false_eq_true, false_iff]
              rintro rfl
              exact hq rfl
          · go_wp2_with fail
            go_region
            go_wp2_with fail
            go_ret
            refine ⟨_, rfl, HB.out.drew, false, rfl, ?_⟩
            simp only [Bool.false_eq_true, false_iff]
            rintro rfl
            exact hq rfl
      · go_wp2_with fail
        go_ret
        refine ⟨_, rfl, HB.out, true, rfl, ?_⟩
        have h1 := HP.out
        have h2 := E4.out
        rw [List.take_of_length_le (by omega), List.take_of_length_le (by omega)] at h1
        simp [h1]
  · have e4' : ((l.length : Int) != (l'.length : Int)) = true := by simp; omega
    go_enter Tryd.func57, Tryd.ntmps57
    go_wp2_with fail
    go_ret
    refine ⟨_, rfl, Below.refl _ _, false, rfl, by simp; rintro rfl; exact e4 rfl⟩
end Go.Proofs.YtlpmfkpefoegeabDoor
