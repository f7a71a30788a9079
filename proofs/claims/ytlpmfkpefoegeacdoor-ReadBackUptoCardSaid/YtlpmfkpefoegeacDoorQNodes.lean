/-
  How many terms there are in one.
-/
import Derived.Test.YtlpmfkpefoegeacDoorQRen
namespace Go.Proofs.YtlpmfkpefoegeacDoor
set_option linter.unusedVariables false
set_option linter.unusedSimpArgs false
open Go.RowKit
def NodesOK (t : Tm) : Prop := ∀ (A : Nat → Prop) (w : World) (vs : List Value), t.nodes ≤ 1099511627776 → Tm.rep A w t vs →
  Calls Tryd.prog 62 #[.agg vs.toArray] w (Pure w fun v _ => v = .int .i64 t.nodes)
set_option maxHeartbeats 1000000 in
theorem nodes_of (k n : Int) (s : ByteArray) (l : List Tm) (ih : ∀ t ∈ l, NodesOK t) : NodesOK (.mk k n s l) := by
  intro A w vs hnd hv
  rw [Tm.rep_iff] at hv
  obtain ⟨hk, hn, hs, v, rfl, hl⟩ := hv
  obtain ⟨a, cap, b, off, rfl, hlc, hcm, hlb, ha, he⟩ := hl.at
  have HE := hid he
  have HA := hid ha
  have IH := hid ih
  simp only [Tm.nodes] at hnd
  have HND := hid hnd
  have HB0 := hid (show Below w.heap.size w (w.alloc (.cells #[.int .i64 k, .int .i64 n, .string s, .slice a l.length cap] 27)) from below_pure (Below.refl _ _))
  clear he ha hl ih hnd
  go_enter Tryd.func62, Tryd.ntmps62
  go_wp2_with fail
  go_loopw [3, 9] (fun m q wr => ∃ j : Nat, j ≤ l.length ∧ q = .int .i64 j ∧ m = .int .i64 ((1 + Tm.nodesL (l.take j) : Nat) : Int) ∧ Below w.heap.size w wr) (fun _ q _ => l.length - (intOf q).toNat)
  case atStart => exact ⟨0, Nat.zero_le _, rfl, by simp [Tm.nodesL], HB0.out⟩
  case round =>
    obtain ⟨j, hj, rfl, rfl, hb⟩ := hrel
    have HB := hid hb
    have hz := hb.size
    clear hb
    by_cases hlt : j < l.length
    · obtain ⟨rfl, hAb⟩ := HA.out (by omega)
      obtain ⟨sa, sc, c0, c1, c2, c3, hr⟩ := tm_cells HE.out hAb (Keeps.of_below HB.out) hlt
      have hn1 := Tm.nodesL_take l j hlt
      have hn2 := HND.out
      have hb1 : Tm.nodesL (l.take j) + l[j].nodes ≤ 1099511627776 := by omega
      have HS : Hid (Tm.nodesL (l.take (j + 1)) = Tm.nodesL (l.take j) + l[j].nodes) := by
        rw [List.take_succ_eq_append_getElem hlt, Tm.nodesL_append]; simp [Hid, Tm.nodesL]
      have HC := hid (IH.out _ (List.getElem_mem hlt) _ (wr.alloc _) _ (by omega) (Tm.rep_lasts.1 _ _ _ _ _ hr (Keeps.alloc _ _ (.cells (#[.int .i64 l[j].kind, .int .i64 l[j].n, .string l[j].s, .slice sa l[j].args.length sc] : Array Value) 27))))
      clear hr hn1 hn2
      go_wp2_with fail
      refine (HC.out).mono ?_
      rintro e w1 ⟨v, rfl, hb1, rfl⟩
      have HB1 := hid ((HB.out.alloc hz _).trans (hb1.mono (by simp; omega)))
      clear hb1 HC c0 c1 c2 c3
      go_wp2_with fail
      go_roundw
      case rel => exact ⟨j + 1, by omega, by go_num, by rw [HS.out]; congr 1; omega, HB1.out⟩
      case measure => simp [intOf]; omega
    · have : j = l.length := by omega
      subst this
      go_wp2_with fail
      go_ret
      refine ⟨_, rfl, HB.out, ?_⟩
      rw [List.take_length]
      simp only [Tm.nodes]
      show Value.int .i64 _ = _
      congr 1; omega
theorem nodes_ok : ∀ t, NodesOK t := by
  intro t
  induction t using Tm.induct with
  | h k n s l ih => exact nodes_of k n s l ih
end Go.Proofs.YtlpmfkpefoegeacDoor
