/-
  The walk of queristkeep.HeapKeeps.
-/
import Derived.Test.YtlpmfkpefoegeabQFront3
import Derived.Test.YtlpmfkpefoegeabQTwo
import Derived.Test.YtlpmfkpefoegeabHKeepL
import Derived.Test.YtlpmfkpefoegeabQTermH
import Derived.Test.YtlpmfkpefoegeabQTidy
import Derived.Test.YtlpmfkpefoegeabQSameKL
import Derived.Test.YtlpmfkpefoegeabQCollect
import Derived.Test.YtlpmfkpefoegeabQHeaps
import Derived.Test.YtlpmfkpefoegeabQSameHeap
namespace Go.Proofs.Ytlpmfkpefoegeab
set_option linter.unusedVariables false
set_option linter.unusedSimpArgs false
open Go.RowKit

def IsBox (base : Nat) (E : TypeId) (z : Array Value) : Value → World → Prop := fun v w => ∃ g, v = .pointer (some ⟨g, 0, none⟩) ∧ base ≤ g ∧ w.heap[g]? = some (.cells z E (0, 0))
theorem stays_Box (base : Nat) (E : TypeId) (z : Array Value) : Stays (IsBox base E z) := fun v w w' ⟨g, e, h1, h2⟩ hb => ⟨g, e, h1, blk_below h2 hb⟩
def IsTe (base : Nat) (x : Tm × Int × Int) : Value → World → Prop := fun v w => TmNEA (fun b => base ≤ b) x v w
theorem stays_Te (base : Nat) (x : Tm × Int × Int) : Stays (IsTe base x) := fun v w w' ⟨us, e, h⟩ hb => ⟨us, e, Tm.rep_lasts.1 _ _ _ _ _ h (Keeps.of_below hb)⟩
def IsTmB (base : Nat) (t : Tm) : Value → World → Prop := fun v w => ∃ us, v = .agg us.toArray ∧ Tm.rep (fun b => base ≤ b) w t us
theorem stays_TmB (base : Nat) (t : Tm) : Stays (IsTmB base t) := fun v w w' ⟨us, e, h⟩ hb => ⟨us, e, Tm.rep_lasts.1 _ _ _ _ _ h (Keeps.of_below hb)⟩

theorem ahead_i64' (m : List Bool) (hm : m.length ≤ 65536) (n : Int) : I64 (ahead m n) := by
  have h1 := cnt_min m n.toNat
  have h2 := cnt_le m (min n.toNat m.length)
  unfold ahead I64
  omega

set_option maxRecDepth 100000 in
set_option maxHeartbeats 8000000 in
theorem heapKeeps_walk (h : Hp) (roots : List Int) (most : Int) (hmost : I64 most) (w : World) (vs : List Value) (v1 : Value) (hh : Hp.rep (fun _ => True) w h vs) (hr1 : NumsR (fun _ => True) w roots v1) :
    Calls Try.prog 4 #[.agg vs.toArray, v1, .int .i64 most] w (Pure w (fun r _ => r = .bool true)) := by
  obtain ⟨va, cap, vb, tap, rfl, hc1, hc2, hc3, ht1, ht2, ht3, -⟩ := Hp.rep2 hh
  obtain ⟨ra, rc, -, -, rfl, hr2, hr3, hr4, -⟩ := hr1.at
  have HCO := hid (fun (W : World) (us : List Value) (u : Value) (k1 : Hp.rep (fun _ => True) W h us) (k2 : NumsR (fun _ => True) W roots u) => collect_ok h roots [] [] (fun _ => True) W us u (.slice none 0 0) (.slice none 0 0) k1 k2 (SlR.nil ..) (SlR.nil ..))
  have HPK := hid (fun (W : World) => pick_ok most 500 hmost (by decide) (by decide) W)
  obtain ⟨mo, hmo⟩ : ∃ x, x = most % 500 := ⟨_, rfl⟩
  have HMI := hid (show I64 mo by unfold I64; omega)
  rw [← hmo] at HPK
  clear hmost hmo
  have HH := hid (hh)
  have HR := hid (hr1)
  clear hh hr1
  go_enter Try.func4, Try.ntmps4
  go_wp2_with fail
  have HHa1 := hid (Hp.rep.keeps HH.out (Keeps.alloc _ _ (.cells #[.slice va h.cells.length cap, .slice vb h.trail.length tap] 30)))
  have HRa1 := hid (SlR.keeps numR_lasts HR.out (Keeps.alloc _ _ (.cells #[.slice va h.cells.length cap, .slice vb h.trail.length tap] 30)))
  have HXn1 := hid (blk_new w (.cells #[.slice va h.cells.length cap, .slice vb h.trail.length tap] 30))
  have HBa1 := hid ((Below.refl _ w).alloc (Nat.le_refl _) (.cells #[.slice va h.cells.length cap, .slice vb h.trail.length tap] 30))
  have hsz1 : w.heap.size < (w.alloc (.cells #[.slice va h.cells.length cap, .slice vb h.trail.length tap] 30)).heap.size := by simp
  generalize w.alloc (.cells #[.slice va h.cells.length cap, .slice vb h.trail.length tap] 30) = w1 at HXn1 HHa1 HRa1 HBa1 hsz1 ⊢
  obtain ⟨x0a, x0b, x0z⟩ := box2 HXn1.out
  have hz0 := blk_lt HXn1.out
  by_cases hg : h.Good
  case neg =>
    rw [show collectF h roots [] [] = ⟨h, [], [], [], 1⟩ by rw [collectF, if_pos hg]] at HCO
    clear hg
    try simp only at HCO
    refine (HCO.out _ [_, _] _ HHa1.out HRa1.out).mono ?_
    rintro e w2 ⟨v, rfl, hb2, us, a0, b0, c0, rfl, hr, -, -, -⟩
    obtain ⟨xa, xc, xb, xd, rfl, -⟩ := Hp.rep2 hr
    clear x0a x0b x0z hz0
    have HXn1c2 := hid (blk_below HXn1.out hb2)
    have HHa1c2 := hid (Hp.rep.keeps HHa1.out (Keeps.of_below hb2))
    have HRa1c2 := hid (SlR.keeps numR_lasts HRa1.out (Keeps.of_below hb2))
    have HBc2 := hid (HBa1.out.trans (hb2.mono HBa1.out.size))
    have hzz2 := hb2.size
    clear hb2
    obtain ⟨x0a, x0b, x0z⟩ := box2 HXn1c2.out
    have hz0 := blk_lt HXn1c2.out
    have HX := hid (show Hp.rep (fun _ => True) _ h _ from Hp.rep.mono hr (fun _ _ _ => trivial))
    clear hr
    go_wp2_with fail
    clear x0a x0b x0z hz0
    have HXn1c2a3 := hid (blk_alloc HXn1c2.out (.cells #[.slice xa h.cells.length xc, .slice xb h.trail.length xd] 30))
    have HHa1c2a3 := hid (Hp.rep.keeps HHa1c2.out (Keeps.alloc _ _ (.cells #[.slice xa h.cells.length xc, .slice xb h.trail.length xd] 30)))
    have HRa1c2a3 := hid (SlR.keeps numR_lasts HRa1c2.out (Keeps.alloc _ _ (.cells #[.slice xa h.cells.length xc, .slice xb h.trail.length xd] 30)))
    have HXa3 := hid (Hp.rep.keeps HX.out (Keeps.alloc _ _ (.cells #[.slice xa h.cells.length xc, .slice xb h.trail.length xd] 30)))
    have HXn3 := hid (blk_new w2 (.cells #[.slice xa h.cells.length xc, .slice xb h.trail.length xd] 30))
    have HBa3 := hid (HBc2.out.alloc HBc2.out.size (.cells #[.slice xa h.cells.length xc, .slice xb h.trail.length xd] 30))
    have hsz3 : w2.heap.size < (w2.alloc (.cells #[.slice xa h.cells.length xc, .slice xb h.trail.length xd] 30)).heap.size := by simp
    generalize w2.alloc (.cells #[.slice xa h.cells.length xc, .slice xb h.trail.length xd] 30) = w3 at HXn1c2a3 HXn3 HHa1c2a3 HRa1c2a3 HXa3 HBa3 hsz3 ⊢
    obtain ⟨x0a, x0b, x0z⟩ := box2 HXn1c2a3.out
    have hz0 := blk_lt HXn1c2a3.out
    obtain ⟨x1a, x1b, x1z⟩ := box2 HXn3.out
    have hz1 := blk_lt HXn3.out
    go_wp2_with fail
    refine (sameHeapK_ok h h (fun _ => True) _ [_, _] [_, _] HXa3.out HHa1c2a3.out).mono ?_
    rintro e w4 ⟨v, rfl, hb4, b, rfl, ht⟩
    obtain rfl : b = true := ht.2 rfl
    clear ht
    clear x0a x0b x0z hz0 x1a x1b x1z hz1
    have HXn1c2a3c4 := hid (blk_below HXn1c2a3.out hb4)
    have HXn3c4 := hid (blk_below HXn3.out hb4)
    have HHa1c2a3c4 := hid (Hp.rep.keeps HHa1c2a3.out (Keeps.of_below hb4))
    have HRa1c2a3c4 := hid (SlR.keeps numR_lasts HRa1c2a3.out (Keeps.of_below hb4))
    have HXa3c4 := hid (Hp.rep.keeps HXa3.out (Keeps.of_below hb4))
    have HBc4 := hid (HBa3.out.trans (hb4.mono HBa3.out.size))
    have hzz4 := hb4.size
    clear hb4
    obtain ⟨x0a, x0b, x0z⟩ := box2 HXn1c2a3c4.out
    have hz0 := blk_lt HXn1c2a3c4.out
    obtain ⟨x1a, x1b, x1z⟩ := box2 HXn3c4.out
    have hz1 := blk_lt HXn3c4.out
    go_wp2_with fail
    refine (heapsK_ok _).mono ?_
    rintro e w5 ⟨v, rfl, hb5, rfl⟩
    clear x0a x0b x0z hz0 x1a x1b x1z hz1
    have HXn1c2a3c4c5 := hid (blk_below HXn1c2a3c4.out hb5)
    have HXn3c4c5 := hid (blk_below HXn3c4.out hb5)
    have HHa1c2a3c4c5 := hid (Hp.rep.keeps HHa1c2a3c4.out (Keeps.of_below hb5))
    have HRa1c2a3c4c5 := hid (SlR.keeps numR_lasts HRa1c2a3c4.out (Keeps.of_below hb5))
    have HXa3c4c5 := hid (Hp.rep.keeps HXa3c4.out (Keeps.of_below hb5))
    have HBc5 := hid (HBc4.out.trans (hb5.mono HBc4.out.size))
    have hzz5 := hb5.size
    clear hb5
    obtain ⟨x0a, x0b, x0z⟩ := box2 HXn1c2a3c4c5.out
    have hz0 := blk_lt HXn1c2a3c4c5.out
    obtain ⟨x1a, x1b, x1z⟩ := box2 HXn3c4c5.out
    have hz1 := blk_lt HXn3c4c5.out
    go_wp2_with fail
    go_ret
    exact ⟨_, rfl, HBc5.out, rfl⟩
  case pos =>
    by_cases hin : ∀ r ∈ roots, Inb h.cells r
    case neg =>
      rw [show collectF h roots [] [] = ⟨h, [], [], [], 4⟩ by rw [collectF, if_neg (not_not_intro hg), if_pos hin]] at HCO
      clear hg hin
      try simp only at HCO
      refine (HCO.out _ [_, _] _ HHa1.out HRa1.out).mono ?_
      rintro e w2 ⟨v, rfl, hb2, us, a0, b0, c0, rfl, hr, -, -, -⟩
      obtain ⟨xa, xc, xb, xd, rfl, -⟩ := Hp.rep2 hr
      clear x0a x0b x0z hz0
      have HXn1c2 := hid (blk_below HXn1.out hb2)
      have HHa1c2 := hid (Hp.rep.keeps HHa1.out (Keeps.of_below hb2))
      have HRa1c2 := hid (SlR.keeps numR_lasts HRa1.out (Keeps.of_below hb2))
      have HBc2 := hid (HBa1.out.trans (hb2.mono HBa1.out.size))
      have hzz2 := hb2.size
      clear hb2
      obtain ⟨x0a, x0b, x0z⟩ := box2 HXn1c2.out
      have hz0 := blk_lt HXn1c2.out
      have HX := hid (show Hp.rep (fun _ => True) _ h _ from Hp.rep.mono hr (fun _ _ _ => trivial))
      clear hr
      go_wp2_with fail
      clear x0a x0b x0z hz0
      have HXn1c2a3 := hid (blk_alloc HXn1c2.out (.cells #[.slice xa h.cells.length xc, .slice xb h.trail.length xd] 30))
      have HHa1c2a3 := hid (Hp.rep.keeps HHa1c2.out (Keeps.alloc _ _ (.cells #[.slice xa h.cells.length xc, .slice xb h.trail.length xd] 30)))
      have HRa1c2a3 := hid (SlR.keeps numR_lasts HRa1c2.out (Keeps.alloc _ _ (.cells #[.slice xa h.cells.length xc, .slice xb h.trail.length xd] 30)))
      have HXa3 := hid (Hp.rep.keeps HX.out (Keeps.alloc _ _ (.cells #[.slice xa h.cells.length xc, .slice xb h.trail.length xd] 30)))
      have HXn3 := hid (blk_new w2 (.cells #[.slice xa h.cells.length xc, .slice xb h.trail.length xd] 30))
      have HBa3 := hid (HBc2.out.alloc HBc2.out.size (.cells #[.slice xa h.cells.length xc, .slice xb h.trail.length xd] 30))
      have hsz3 : w2.heap.size < (w2.alloc (.cells #[.slice xa h.cells.length xc, .slice xb h.trail.length xd] 30)).heap.size := by simp
      generalize w2.alloc (.cells #[.slice xa h.cells.length xc, .slice xb h.trail.length xd] 30) = w3 at HXn1c2a3 HXn3 HHa1c2a3 HRa1c2a3 HXa3 HBa3 hsz3 ⊢
      obtain ⟨x0a, x0b, x0z⟩ := box2 HXn1c2a3.out
      have hz0 := blk_lt HXn1c2a3.out
      obtain ⟨x1a, x1b, x1z⟩ := box2 HXn3.out
      have hz1 := blk_lt HXn3.out
      go_wp2_with fail
      refine (sameHeapK_ok h h (fun _ => True) _ [_, _] [_, _] HXa3.out HHa1c2a3.out).mono ?_
      rintro e w4 ⟨v, rfl, hb4, b, rfl, ht⟩
      obtain rfl : b = true := ht.2 rfl
      clear ht
      clear x0a x0b x0z hz0 x1a x1b x1z hz1
      have HXn1c2a3c4 := hid (blk_below HXn1c2a3.out hb4)
      have HXn3c4 := hid (blk_below HXn3.out hb4)
      have HHa1c2a3c4 := hid (Hp.rep.keeps HHa1c2a3.out (Keeps.of_below hb4))
      have HRa1c2a3c4 := hid (SlR.keeps numR_lasts HRa1c2a3.out (Keeps.of_below hb4))
      have HXa3c4 := hid (Hp.rep.keeps HXa3.out (Keeps.of_below hb4))
      have HBc4 := hid (HBa3.out.trans (hb4.mono HBa3.out.size))
      have hzz4 := hb4.size
      clear hb4
      obtain ⟨x0a, x0b, x0z⟩ := box2 HXn1c2a3c4.out
      have hz0 := blk_lt HXn1c2a3c4.out
      obtain ⟨x1a, x1b, x1z⟩ := box2 HXn3c4.out
      have hz1 := blk_lt HXn3c4.out
      go_wp2_with fail
      refine (heapsK_ok _).mono ?_
      rintro e w5 ⟨v, rfl, hb5, rfl⟩
      clear x0a x0b x0z hz0 x1a x1b x1z hz1
      have HXn1c2a3c4c5 := hid (blk_below HXn1c2a3c4.out hb5)
      have HXn3c4c5 := hid (blk_below HXn3c4.out hb5)
      have HHa1c2a3c4c5 := hid (Hp.rep.keeps HHa1c2a3c4.out (Keeps.of_below hb5))
      have HRa1c2a3c4c5 := hid (SlR.keeps numR_lasts HRa1c2a3c4.out (Keeps.of_below hb5))
      have HXa3c4c5 := hid (Hp.rep.keeps HXa3c4.out (Keeps.of_below hb5))
      have HBc5 := hid (HBc4.out.trans (hb5.mono HBc4.out.size))
      have hzz5 := hb5.size
      clear hb5
      obtain ⟨x0a, x0b, x0z⟩ := box2 HXn1c2a3c4c5.out
      have hz0 := blk_lt HXn1c2a3c4c5.out
      obtain ⟨x1a, x1b, x1z⟩ := box2 HXn3c4c5.out
      have hz1 := blk_lt HXn3c4c5.out
      go_wp2_with fail
      go_ret
      exact ⟨_, rfl, HBc5.out, rfl⟩
    case pos =>
      rw [show collectF h roots [] [] = ⟨gcH h roots, roots.map (ahead (marks h.cells roots)), [], [], 0⟩ by rw [collectF, if_neg (not_not_intro hg), if_neg (not_not_intro hin)]; rfl] at HCO
      have HXG := hid (gcH_good (roots := roots) hg)
      have HK1 := hid (show ∀ q ∈ roots, _ from fun q hq => by
        obtain ⟨k1, k2, k3⟩ := gc_term hg hin mo hq
        exact (⟨k1, k2, fun e => (k3 e).1⟩ : ((termF h q mo).2.2 = (termF (gcH h roots) (ahead (marks h.cells roots) q) mo).2.2) ∧ (termF h q mo).2.1 = (termF (gcH h roots) (ahead (marks h.cells roots) q) mo).2.1 ∧ ((termF h q mo).2.2 = 0 → (termF (gcH h roots) (ahead (marks h.cells roots) q) mo).1 = (termF h q mo).1.ren (ahead (marks h.cells roots)))))
      have HGI := hid (fun q => ahead_i64' (marks h.cells roots) (by rw [marks_len]; exact hg.2.2.1) q)
      have HSA := hid (Nat.le_trans (keep_seen hg hin mo) (show 65536 ≤ 4194303 by omega))
      obtain ⟨hs1, hs2⟩ := keep_tidy hg hin mo
      have HSB := hid (Nat.le_trans hs1 (show 65536 ≤ 4194303 by omega))
      have HTE := hid hs2
      generalize ahead (marks h.cells roots) = g at *
      generalize gcH h roots = x at *
      clear hg hin hs1 hs2
      refine (HCO.out _ [_, _] _ HHa1.out HRa1.out).mono ?_
      rintro e w2 ⟨v, rfl, hb2, us, a0, b0, c0, rfl, hr, hat, -, -⟩
      obtain ⟨xa, xc, xb, xd, rfl, -⟩ := Hp.rep2 hr
      clear x0a x0b x0z hz0
      have HXn1c2 := hid (blk_below HXn1.out hb2)
      have HHa1c2 := hid (Hp.rep.keeps HHa1.out (Keeps.of_below hb2))
      have HRa1c2 := hid (SlR.keeps numR_lasts HRa1.out (Keeps.of_below hb2))
      have HBc2 := hid (HBa1.out.trans (hb2.mono HBa1.out.size))
      have hzz2 := hb2.size
      clear hb2
      obtain ⟨x0a, x0b, x0z⟩ := box2 HXn1c2.out
      have hz0 := blk_lt HXn1c2.out
      have HX := hid (show Hp.rep (fun _ => True) _ x _ from Hp.rep.mono hr (fun _ _ _ => trivial))
      have HAT := hid (show NumsR (fun _ => True) _ (roots.map g) _ from SlR.mono numR_lasts (by omega) hat (fun _ _ _ => trivial))
      clear hr hat
      go_wp2_with fail
      clear x0a x0b x0z hz0
      have HXn1c2a3 := hid (blk_alloc HXn1c2.out (.cells #[.slice xa x.cells.length xc, .slice xb x.trail.length xd] 30))
      have HHa1c2a3 := hid (Hp.rep.keeps HHa1c2.out (Keeps.alloc _ _ (.cells #[.slice xa x.cells.length xc, .slice xb x.trail.length xd] 30)))
      have HRa1c2a3 := hid (SlR.keeps numR_lasts HRa1c2.out (Keeps.alloc _ _ (.cells #[.slice xa x.cells.length xc, .slice xb x.trail.length xd] 30)))
      have HXa3 := hid (Hp.rep.keeps HX.out (Keeps.alloc _ _ (.cells #[.slice xa x.cells.length xc, .slice xb x.trail.length xd] 30)))
      have HATa3 := hid (SlR.keeps numR_lasts HAT.out (Keeps.alloc _ _ (.cells #[.slice xa x.cells.length xc, .slice xb x.trail.length xd] 30)))
      have HXn3 := hid (blk_new w2 (.cells #[.slice xa x.cells.length xc, .slice xb x.trail.length xd] 30))
      have HBa3 := hid (HBc2.out.alloc HBc2.out.size (.cells #[.slice xa x.cells.length xc, .slice xb x.trail.length xd] 30))
      have hsz3 : w2.heap.size < (w2.alloc (.cells #[.slice xa x.cells.length xc, .slice xb x.trail.length xd] 30)).heap.size := by simp
      generalize w2.alloc (.cells #[.slice xa x.cells.length xc, .slice xb x.trail.length xd] 30) = w3 at HXn1c2a3 HXn3 HHa1c2a3 HRa1c2a3 HXa3 HATa3 HBa3 hsz3 ⊢
      obtain ⟨x0a, x0b, x0z⟩ := box2 HXn1c2a3.out
      have hz0 := blk_lt HXn1c2a3.out
      obtain ⟨x1a, x1b, x1z⟩ := box2 HXn3.out
      have hz1 := blk_lt HXn3.out
      go_wp2_with fail
      refine (heapsK_ok _).mono ?_
      rintro e w4 ⟨v, rfl, hb4, rfl⟩
      clear x0a x0b x0z hz0 x1a x1b x1z hz1
      have HXn1c2a3c4 := hid (blk_below HXn1c2a3.out hb4)
      have HXn3c4 := hid (blk_below HXn3.out hb4)
      have HHa1c2a3c4 := hid (Hp.rep.keeps HHa1c2a3.out (Keeps.of_below hb4))
      have HRa1c2a3c4 := hid (SlR.keeps numR_lasts HRa1c2a3.out (Keeps.of_below hb4))
      have HXa3c4 := hid (Hp.rep.keeps HXa3.out (Keeps.of_below hb4))
      have HATa3c4 := hid (SlR.keeps numR_lasts HATa3.out (Keeps.of_below hb4))
      have HBc4 := hid (HBa3.out.trans (hb4.mono HBa3.out.size))
      have hzz4 := hb4.size
      clear hb4
      obtain ⟨x0a, x0b, x0z⟩ := box2 HXn1c2a3c4.out
      have hz0 := blk_lt HXn1c2a3c4.out
      obtain ⟨x1a, x1b, x1z⟩ := box2 HXn3c4.out
      have hz1 := blk_lt HXn3c4.out
      go_wp2_with fail
      refine (HPK.out _).mono ?_
      rintro e w99 ⟨rfl, rfl⟩
      obtain ⟨pa, pc, pb, po, rfl, hp1, hp2, hp3, hpa, hpe⟩ := SlR.at HATa3c4.out
      have hml : (roots.map g).length = roots.length := List.length_map ..
      have HPA := hid hpa
      have HPE := hid hpe
      rw [hml] at hp1 hp3
      try rw [hml]
      clear hpa hpe
      go_wp2_with fail
      clear x0a x0b x0z hz0 x1a x1b x1z hz1
      go_loopw [47, 12, 13] (fun i av bv W => ∃ j : Nat, j ≤ roots.length ∧ i = .int .i64 (j : Int) ∧ Below w4.heap.size w4 W ∧ Two w4.heap.size W (termsAt h mo (roots.take j)) ((termsAt h mo (roots.take j)).map (Tm.ren g)) av bv) (fun i _ _ _ => roots.length - (intOf i).toNat)
      case atStart => exact ⟨0, Nat.zero_le _, rfl, Below.refl _ _, Two.nil _ _⟩
      case round =>
        obtain ⟨j, hj, rfl, hb, htw⟩ := hrel
        have HXn1c2a3c4j := hid (blk_below HXn1c2a3c4.out hb)
        have HXn3c4j := hid (blk_below HXn3c4.out hb)
        have HHa1c2a3c4j := hid (Hp.rep.keeps HHa1c2a3c4.out (Keeps.of_below hb))
        have HRa1c2a3c4j := hid (SlR.keeps numR_lasts HRa1c2a3c4.out (Keeps.of_below hb))
        have HXa3c4j := hid (Hp.rep.keeps HXa3c4.out (Keeps.of_below hb))
        have HATa3c4j := hid (SlR.keeps numR_lasts HATa3c4.out (Keeps.of_below hb))
        have HBj := hid (HBc4.out.trans (hb.mono HBc4.out.size))
        have HL := hid hb
        have hzw := hb.size
        have TW := hid (htw)
        by_cases hlt : j < roots.length
        · obtain ⟨_, _, rb, ro, e, -, -, -, hra, hre⟩ := SlR.at HRa1c2a3c4j.out
          simp only [Value.slice.injEq, true_and] at e
          obtain ⟨rfl, rfl⟩ := e
          obtain ⟨rfl, -⟩ := hra (by omega)
          obtain ⟨c0, ci⟩ := num_cell hre trivial (Keeps.refl _ _) hlt
          have hlt' : (j : Int) < (roots.length : Int) := by omega
          have hj0 : (0 : Int) ≤ (j : Int) := Int.natCast_nonneg _
          have HLT := hid hlt
          obtain ⟨q, hq⟩ : ∃ q : Int, q = roots[j]'hlt := ⟨_, rfl⟩
          rw [← hq] at c0 ci
          have hqm : q ∈ roots := by rw [hq]; exact List.getElem_mem _
          have HQ := hid hq
          obtain ⟨t, n, er, htf⟩ : ∃ t n er, termF h q mo = (t, n, er) := ⟨_, _, _, rfl⟩
          obtain ⟨t2, n2, er2, htf2⟩ : ∃ t n er, termF x (g q) mo = (t, n, er) := ⟨_, _, _, rfl⟩
          obtain ⟨hk1, hk2, hk3⟩ := HK1.out q hqm
          rw [htf, htf2] at hk1 hk2 hk3
          simp only at hk1 hk2 hk3
          subst hk1 hk2
          have HC1 := hid (fun (W : World) (us : List Value) (k : Hp.rep (fun _ => True) W h us) => (show Calls _ _ _ W (Pure W (TmNEA (New W) (t, n, er))) by have := termH_okN h q mo ci HMI.out (fun _ => True) W us k; rw [htf] at this; exact this))
          have HC2 := hid (fun (W : World) (us : List Value) (k : Hp.rep (fun _ => True) W x us) => (show Calls _ _ _ W (Pure W (TmNEA (New W) (t2, n, er))) by have := termH_okN x (g q) mo (HGI.out q) HMI.out (fun _ => True) W us k; rw [htf2] at this; exact this))
          have HK3 := hid hk3
          have HTF := hid htf
          clear hb htw hra hre hq hqm htf htf2 hk3 ci
          have hown := TW.out.a.lt
          have hownb := TW.out.b.lt
          have HOA := hid hown
          have HOB := hid hownb
          clear hown hownb
          obtain ⟨x0a, x0b, x0z⟩ := box2 HXn1c2a3c4j.out
          have hz0 := blk_lt HXn1c2a3c4j.out
          obtain ⟨x1a, x1b, x1z⟩ := box2 HXn3c4j.out
          have hz1 := blk_lt HXn3c4j.out
          go_wp2_with fail
          refine (HC1.out _ [_, _] HHa1c2a3c4j.out).mono ?_
          rintro e w5 ⟨v, rfl, hb5, us, rfl, hr⟩
          obtain ⟨sa, sc, rfl, -⟩ := Tm.rep4 hr
          clear x0a x0b x0z hz0 x1a x1b x1z hz1
          have HXn1c2a3c4jc5 := hid (blk_below HXn1c2a3c4j.out hb5)
          have HXn3c4jc5 := hid (blk_below HXn3c4j.out hb5)
          have HHa1c2a3c4jc5 := hid (Hp.rep.keeps HHa1c2a3c4j.out (Keeps.of_below hb5))
          have HRa1c2a3c4jc5 := hid (SlR.keeps numR_lasts HRa1c2a3c4j.out (Keeps.of_below hb5))
          have HXa3c4jc5 := hid (Hp.rep.keeps HXa3c4j.out (Keeps.of_below hb5))
          have HATa3c4jc5 := hid (SlR.keeps numR_lasts HATa3c4j.out (Keeps.of_below hb5))
          have TWc5 := hid (Two.keeps TW.out (Keeps.of_below hb5))
          have HBc5 := hid (HL.out.trans (hb5.mono HL.out.size))
          have hzz5 := hb5.size
          clear hb5
          obtain ⟨x0a, x0b, x0z⟩ := box2 HXn1c2a3c4jc5.out
          have hz0 := blk_lt HXn1c2a3c4jc5.out
          obtain ⟨x1a, x1b, x1z⟩ := box2 HXn3c4jc5.out
          have hz1 := blk_lt HXn3c4jc5.out
          have TR := hid (show Tm.rep (Out w4.heap.size u12 u13) _ t _ from Tm.rep_lasts.2.1 _ _ _ _ _ hr (fun b _ hb => ⟨by unfold New at hb; omega, fun e => by have := HOA.out b e; unfold New at hb; omega, fun e => by have := HOB.out b e; unfold New at hb; omega⟩))
          clear hr c0
          go_wp2_with fail
          clear x0a x0b x0z hz0 x1a x1b x1z hz1
          have HXn1c2a3c4jc5a6 := hid (blk_alloc HXn1c2a3c4jc5.out (.cells #[.int .i64 t.kind, .int .i64 t.n, .string t.s, .slice sa t.args.length sc] 24))
          have HXn3c4jc5a6 := hid (blk_alloc HXn3c4jc5.out (.cells #[.int .i64 t.kind, .int .i64 t.n, .string t.s, .slice sa t.args.length sc] 24))
          have HHa1c2a3c4jc5a6 := hid (Hp.rep.keeps HHa1c2a3c4jc5.out (Keeps.alloc _ _ (.cells #[.int .i64 t.kind, .int .i64 t.n, .string t.s, .slice sa t.args.length sc] 24)))
          have HRa1c2a3c4jc5a6 := hid (SlR.keeps numR_lasts HRa1c2a3c4jc5.out (Keeps.alloc _ _ (.cells #[.int .i64 t.kind, .int .i64 t.n, .string t.s, .slice sa t.args.length sc] 24)))
          have HXa3c4jc5a6 := hid (Hp.rep.keeps HXa3c4jc5.out (Keeps.alloc _ _ (.cells #[.int .i64 t.kind, .int .i64 t.n, .string t.s, .slice sa t.args.length sc] 24)))
          have HATa3c4jc5a6 := hid (SlR.keeps numR_lasts HATa3c4jc5.out (Keeps.alloc _ _ (.cells #[.int .i64 t.kind, .int .i64 t.n, .string t.s, .slice sa t.args.length sc] 24)))
          have TWc5a6 := hid (Two.keeps TWc5.out (Keeps.alloc _ _ (.cells #[.int .i64 t.kind, .int .i64 t.n, .string t.s, .slice sa t.args.length sc] 24)))
          have TRa6 := hid (Tm.rep_lasts.1 _ _ _ _ _ TR.out (Keeps.alloc _ _ (.cells #[.int .i64 t.kind, .int .i64 t.n, .string t.s, .slice sa t.args.length sc] 24)))
          have HXn6 := hid (blk_new w5 (.cells #[.int .i64 t.kind, .int .i64 t.n, .string t.s, .slice sa t.args.length sc] 24))
          have HBa6 := hid (HBc5.out.alloc HBc5.out.size (.cells #[.int .i64 t.kind, .int .i64 t.n, .string t.s, .slice sa t.args.length sc] 24))
          have hsz6 : w5.heap.size < (w5.alloc (.cells #[.int .i64 t.kind, .int .i64 t.n, .string t.s, .slice sa t.args.length sc] 24)).heap.size := by simp
          generalize w5.alloc (.cells #[.int .i64 t.kind, .int .i64 t.n, .string t.s, .slice sa t.args.length sc] 24) = w6 at HXn1c2a3c4jc5a6 HXn3c4jc5a6 HXn6 HHa1c2a3c4jc5a6 HRa1c2a3c4jc5a6 HXa3c4jc5a6 HATa3c4jc5a6 TWc5a6 TRa6 HBa6 hsz6 ⊢
          obtain ⟨x0a, x0b, x0z⟩ := box2 HXn1c2a3c4jc5a6.out
          have hz0 := blk_lt HXn1c2a3c4jc5a6.out
          obtain ⟨x1a, x1b, x1z⟩ := box2 HXn3c4jc5a6.out
          have hz1 := blk_lt HXn3c4jc5a6.out
          obtain ⟨x2a, x2b, x2c, x2d, x2z⟩ := blk4 HXn6.out
          have hz2 := blk_lt HXn6.out
          go_wp2_with fail
          obtain ⟨_, _, pb', po', e, -, -, -, hpa', hpe'⟩ := SlR.at HATa3c4jc5a6.out
          simp only [Value.slice.injEq, true_and] at e
          obtain ⟨rfl, e⟩ := e
          obtain ⟨e1, -⟩ := hpa' (by rw [hml]; omega)
          subst e1
          have d0 := (num_cell hpe' trivial (Keeps.refl _ _) (k := j) (by rw [hml]; exact HLT.out)).1
          rw [List.getElem_map, ← HQ.out] at d0
          have HD0 := hid (fun w' (hb : Below w6.heap.size w6 w') => bc hb d0)
          clear hpa' hpe' d0 e
          clear x0a x0b x0z hz0 x1a x1b x1z hz1 x2a x2b x2c x2d x2z hz2
          have HA0 : Hid (∀ w', Below w6.heap.size w6 w' → Below w4.heap.size w4 w' ∧ w'.cell? ⟨w.heap.size, 0, none⟩ = some (.slice va h.cells.length cap) ∧ w'.cell? ⟨w.heap.size, 1, none⟩ = some (.slice vb h.trail.length tap) ∧ w'.cell? ⟨w2.heap.size, 0, none⟩ = some (.slice xa x.cells.length xc) ∧ w'.cell? ⟨w2.heap.size, 1, none⟩ = some (.slice xb x.trail.length xd) ∧ w'.cell? ⟨w5.heap.size, 0, none⟩ = some (.int .i64 t.kind) ∧ w'.cell? ⟨w5.heap.size, 1, none⟩ = some (.int .i64 t.n) ∧ w'.cell? ⟨w5.heap.size, 2, none⟩ = some (.string t.s) ∧ w'.cell? ⟨w5.heap.size, 3, none⟩ = some (.slice sa t.args.length sc)) := hid fun w' hb => by
            obtain ⟨z0a, z0b, -⟩ := box2 (blk_below HXn1c2a3c4jc5a6.out hb)
            obtain ⟨z1a, z1b, -⟩ := box2 (blk_below HXn3c4jc5a6.out hb)
            obtain ⟨z2a, z2b, z2c, z2d, -⟩ := blk4 (blk_below HXn6.out hb)
            exact ⟨HBa6.out.trans (hb.mono HBa6.out.size), z0a, z0b, z1a, z1b, z2a, z2b, z2c, z2d⟩
          refine wp_region_front3 12 (fun i => i == 9 || i == 10) 11 (D := fun i v u w => (i = 6 ∨ i = 7 → ∀ g6, u = .pointer (some ⟨g6, 0, none⟩) → TmNEA (fun b => w6.heap.size ≤ b ∧ b ≠ g6) (t2, n, er) v w) ∧ (i = 8 → ∀ g6, u = .pointer (some ⟨g6, 0, none⟩) → ∃ us, v = .agg us.toArray ∧ Tm.rep (fun b => w6.heap.size ≤ b ∧ b ≠ g6) w t2 us)) (Inv := fun w' => Below w6.heap.size w6 w') (Po := posts [IsV (.agg #[.slice xa x.cells.length xc, .slice xb x.trail.length xd]), IsV (.slice (some ⟨pb', po', none⟩) roots.length pc), IsV (.int .i64 (j : Int)), IsV (.pointer (some ⟨pb', po' + j, none⟩)), IsV (.int .i64 (g q)), IsV (.int .i64 mo), IsTe w6.heap.size (t2, n, er), IsTe w6.heap.size (t2, n, er), IsTmB w6.heap.size t2, IsV (.int .i64 n), IsV (.int .i64 er), IsBox w6.heap.size 24 #[.int .i64 0, .int .i64 0, .string ByteArray.empty, .slice none 0 0]]) (Rl := fun w w' => Below w.heap.size w w') (by kernel_rfl) ⟨by decide, rfl⟩ (fun p v u w hp => ⟨fun h => by rcases h with rfl | rfl <;> exact absurd hp (by decide), fun h => by subst h; exact absurd hp (by decide)⟩) (fun i v u w w' h hr => ⟨fun hi g6 e => by obtain ⟨us, e1, h1⟩ := h.1 hi g6 e; exact ⟨us, e1, Tm.rep_lasts.1 _ _ _ _ _ h1 (Keeps.of_below hr)⟩, fun hi g6 e => by obtain ⟨us, e1, h1⟩ := h.2 hi g6 e; exact ⟨us, e1, Tm.rep_lasts.1 _ _ _ _ _ h1 (Keeps.of_below hr)⟩⟩) (by kernel_rfl) (by kernel_rfl) (fun _ _ _ _ h => h) (by kernel_rfl) (by kernel_rfl) ((Below.refl _ _).drew) ?_ ?_ ?_ ?_ ?_
          · refine posts_stay fun R hR => ?_
            simp only [List.mem_cons, List.not_mem_nil, or_false] at hR
            rcases hR with rfl | rfl | rfl | rfl | rfl | rfl | rfl | rfl | rfl | rfl | rfl | rfl <;> first | exact stays_V _ | exact stays_any | exact stays_B _ | exact stays_Tm _ | exact stays_Tms _ | exact stays_Cs _ | exact stays_Ns _ | exact stays_Bs _ | exact stays_Hp _ | exact stays_OC _ _ | exact stays_ON _ _ | exact stays_Box _ _ _ | exact stays_Te _ _ | exact stays_TmB _ _
          · exact fun w1 w2 h h' => h.trans (h'.mono h.size)
          · intro i o ho hps f ac ww hinv hpo hdst hold
            match i, ho, hps with
              | 0, ho, hps =>
                exact absurd hps (by decide)
              | 1, ho, hps =>
                exact absurd hps (by decide)
              | 2, ho, hps =>
                exact absurd hps (by decide)
              | 3, ho, hps =>
                exact absurd hps (by decide)
              | 4, ho, hps =>
                exact absurd hps (by decide)
              | 5, ho, hps =>
                exact absurd hps (by decide)
              | 6, ho, hps =>
                exact absurd hps (by decide)
              | 7, ho, hps =>
                exact absurd hps (by decide)
              | 8, ho, hps =>
                exact absurd hps (by decide)
              | 9, ho, hps =>
                obtain rfl : _ = o := Option.some.inj ho
                have t60 : ac.tmps[60]? = some (f 7) := hdst 7 60 (by kernel_rfl) (by kernel_rfl)
                have p7 : (IsTe w6.heap.size (t2, n, er)) (f 7) ww := hpo 7 (by kernel_rfl)
                clear hdst hpo hold ho
                obtain ⟨us, e4, hr⟩ := p7
                rw [e4] at t60
                clear hinv
                exact ⟨_, Or.inl ⟨want0 rfl, fun w' => by go_simp⟩, rfl⟩
              | 10, ho, hps =>
                obtain rfl : _ = o := Option.some.inj ho
                have t60 : ac.tmps[60]? = some (f 7) := hdst 7 60 (by kernel_rfl) (by kernel_rfl)
                have p7 : (IsTe w6.heap.size (t2, n, er)) (f 7) ww := hpo 7 (by kernel_rfl)
                clear hdst hpo hold ho
                obtain ⟨us, e4, hr⟩ := p7
                rw [e4] at t60
                clear hinv
                exact ⟨_, Or.inl ⟨want0 rfl, fun w' => by go_simp⟩, rfl⟩
              | 11, ho, hps =>
                exact absurd hps (by decide)
              | i + 12, ho, hps => simp at ho
          · intro i o ho hps f ac ww hinv hpo hdst hold
            match i, ho, hps with
              | 0, ho, hps =>
                obtain rfl : _ = o := Option.some.inj ho
                have t7 := hold 7 (by kernel_rfl)
                refine Or.inl ⟨want0 rfl, ?_⟩
                clear hdst hpo hold ho
                obtain ⟨-, x0a, x0b, x1a, x1b, x2a, x2b, x2c, x2d⟩ := HA0.out ww hinv
                unfold Ans
                go_simp
                exact ⟨rfl, Below.refl _ _⟩
              | 1, ho, hps =>
                obtain rfl : _ = o := Option.some.inj ho
                have t8 := hold 8 (by kernel_rfl)
                refine Or.inl ⟨want0 rfl, ?_⟩
                clear hdst hpo hold ho
                clear hinv
                unfold Ans
                go_simp
                exact ⟨rfl, Below.refl _ _⟩
              | 2, ho, hps =>
                obtain rfl : _ = o := Option.some.inj ho
                have t14 := hold 14 (by kernel_rfl)
                refine Or.inl ⟨want0 rfl, ?_⟩
                clear hdst hpo hold ho
                clear hinv
                unfold Ans
                go_simp
                exact ⟨rfl, Below.refl _ _⟩
              | 3, ho, hps =>
                obtain rfl : _ = o := Option.some.inj ho
                have t62 : ac.tmps[62]? = some (f 1) := hdst 1 62 (by kernel_rfl) (by kernel_rfl)
                have p1 : (IsV (.slice (some ⟨pb', po', none⟩) roots.length pc)) (f 1) ww := hpo 1 (by kernel_rfl)
                have t63 : ac.tmps[63]? = some (f 2) := hdst 2 63 (by kernel_rfl) (by kernel_rfl)
                have p2 : (IsV (.int .i64 (j : Int))) (f 2) ww := hpo 2 (by kernel_rfl)
                refine Or.inl ⟨want0 rfl, ?_⟩
                clear hdst hpo hold ho
                rw [show f 1 = _ from p1] at t62
                rw [show f 2 = _ from p2] at t63
                clear hinv
                unfold Ans
                go_simp
                exact ⟨rfl, Below.refl _ _⟩
              | 4, ho, hps =>
                obtain rfl : _ = o := Option.some.inj ho
                have t64 : ac.tmps[64]? = some (f 3) := hdst 3 64 (by kernel_rfl) (by kernel_rfl)
                have p3 : (IsV (.pointer (some ⟨pb', po' + j, none⟩))) (f 3) ww := hpo 3 (by kernel_rfl)
                refine Or.inl ⟨want0 rfl, ?_⟩
                clear hdst hpo hold ho
                rw [show f 3 = _ from p3] at t64
                have d0 := HD0.out ww hinv
                unfold Ans
                go_simp
                exact ⟨rfl, Below.refl _ _⟩
              | 5, ho, hps =>
                obtain rfl : _ = o := Option.some.inj ho
                have t2 := hold 2 (by kernel_rfl)
                refine Or.inl ⟨want0 rfl, ?_⟩
                clear hdst hpo hold ho
                clear hinv
                unfold Ans
                go_simp
                exact ⟨rfl, Below.refl _ _⟩
              | 6, ho, hps =>
                obtain rfl : _ = o := Option.some.inj ho
                have t61 : ac.tmps[61]? = some (f 0) := hdst 0 61 (by kernel_rfl) (by kernel_rfl)
                have p0 : (IsV (.agg #[.slice xa x.cells.length xc, .slice xb x.trail.length xd])) (f 0) ww := hpo 0 (by kernel_rfl)
                have t65 : ac.tmps[65]? = some (f 4) := hdst 4 65 (by kernel_rfl) (by kernel_rfl)
                have p4 : (IsV (.int .i64 (g q))) (f 4) ww := hpo 4 (by kernel_rfl)
                have t66 : ac.tmps[66]? = some (f 5) := hdst 5 66 (by kernel_rfl) (by kernel_rfl)
                have p5 : (IsV (.int .i64 mo)) (f 5) ww := hpo 5 (by kernel_rfl)
                refine Or.inl ⟨want0 rfl, ?_⟩
                clear hdst hpo hold ho
                rw [show f 0 = _ from p0] at t61
                rw [show f 4 = _ from p4] at t65
                rw [show f 5 = _ from p5] at t66
                unfold Ans
                go_simp
                refine (HC2.out ww [_, _] (Hp.rep.below HXa3c4jc5a6.out hinv)).mono ?_
                rintro e w1 ⟨r, rfl, hb, us, rfl, hr⟩
                have hz := hinv.size
                have hb0 := hb.size
                refine ⟨_, rfl, ⟨us, rfl, Tm.rep_lasts.2.1 _ _ _ _ _ hr (fun b _ h => by unfold New at h; omega)⟩, hb, fun u hu _ g6 e6 => ⟨us, rfl, Tm.rep_lasts.2.1 _ _ _ _ _ hr (fun b _ h => ⟨by unfold New at h; omega, fun e => ?_⟩)⟩⟩
                obtain ⟨g7, e7, _, h7⟩ := (show IsBox _ _ _ u ww from hu)
                rw [e6] at e7
                simp only [Value.pointer.injEq, Option.some.injEq, Addr.mk.injEq, and_true] at e7
                have := blk_lt h7
                unfold New at h
                omega
              | 7, ho, hps =>
                obtain rfl : _ = o := Option.some.inj ho
                have t67 : ac.tmps[67]? = some (f 6) := hdst 6 67 (by kernel_rfl) (by kernel_rfl)
                have p6 : (IsTe w6.heap.size (t2, n, er)) (f 6) ww := hpo 6 (by kernel_rfl)
                refine Or.inl ⟨want0 rfl, ?_⟩
                clear hdst hpo hold ho
                clear hinv
                unfold Ans
                go_simp
                exact ⟨p6, Below.refl _ _, fun u hu hd g6 e6 => (hd 6 (by kernel_rfl) (by decide)).1 (Or.inl rfl) g6 e6⟩
              | 8, ho, hps =>
                obtain rfl : _ = o := Option.some.inj ho
                have t60 : ac.tmps[60]? = some (f 7) := hdst 7 60 (by kernel_rfl) (by kernel_rfl)
                have p7 : (IsTe w6.heap.size (t2, n, er)) (f 7) ww := hpo 7 (by kernel_rfl)
                refine Or.inl ⟨want0 rfl, ?_⟩
                clear hdst hpo hold ho
                obtain ⟨us, e4, hr⟩ := p7
                rw [e4] at t60
                clear hinv
                unfold Ans
                go_simp
                refine ⟨⟨us, rfl, hr⟩, Below.refl _ _, fun u hu hd g6 e6 => ?_⟩
                obtain ⟨us', e5, hr'⟩ := (hd 7 (by kernel_rfl) (by decide)).1 (Or.inr rfl) g6 e6
                rw [e4] at e5
                obtain rfl : us = us' := by simpa using e5
                exact (hr')
              | 9, ho, hps =>
                exact absurd hps (by decide)
              | 10, ho, hps =>
                exact absurd hps (by decide)
              | 11, ho, hps =>
                obtain rfl : _ = o := Option.some.inj ho
                refine Or.inl ⟨want0 rfl, ?_⟩
                clear hdst hpo hold ho
                unfold Ans
                go_simp
                refine ⟨⟨_, rfl, hinv.size, blk_new _ _⟩, (Below.refl _ _).alloc (Nat.le_refl _) _, fun k u hp => ⟨fun h => ?_, fun h => ?_⟩⟩
                · have hp' : IsTe w6.heap.size (t2, n, er) u ww := by rcases h with rfl | rfl <;> exact hp
                  obtain ⟨us, e4, hr⟩ := hp'
                  exact ⟨us, e4, Tm.rep_lasts.1 _ _ _ _ _ (Tm.rep_lasts.2.1 _ _ _ _ _ hr (fun b hb h => ⟨h, by omega⟩)) (Keeps.alloc _ _ _)⟩
                · subst h
                  obtain ⟨us, e4, hr⟩ := (show IsTmB w6.heap.size t2 u ww from hp)
                  exact ⟨us, e4, Tm.rep_lasts.1 _ _ _ _ _ (Tm.rep_lasts.2.1 _ _ _ _ _ hr (fun b hb h => ⟨h, by omega⟩)) (Keeps.alloc _ _ _)⟩
              | i + 12, ho, hps => simp at ho
          · intro f ww hinv hpo hD
            have p9 : (IsV (.int .i64 n)) (f 9) ww := hpo 9 (by decide)
            have p10 : (IsV (.int .i64 er)) (f 10) ww := hpo 10 (by decide)
            have p11 : (IsBox w6.heap.size 24 #[.int .i64 0, .int .i64 0, .string ByteArray.empty, .slice none 0 0]) (f 11) ww := hpo 11 (by decide)
            obtain ⟨g6, e11, hg6, hx6⟩ := p11
            obtain ⟨us6, e8, hr6⟩ := (hD 8 (by decide) (by decide)).2 rfl g6 e11
            simp only [fillT, List.take_succ_cons, List.take_zero, List.setIfInBounds_toArray, List.set_cons_succ, List.set_cons_zero]
            rw [e8, show f 9 = _ from p9, show f 10 = _ from p10, e11]
            obtain ⟨sa2, sc2, rfl, -⟩ := Tm.rep4 hr6
            have HXB := hid hx6
            have HR6 := hid hr6
            have HIV := hid hinv
            obtain ⟨y0, y1, y2, y3, yf⟩ := blk4 hx6
            have hcs := cell_set
            clear hpo hD hx6 hr6 p9 p10 e8 e11 hinv
            refine wpAny_only (i := 12) (by kernel_rfl) (wpOp_run rfl (by rfl) ?_)
            go_simp
            refine wpAny_only (i := 13) (by kernel_rfl) (wpOp_run rfl (by rfl) ?_)
            go_simp
            refine wpAny_only (i := 14) (by kernel_rfl) (wpOp_run rfl (by rfl) ?_)
            go_simp
            refine wpAny_all (by kernel_rfl) ?_ _
            have hB6 : Below w6.heap.size w6 ((((ww.setCell ⟨g6, 0, none⟩ (.int .i64 t2.kind)).setCell ⟨g6, 1, none⟩ (.int .i64 t2.n)).setCell ⟨g6, 2, none⟩ (.string t2.s)).setCell ⟨g6, 3, none⟩ (.slice sa2 t2.args.length sc2)) := Below.setCell (Below.setCell (Below.setCell (Below.setCell HIV.out (by simp only; omega) _) (by simp only; omega) _) (by simp only; omega) _) (by simp only; omega) _
            have hK : Keeps (fun b => w6.heap.size ≤ b ∧ b ≠ g6) ww ((((ww.setCell ⟨g6, 0, none⟩ (.int .i64 t2.kind)).setCell ⟨g6, 1, none⟩ (.int .i64 t2.n)).setCell ⟨g6, 2, none⟩ (.string t2.s)).setCell ⟨g6, 3, none⟩ (.slice sa2 t2.args.length sc2)) := (((Keeps.setCell _ _ ⟨g6, 0, none⟩ _ (fun h => h.2 rfl)).trans (Keeps.setCell _ _ ⟨g6, 1, none⟩ _ (fun h => h.2 rfl))).trans (Keeps.setCell _ _ ⟨g6, 2, none⟩ _ (fun h => h.2 rfl))).trans (Keeps.setCell _ _ ⟨g6, 3, none⟩ _ (fun h => h.2 rfl))
            have HXq6 := hid (show ((((ww.setCell ⟨g6, 0, none⟩ (.int .i64 t2.kind)).setCell ⟨g6, 1, none⟩ (.int .i64 t2.n)).setCell ⟨g6, 2, none⟩ (.string t2.s)).setCell ⟨g6, 3, none⟩ (.slice sa2 t2.args.length sc2)).heap[g6]? = some (.cells #[.int .i64 t2.kind, .int .i64 t2.n, .string t2.s, .slice sa2 t2.args.length sc2] 24 (0, 0)) from (blk_set (blk_set (blk_set (blk_set HXB.out 0 _) 1 _) 2 _) 3 _).trans rfl)
            have hwz : w4.heap.size ≤ w6.heap.size := by have := hzw; omega
            have UR := hid (show Tm.rep (Out w4.heap.size u12 u13) ((((ww.setCell ⟨g6, 0, none⟩ (.int .i64 t2.kind)).setCell ⟨g6, 1, none⟩ (.int .i64 t2.n)).setCell ⟨g6, 2, none⟩ (.string t2.s)).setCell ⟨g6, 3, none⟩ (.slice sa2 t2.args.length sc2)) t2 _ from Tm.rep_lasts.2.1 _ _ _ _ _ (Tm.rep_lasts.1 _ _ _ _ _ HR6.out hK) (fun b _ hb => ⟨by omega, fun e => by have := HOA.out b e; omega, fun e => by have := HOB.out b e; omega⟩))
            clear y0 y1 y2 y3 yf HXB HR6 HIV hK
            have HXn1c2a3c4jc5a6r := hid (blk_below HXn1c2a3c4jc5a6.out hB6)
            have HXn3c4jc5a6r := hid (blk_below HXn3c4jc5a6.out hB6)
            have HXn6r := hid (blk_below HXn6.out hB6)
            have HHa1c2a3c4jc5a6r := hid (Hp.rep.keeps HHa1c2a3c4jc5a6.out (Keeps.of_below hB6))
            have HRa1c2a3c4jc5a6r := hid (SlR.keeps numR_lasts HRa1c2a3c4jc5a6.out (Keeps.of_below hB6))
            have HXa3c4jc5a6r := hid (Hp.rep.keeps HXa3c4jc5a6.out (Keeps.of_below hB6))
            have HATa3c4jc5a6r := hid (SlR.keeps numR_lasts HATa3c4jc5a6.out (Keeps.of_below hB6))
            have TWc5a6r := hid (Two.keeps TWc5a6.out (Keeps.of_below hB6))
            have TRa6r := hid (Tm.rep_lasts.1 _ _ _ _ _ TRa6.out (Keeps.of_below hB6))
            have HBr := hid (HBa6.out.trans (hB6.mono HBa6.out.size))
            have hzr6 := hB6.size
            clear hB6
            generalize ((((ww.setCell ⟨g6, 0, none⟩ (.int .i64 t2.kind)).setCell ⟨g6, 1, none⟩ (.int .i64 t2.n)).setCell ⟨g6, 2, none⟩ (.string t2.s)).setCell ⟨g6, 3, none⟩ (.slice sa2 t2.args.length sc2)) = WS at HXn1c2a3c4jc5a6r HXn3c4jc5a6r HXn6r HXq6 HHa1c2a3c4jc5a6r HRa1c2a3c4jc5a6r HXa3c4jc5a6r HATa3c4jc5a6r TWc5a6r TRa6r UR HBr hzr6 ⊢
            obtain ⟨x0a, x0b, x0z⟩ := box2 HXn1c2a3c4jc5a6r.out
            have hz0 := blk_lt HXn1c2a3c4jc5a6r.out
            obtain ⟨x1a, x1b, x1z⟩ := box2 HXn3c4jc5a6r.out
            have hz1 := blk_lt HXn3c4jc5a6r.out
            obtain ⟨x2a, x2b, x2c, x2d, x2z⟩ := blk4 HXn6r.out
            have hz2 := blk_lt HXn6r.out
            obtain ⟨x3a, x3b, x3c, x3d, x3z⟩ := blk4 HXq6.out
            have hz3 := blk_lt HXq6.out
            have hee : (er != er) = false := by simp
            have hnn : (n != n) = false := by simp
            by_cases her : er = 0
            · subst her
              go_wp2_with fail
              have hW1 : WS.drew.heap[w5.heap.size]? = some (.cells #[.int .i64 t.kind, .int .i64 t.n, .string t.s, .slice sa t.args.length sc] 24 (0, 0)) ∧ WS.drew.heap[g6]? = some (.cells #[.int .i64 t2.kind, .int .i64 t2.n, .string t2.s, .slice sa2 t2.args.length sc2] 24 (0, 0)) := ⟨blk_keeps (A := fun _ => True) HXn6r.out (Keeps.drew _ _) trivial, blk_keeps (A := fun _ => True) HXq6.out (Keeps.drew _ _) trivial⟩
              have TW0 := hid (Two.keeps TWc5a6r.out (Keeps.drew _ _))
              have TR0 := hid (Tm.rep_lasts.1 _ _ _ _ _ TRa6r.out (Keeps.drew _ _))
              have UR0 := hid (Tm.rep_lasts.1 _ _ _ _ _ UR.out (Keeps.drew _ _))
              have LB0 := hid (HBr.out.drew)
              have hz0 : WS.heap.size ≤ WS.drew.heap.size := by simp
              have hta : wr.heap.size ≤ w5.heap.size := by omega
              have htl : w5.heap.size < WS.heap.size := blk_lt HXn6r.out
              have hul : g6 < WS.heap.size := blk_lt HXq6.out
              have hlen : (termsAt h mo (roots.take j)).length ≤ 1048576 := Nat.le_trans (termsAt_len h mo (roots.take j)) (by rw [List.length_take]; omega)
              have HT2 := hid (HK3.out (by first | rfl | trivial))
              have HTY := hid (termsAt_yes (h := h) (most := mo) HLT.out (by rw [← HQ.out, HTF.out]))
              refine wp_region_F (F := fun k w' => k = 1 ∨ k = 5 → w'.heap[w5.heap.size]? = some (.cells #[.int .i64 t.kind, .int .i64 t.n, .string t.s, .slice sa t.args.length sc] 24 (0, 0)) ∧ w'.heap[g6]? = some (.cells #[.int .i64 t2.kind, .int .i64 t2.n, .string t2.s, .slice sa2 t2.args.length sc2] 24 (0, 0))) (by kernel_rfl) ?_
              refine wpAnyF_take (i := 0) (v := ?_) rfl (by kernel_rfl) (by kernel_rfl) (by kernel_rfl) (fun _ _ _ h => h) (Or.inl ⟨by rfl, ?_⟩) (fun _ => hW1) ?_
              rotate_left
              · (intro w' hw; clear hw; go_simp <;> with_reducible rfl)
              simp only [Act.put, List.setIfInBounds_toArray, List.set_cons_zero, List.set_cons_succ]
              refine wpAnyF_take (i := 1) (v := ?_) rfl (by kernel_rfl) (by kernel_rfl) (by kernel_rfl) (fun _ _ _ h => h) (Or.inl ⟨by rfl, ?_⟩) (fun _ => hW1) ?_
              rotate_left
              · (intro w' hw; obtain ⟨q0, q1, q2, q3, qf⟩ := blk4 (hw (by omega)).1; go_simp <;> with_reducible rfl)
              simp only [Act.put, List.setIfInBounds_toArray, List.set_cons_zero, List.set_cons_succ]
              refine wpAnyF_take (i := 4) (v := ?_) rfl (by kernel_rfl) (by kernel_rfl) (by kernel_rfl) (fun _ _ _ h => h) (Or.inl ⟨by rfl, ?_⟩) (fun _ => hW1) ?_
              rotate_left
              · (intro w' hw; clear hw; go_simp <;> with_reducible rfl)
              simp only [Act.put, List.setIfInBounds_toArray, List.set_cons_zero, List.set_cons_succ]
              refine wpAnyF_take (i := 5) (v := ?_) rfl (by kernel_rfl) (by kernel_rfl) (by kernel_rfl) (fun _ _ _ h => h) (Or.inl ⟨by rfl, ?_⟩) (fun _ => hW1) ?_
              rotate_left
              · (intro w' hw; obtain ⟨q0, q1, q2, q3, qf⟩ := blk4 (hw (by omega)).2; go_simp <;> with_reducible rfl)
              simp only [Act.put, List.setIfInBounds_toArray, List.set_cons_zero, List.set_cons_succ]
              generalize WS.drew = wd at hW1 TW0 TR0 UR0 LB0 hz0 ⊢
              refine wpAnyF_two (i := 2) (j := 6) (by kernel_rfl) (wpOp_run rfl (by rfl) ?_) (wpOp_run rfl (by rfl) ?_)
              · go_simp
                refine ⟨fun k hk hF hk1 => ⟨blk_alloc (hF hk1).1 _, blk_alloc (hF hk1).2 _⟩, ?_⟩
                have S21a := hid (Out.made TW0.out (by omega) TR0.out)
                have TW1a := hid (Two.keeps TW0.out (Keeps.alloc _ _ (.cells #[.int .i64 t.kind, .int .i64 t.n, .string t.s, .slice sa t.args.length sc] 24)))
                have TR1a := hid (Tm.rep_lasts.1 _ _ _ _ _ TR0.out (Keeps.alloc _ _ (.cells #[.int .i64 t.kind, .int .i64 t.n, .string t.s, .slice sa t.args.length sc] 24)))
                have UR1a := hid (Tm.rep_lasts.1 _ _ _ _ _ UR0.out (Keeps.alloc _ _ (.cells #[.int .i64 t.kind, .int .i64 t.n, .string t.s, .slice sa t.args.length sc] 24)))
                have LB1a := hid (LB0.out.alloc (by omega) (.cells #[.int .i64 t.kind, .int .i64 t.n, .string t.s, .slice sa t.args.length sc] 24))
                have hz1a : wd.heap.size < (wd.alloc (.cells #[.int .i64 t.kind, .int .i64 t.n, .string t.s, .slice sa t.args.length sc] 24)).heap.size := by simp
                obtain ⟨z1a, hzz1a⟩ : ∃ z, z = wd.heap.size := ⟨_, rfl⟩
                rw [← hzz1a] at S21a hz1a ⊢
                have hzy1a : wd.heap.size ≤ z1a := by omega
                clear hzz1a
                generalize wd.alloc (.cells #[.int .i64 t.kind, .int .i64 t.n, .string t.s, .slice sa t.args.length sc] 24) = wb1a at S21a  TW1a TR1a UR1a LB1a hz1a ⊢
                refine wpAnyF_two (i := 3) (j := 6) (by kernel_rfl) (wpOp_run rfl (by rfl) ?_) (wpOp_run rfl (by rfl) ?_)
                · refine wp_appS (.tmp 81) (.tmp 83) 22 rfl w4.heap.size 24 4 56 tyTerm Tm.rep_lasts u12 (termsAt h mo (roots.take j)) rfl TW1a.out.a (.slice (some ⟨z1a, 0, none⟩) 1 1) rfl [t] (TW1a.out.src S21a.out) (by simp; omega) (by omega) ?_
                  intro v2a w2a hown hg
                  simp only [Act.put, List.setIfInBounds_toArray, List.set_cons_zero, List.set_cons_succ]
                  have hkb := hg.keeps (A := fun b => ownB u12 ≠ some b) (fun _ h => h)
                  refine ⟨fun k hk hF hk1 => ⟨blk_keeps (hF hk1).1 hkb (fun e => by have := (HOA.out _ e).2; omega), blk_keeps (hF hk1).2 hkb (fun e => by have := (HOA.out _ e).2; omega)⟩, ?_⟩
                  have TW2a := hid (TW1a.out.app hown hg)
                  have UR2a := hid (Out.appT hg UR1a.out)
                  have LB2a := hid (hg.below LB1a.out (by omega) (fun k hk => (TW1a.out.a.lt k hk).1))
                  have hz2a := hg.size
                  clear hown hg hkb
                  refine wpAnyF_one (i := 6) (by kernel_rfl) (wpOp_run rfl (by rfl) ?_)
                  go_simp
                  refine ⟨fun k hk hF hk1 => ⟨blk_alloc (hF hk1).1 _, blk_alloc (hF hk1).2 _⟩, ?_⟩
                  have S63a := hid (Out.made TW2a.out (by omega) UR2a.out)
                  have S23a := hid (SlR.keeps Tm.rep_lasts S21a.out (Keeps.alloc _ _ (.cells #[.int .i64 t2.kind, .int .i64 t2.n, .string t2.s, .slice sa2 t2.args.length sc2] 24)))
                  have TW3a := hid (Two.keeps TW2a.out (Keeps.alloc _ _ (.cells #[.int .i64 t2.kind, .int .i64 t2.n, .string t2.s, .slice sa2 t2.args.length sc2] 24)))
                  have TR3a := hid (Tm.rep_lasts.1 _ _ _ _ _ TR1a.out (Keeps.alloc _ _ (.cells #[.int .i64 t2.kind, .int .i64 t2.n, .string t2.s, .slice sa2 t2.args.length sc2] 24)))
                  have UR3a := hid (Tm.rep_lasts.1 _ _ _ _ _ UR2a.out (Keeps.alloc _ _ (.cells #[.int .i64 t2.kind, .int .i64 t2.n, .string t2.s, .slice sa2 t2.args.length sc2] 24)))
                  have LB3a := hid (LB2a.out.alloc (by omega) (.cells #[.int .i64 t2.kind, .int .i64 t2.n, .string t2.s, .slice sa2 t2.args.length sc2] 24))
                  have hz3a : w2a.heap.size < (w2a.alloc (.cells #[.int .i64 t2.kind, .int .i64 t2.n, .string t2.s, .slice sa2 t2.args.length sc2] 24)).heap.size := by simp
                  obtain ⟨z3a, hzz3a⟩ : ∃ z, z = w2a.heap.size := ⟨_, rfl⟩
                  rw [← hzz3a] at S63a hz3a ⊢
                  have hzy3a : w2a.heap.size ≤ z3a := by omega
                  clear hzz3a
                  generalize w2a.alloc (.cells #[.int .i64 t2.kind, .int .i64 t2.n, .string t2.s, .slice sa2 t2.args.length sc2] 24) = wb3a at S63a S23a TW3a TR3a UR3a LB3a hz3a ⊢
                  refine wpAnyF_one (i := 7) (by kernel_rfl) (wpOp_run rfl (by rfl) ?_)
                  refine wp_appS (.tmp 85) (.tmp 87) 22 rfl w4.heap.size 24 4 56 tyTerm Tm.rep_lasts u13 ((termsAt h mo (roots.take j)).map (Tm.ren g)) rfl TW3a.out.swap.a (.slice (some ⟨z3a, 0, none⟩) 1 1) rfl [t2] (TW3a.out.swap.src (Out.swap S63a.out)) (by simp; omega) (by omega) ?_
                  intro v4a w4a hown hg
                  simp only [Act.put, List.setIfInBounds_toArray, List.set_cons_zero, List.set_cons_succ]
                  have hkb := hg.keeps (A := fun b => ownB u13 ≠ some b) (fun _ h => h)
                  refine ⟨fun k hk hF hk1 => ⟨blk_keeps (hF hk1).1 hkb (fun e => by have := (HOB.out _ e).2; omega), blk_keeps (hF hk1).2 hkb (fun e => by have := (HOB.out _ e).2; omega)⟩, ?_⟩
                  have TW4a := hid (TW3a.out.swap.app hown hg).swap
                  have LB4a := hid (hg.below LB3a.out (by omega) (fun k hk => (TW3a.out.b.lt k hk).1))
                  have hz4a := hg.size
                  clear hown hg hkb
                  refine wpAnyF_one (i := 8) (by kernel_rfl) (wpOp_run rfl (by rfl) ?_)
                  go_simp
                  refine ⟨fun _ _ h => h, ?_⟩
                  refine wpAnyF_one (i := 9) (by kernel_rfl) (wpOp_run rfl (by rfl) ?_)
                  go_simp
                  refine ⟨fun _ _ h => h, wpAnyF_done (by kernel_rfl) ?_ _⟩
                  go_wp2_with fail
                  go_roundw
                  case rel =>
                    refine ⟨j + 1, by omega, by go_num, LB4a.out, ?_⟩
                    rw [HTY.out, ← HQ.out, HTF.out, List.map_append, List.map_singleton, ← HT2.out]
                    exact TW4a.out
                  case measure => first | (simp [intOf]; done) | (simp [intOf]; omega)
                · go_simp
                  refine ⟨fun k hk hF hk1 => ⟨blk_alloc (hF hk1).1 _, blk_alloc (hF hk1).2 _⟩, ?_⟩
                  have S62b := hid (Out.made TW1a.out (by omega) UR1a.out)
                  have S22b := hid (SlR.keeps Tm.rep_lasts S21a.out (Keeps.alloc _ _ (.cells #[.int .i64 t2.kind, .int .i64 t2.n, .string t2.s, .slice sa2 t2.args.length sc2] 24)))
                  have TW2b := hid (Two.keeps TW1a.out (Keeps.alloc _ _ (.cells #[.int .i64 t2.kind, .int .i64 t2.n, .string t2.s, .slice sa2 t2.args.length sc2] 24)))
                  have TR2b := hid (Tm.rep_lasts.1 _ _ _ _ _ TR1a.out (Keeps.alloc _ _ (.cells #[.int .i64 t2.kind, .int .i64 t2.n, .string t2.s, .slice sa2 t2.args.length sc2] 24)))
                  have UR2b := hid (Tm.rep_lasts.1 _ _ _ _ _ UR1a.out (Keeps.alloc _ _ (.cells #[.int .i64 t2.kind, .int .i64 t2.n, .string t2.s, .slice sa2 t2.args.length sc2] 24)))
                  have LB2b := hid (LB1a.out.alloc (by omega) (.cells #[.int .i64 t2.kind, .int .i64 t2.n, .string t2.s, .slice sa2 t2.args.length sc2] 24))
                  have hz2b : wb1a.heap.size < (wb1a.alloc (.cells #[.int .i64 t2.kind, .int .i64 t2.n, .string t2.s, .slice sa2 t2.args.length sc2] 24)).heap.size := by simp
                  obtain ⟨z2b, hzz2b⟩ : ∃ z, z = wb1a.heap.size := ⟨_, rfl⟩
                  rw [← hzz2b] at S62b hz2b ⊢
                  have hzy2b : wb1a.heap.size ≤ z2b := by omega
                  clear hzz2b
                  generalize wb1a.alloc (.cells #[.int .i64 t2.kind, .int .i64 t2.n, .string t2.s, .slice sa2 t2.args.length sc2] 24) = wb2b at S62b S22b TW2b TR2b UR2b LB2b hz2b ⊢
                  refine wpAnyF_one (i := 3) (by kernel_rfl) (wpOp_run rfl (by rfl) ?_)
                  refine wp_appS (.tmp 81) (.tmp 83) 22 rfl w4.heap.size 24 4 56 tyTerm Tm.rep_lasts u12 (termsAt h mo (roots.take j)) rfl TW2b.out.a (.slice (some ⟨z1a, 0, none⟩) 1 1) rfl [t] (TW2b.out.src S22b.out) (by simp; omega) (by omega) ?_
                  intro v3b w3b hown hg
                  simp only [Act.put, List.setIfInBounds_toArray, List.set_cons_zero, List.set_cons_succ]
                  have hkb := hg.keeps (A := fun b => ownB u12 ≠ some b) (fun _ h => h)
                  refine ⟨fun k hk hF hk1 => ⟨blk_keeps (hF hk1).1 hkb (fun e => by have := (HOA.out _ e).2; omega), blk_keeps (hF hk1).2 hkb (fun e => by have := (HOA.out _ e).2; omega)⟩, ?_⟩
                  have TW3b := hid (TW2b.out.app hown hg)
                  have S63b := hid (Out.app hg S62b.out)
                  have LB3b := hid (hg.below LB2b.out (by omega) (fun k hk => (TW2b.out.a.lt k hk).1))
                  have hz3b := hg.size
                  clear hown hg hkb
                  refine wpAnyF_one (i := 7) (by kernel_rfl) (wpOp_run rfl (by rfl) ?_)
                  refine wp_appS (.tmp 85) (.tmp 87) 22 rfl w4.heap.size 24 4 56 tyTerm Tm.rep_lasts u13 ((termsAt h mo (roots.take j)).map (Tm.ren g)) rfl TW3b.out.swap.a (.slice (some ⟨z2b, 0, none⟩) 1 1) rfl [t2] (TW3b.out.swap.src (Out.swap S63b.out)) (by simp; omega) (by omega) ?_
                  intro v4b w4b hown hg
                  simp only [Act.put, List.setIfInBounds_toArray, List.set_cons_zero, List.set_cons_succ]
                  have hkb := hg.keeps (A := fun b => ownB u13 ≠ some b) (fun _ h => h)
                  refine ⟨fun k hk hF hk1 => ⟨blk_keeps (hF hk1).1 hkb (fun e => by have := (HOB.out _ e).2; omega), blk_keeps (hF hk1).2 hkb (fun e => by have := (HOB.out _ e).2; omega)⟩, ?_⟩
                  have TW4b := hid (TW3b.out.swap.app hown hg).swap
                  have LB4b := hid (hg.below LB3b.out (by omega) (fun k hk => (TW3b.out.b.lt k hk).1))
                  have hz4b := hg.size
                  clear hown hg hkb
                  refine wpAnyF_one (i := 8) (by kernel_rfl) (wpOp_run rfl (by rfl) ?_)
                  go_simp
                  refine ⟨fun _ _ h => h, ?_⟩
                  refine wpAnyF_one (i := 9) (by kernel_rfl) (wpOp_run rfl (by rfl) ?_)
                  go_simp
                  refine ⟨fun _ _ h => h, wpAnyF_done (by kernel_rfl) ?_ _⟩
                  go_wp2_with fail
                  go_roundw
                  case rel =>
                    refine ⟨j + 1, by omega, by go_num, LB4b.out, ?_⟩
                    rw [HTY.out, ← HQ.out, HTF.out, List.map_append, List.map_singleton, ← HT2.out]
                    exact TW4b.out
                  case measure => first | (simp [intOf]; done) | (simp [intOf]; omega)
              · go_simp
                refine ⟨fun k hk hF hk1 => ⟨blk_alloc (hF hk1).1 _, blk_alloc (hF hk1).2 _⟩, ?_⟩
                have S61c := hid (Out.made TW0.out (by omega) UR0.out)
                have TW1c := hid (Two.keeps TW0.out (Keeps.alloc _ _ (.cells #[.int .i64 t2.kind, .int .i64 t2.n, .string t2.s, .slice sa2 t2.args.length sc2] 24)))
                have TR1c := hid (Tm.rep_lasts.1 _ _ _ _ _ TR0.out (Keeps.alloc _ _ (.cells #[.int .i64 t2.kind, .int .i64 t2.n, .string t2.s, .slice sa2 t2.args.length sc2] 24)))
                have UR1c := hid (Tm.rep_lasts.1 _ _ _ _ _ UR0.out (Keeps.alloc _ _ (.cells #[.int .i64 t2.kind, .int .i64 t2.n, .string t2.s, .slice sa2 t2.args.length sc2] 24)))
                have LB1c := hid (LB0.out.alloc (by omega) (.cells #[.int .i64 t2.kind, .int .i64 t2.n, .string t2.s, .slice sa2 t2.args.length sc2] 24))
                have hz1c : wd.heap.size < (wd.alloc (.cells #[.int .i64 t2.kind, .int .i64 t2.n, .string t2.s, .slice sa2 t2.args.length sc2] 24)).heap.size := by simp
                obtain ⟨z1c, hzz1c⟩ : ∃ z, z = wd.heap.size := ⟨_, rfl⟩
                rw [← hzz1c] at S61c hz1c ⊢
                have hzy1c : wd.heap.size ≤ z1c := by omega
                clear hzz1c
                generalize wd.alloc (.cells #[.int .i64 t2.kind, .int .i64 t2.n, .string t2.s, .slice sa2 t2.args.length sc2] 24) = wb1c at S61c  TW1c TR1c UR1c LB1c hz1c ⊢
                refine wpAnyF_one (i := 2) (by kernel_rfl) (wpOp_run rfl (by rfl) ?_)
                go_simp
                refine ⟨fun k hk hF hk1 => ⟨blk_alloc (hF hk1).1 _, blk_alloc (hF hk1).2 _⟩, ?_⟩
                have S22c := hid (Out.made TW1c.out (by omega) TR1c.out)
                have S62c := hid (SlR.keeps Tm.rep_lasts S61c.out (Keeps.alloc _ _ (.cells #[.int .i64 t.kind, .int .i64 t.n, .string t.s, .slice sa t.args.length sc] 24)))
                have TW2c := hid (Two.keeps TW1c.out (Keeps.alloc _ _ (.cells #[.int .i64 t.kind, .int .i64 t.n, .string t.s, .slice sa t.args.length sc] 24)))
                have TR2c := hid (Tm.rep_lasts.1 _ _ _ _ _ TR1c.out (Keeps.alloc _ _ (.cells #[.int .i64 t.kind, .int .i64 t.n, .string t.s, .slice sa t.args.length sc] 24)))
                have UR2c := hid (Tm.rep_lasts.1 _ _ _ _ _ UR1c.out (Keeps.alloc _ _ (.cells #[.int .i64 t.kind, .int .i64 t.n, .string t.s, .slice sa t.args.length sc] 24)))
                have LB2c := hid (LB1c.out.alloc (by omega) (.cells #[.int .i64 t.kind, .int .i64 t.n, .string t.s, .slice sa t.args.length sc] 24))
                have hz2c : wb1c.heap.size < (wb1c.alloc (.cells #[.int .i64 t.kind, .int .i64 t.n, .string t.s, .slice sa t.args.length sc] 24)).heap.size := by simp
                obtain ⟨z2c, hzz2c⟩ : ∃ z, z = wb1c.heap.size := ⟨_, rfl⟩
                rw [← hzz2c] at S22c hz2c ⊢
                have hzy2c : wb1c.heap.size ≤ z2c := by omega
                clear hzz2c
                generalize wb1c.alloc (.cells #[.int .i64 t.kind, .int .i64 t.n, .string t.s, .slice sa t.args.length sc] 24) = wb2c at S22c S62c TW2c TR2c UR2c LB2c hz2c ⊢
                refine wpAnyF_one (i := 3) (by kernel_rfl) (wpOp_run rfl (by rfl) ?_)
                refine wp_appS (.tmp 81) (.tmp 83) 22 rfl w4.heap.size 24 4 56 tyTerm Tm.rep_lasts u12 (termsAt h mo (roots.take j)) rfl TW2c.out.a (.slice (some ⟨z2c, 0, none⟩) 1 1) rfl [t] (TW2c.out.src S22c.out) (by simp; omega) (by omega) ?_
                intro v3c w3c hown hg
                simp only [Act.put, List.setIfInBounds_toArray, List.set_cons_zero, List.set_cons_succ]
                have hkb := hg.keeps (A := fun b => ownB u12 ≠ some b) (fun _ h => h)
                refine ⟨fun k hk hF hk1 => ⟨blk_keeps (hF hk1).1 hkb (fun e => by have := (HOA.out _ e).2; omega), blk_keeps (hF hk1).2 hkb (fun e => by have := (HOA.out _ e).2; omega)⟩, ?_⟩
                have TW3c := hid (TW2c.out.app hown hg)
                have S63c := hid (Out.app hg S62c.out)
                have LB3c := hid (hg.below LB2c.out (by omega) (fun k hk => (TW2c.out.a.lt k hk).1))
                have hz3c := hg.size
                clear hown hg hkb
                refine wpAnyF_one (i := 7) (by kernel_rfl) (wpOp_run rfl (by rfl) ?_)
                refine wp_appS (.tmp 85) (.tmp 87) 22 rfl w4.heap.size 24 4 56 tyTerm Tm.rep_lasts u13 ((termsAt h mo (roots.take j)).map (Tm.ren g)) rfl TW3c.out.swap.a (.slice (some ⟨z1c, 0, none⟩) 1 1) rfl [t2] (TW3c.out.swap.src (Out.swap S63c.out)) (by simp; omega) (by omega) ?_
                intro v4c w4c hown hg
                simp only [Act.put, List.setIfInBounds_toArray, List.set_cons_zero, List.set_cons_succ]
                have hkb := hg.keeps (A := fun b => ownB u13 ≠ some b) (fun _ h => h)
                refine ⟨fun k hk hF hk1 => ⟨blk_keeps (hF hk1).1 hkb (fun e => by have := (HOB.out _ e).2; omega), blk_keeps (hF hk1).2 hkb (fun e => by have := (HOB.out _ e).2; omega)⟩, ?_⟩
                have TW4c := hid (TW3c.out.swap.app hown hg).swap
                have LB4c := hid (hg.below LB3c.out (by omega) (fun k hk => (TW3c.out.b.lt k hk).1))
                have hz4c := hg.size
                clear hown hg hkb
                refine wpAnyF_one (i := 8) (by kernel_rfl) (wpOp_run rfl (by rfl) ?_)
                go_simp
                refine ⟨fun _ _ h => h, ?_⟩
                refine wpAnyF_one (i := 9) (by kernel_rfl) (wpOp_run rfl (by rfl) ?_)
                go_simp
                refine ⟨fun _ _ h => h, wpAnyF_done (by kernel_rfl) ?_ _⟩
                go_wp2_with fail
                go_roundw
                case rel =>
                  refine ⟨j + 1, by omega, by go_num, LB4c.out, ?_⟩
                  rw [HTY.out, ← HQ.out, HTF.out, List.map_append, List.map_singleton, ← HT2.out]
                  exact TW4c.out
                case measure => first | (simp [intOf]; done) | (simp [intOf]; omega)
            · have HER := hid her
              have hez : (er == 0) = false := by simpa using her
              go_wp2_with fail
              go_roundw
              case rel =>
                have ht := termsAt_no (h := h) (most := mo) HLT.out (by rw [← HQ.out, HTF.out]; exact HER.out)
                exact ⟨j + 1, by omega, by go_num, HBr.out, by rw [ht]; exact TWc5a6r.out⟩
              case measure => first | (simp [intOf]; done) | (simp [intOf]; omega)
        · have hje : j = roots.length := by omega
          subst hje
          rw [List.take_length] at TW
          obtain ⟨we, hwe⟩ : ∃ x, x = wr := ⟨_, rfl⟩
          subst hwe
          have hlt' : ¬ ((roots.length : Int) < (roots.length : Int)) := by omega
          have hpr : ((roots.length : Int) == (roots.length : Int)) = true := by simp
          clear hb htw hlt hj
          obtain ⟨x0a, x0b, x0z⟩ := box2 HXn1c2a3c4j.out
          have hz0 := blk_lt HXn1c2a3c4j.out
          obtain ⟨x1a, x1b, x1z⟩ := box2 HXn3c4j.out
          have hz1 := blk_lt HXn3c4j.out
          have hla := termsAt_len h mo roots
          have HTA := hid (show TmsR (fun _ => True) we (termsAt h mo roots) u12 from OwnR.sl Tm.rep_lasts (TW.out.a.mono (A' := fun _ => True) Tm.rep_lasts (fun _ _ _ => trivial)) (by omega) (fun _ _ => trivial))
          have HTB := hid (show TmsR (fun _ => True) we ((termsAt h mo roots).map (Tm.ren g)) u13 from OwnR.sl Tm.rep_lasts (TW.out.b.mono (A' := fun _ => True) Tm.rep_lasts (fun _ _ _ => trivial)) (by rw [List.length_map]; omega) (fun _ _ => trivial))
          go_wp2_with fail
          refine (tidyS_ok _ HSA.out (fun _ => True) _ _ HTA.out).mono ?_
          rintro e w5 ⟨v, rfl, hb5, hta⟩
          have hta2 := SlR.mono (A' := fun _ => True) Tm.rep_lasts (by omega) hta (fun _ _ _ => trivial)
          clear x0a x0b x0z hz0 x1a x1b x1z hz1
          have HXn1c2a3c4jc5 := hid (blk_below HXn1c2a3c4j.out hb5)
          have HXn3c4jc5 := hid (blk_below HXn3c4j.out hb5)
          have HHa1c2a3c4jc5 := hid (Hp.rep.keeps HHa1c2a3c4j.out (Keeps.of_below hb5))
          have HRa1c2a3c4jc5 := hid (SlR.keeps numR_lasts HRa1c2a3c4j.out (Keeps.of_below hb5))
          have HXa3c4jc5 := hid (Hp.rep.keeps HXa3c4j.out (Keeps.of_below hb5))
          have HATa3c4jc5 := hid (SlR.keeps numR_lasts HATa3c4j.out (Keeps.of_below hb5))
          have TWc5 := hid (Two.keeps TW.out (Keeps.of_below hb5))
          have HTAc5 := hid (SlR.keeps Tm.rep_lasts HTA.out (Keeps.of_below hb5))
          have HTBc5 := hid (SlR.keeps Tm.rep_lasts HTB.out (Keeps.of_below hb5))
          have HBc5 := hid (HBj.out.trans (hb5.mono HBj.out.size))
          have hzz5 := hb5.size
          clear hb5
          obtain ⟨x0a, x0b, x0z⟩ := box2 HXn1c2a3c4jc5.out
          have hz0 := blk_lt HXn1c2a3c4jc5.out
          obtain ⟨x1a, x1b, x1z⟩ := box2 HXn3c4jc5.out
          have hz1 := blk_lt HXn3c4jc5.out
          have HTC := hid (hta2)
          clear hta hta2
          go_wp2_with fail
          refine (tidyS_ok _ HSB.out (fun _ => True) _ _ HTBc5.out).mono ?_
          rintro e w6 ⟨v, rfl, hb6, hta⟩
          have hta2 := SlR.mono (A' := fun _ => True) Tm.rep_lasts (by omega) hta (fun _ _ _ => trivial)
          clear x0a x0b x0z hz0 x1a x1b x1z hz1
          have HXn1c2a3c4jc5c6 := hid (blk_below HXn1c2a3c4jc5.out hb6)
          have HXn3c4jc5c6 := hid (blk_below HXn3c4jc5.out hb6)
          have HHa1c2a3c4jc5c6 := hid (Hp.rep.keeps HHa1c2a3c4jc5.out (Keeps.of_below hb6))
          have HRa1c2a3c4jc5c6 := hid (SlR.keeps numR_lasts HRa1c2a3c4jc5.out (Keeps.of_below hb6))
          have HXa3c4jc5c6 := hid (Hp.rep.keeps HXa3c4jc5.out (Keeps.of_below hb6))
          have HATa3c4jc5c6 := hid (SlR.keeps numR_lasts HATa3c4jc5.out (Keeps.of_below hb6))
          have TWc5c6 := hid (Two.keeps TWc5.out (Keeps.of_below hb6))
          have HTAc5c6 := hid (SlR.keeps Tm.rep_lasts HTAc5.out (Keeps.of_below hb6))
          have HTBc5c6 := hid (SlR.keeps Tm.rep_lasts HTBc5.out (Keeps.of_below hb6))
          have HTCc6 := hid (SlR.keeps Tm.rep_lasts HTC.out (Keeps.of_below hb6))
          have HBc6 := hid (HBc5.out.trans (hb6.mono HBc5.out.size))
          have hzz6 := hb6.size
          clear hb6
          obtain ⟨x0a, x0b, x0z⟩ := box2 HXn1c2a3c4jc5c6.out
          have hz0 := blk_lt HXn1c2a3c4jc5c6.out
          obtain ⟨x1a, x1b, x1z⟩ := box2 HXn3c4jc5c6.out
          have hz1 := blk_lt HXn3c4jc5c6.out
          have HTD := hid (hta2)
          clear hta hta2
          go_wp2_with fail
          refine (sames_ok _ _ (fun _ => True) _ _ _ HTCc6.out HTD.out).mono ?_
          rintro e w7 ⟨v, rfl, hb7, b, rfl, ht⟩
          obtain rfl : b = true := ht.2 HTE.out.symm
          clear ht
          clear x0a x0b x0z hz0 x1a x1b x1z hz1
          have HXn1c2a3c4jc5c6c7 := hid (blk_below HXn1c2a3c4jc5c6.out hb7)
          have HXn3c4jc5c6c7 := hid (blk_below HXn3c4jc5c6.out hb7)
          have HHa1c2a3c4jc5c6c7 := hid (Hp.rep.keeps HHa1c2a3c4jc5c6.out (Keeps.of_below hb7))
          have HRa1c2a3c4jc5c6c7 := hid (SlR.keeps numR_lasts HRa1c2a3c4jc5c6.out (Keeps.of_below hb7))
          have HXa3c4jc5c6c7 := hid (Hp.rep.keeps HXa3c4jc5c6.out (Keeps.of_below hb7))
          have HATa3c4jc5c6c7 := hid (SlR.keeps numR_lasts HATa3c4jc5c6.out (Keeps.of_below hb7))
          have TWc5c6c7 := hid (Two.keeps TWc5c6.out (Keeps.of_below hb7))
          have HTAc5c6c7 := hid (SlR.keeps Tm.rep_lasts HTAc5c6.out (Keeps.of_below hb7))
          have HTBc5c6c7 := hid (SlR.keeps Tm.rep_lasts HTBc5c6.out (Keeps.of_below hb7))
          have HTCc6c7 := hid (SlR.keeps Tm.rep_lasts HTCc6.out (Keeps.of_below hb7))
          have HTDc7 := hid (SlR.keeps Tm.rep_lasts HTD.out (Keeps.of_below hb7))
          have HBc7 := hid (HBc6.out.trans (hb7.mono HBc6.out.size))
          have hzz7 := hb7.size
          clear hb7
          obtain ⟨x0a, x0b, x0z⟩ := box2 HXn1c2a3c4jc5c6c7.out
          have hz0 := blk_lt HXn1c2a3c4jc5c6c7.out
          obtain ⟨x1a, x1b, x1z⟩ := box2 HXn3c4jc5c6c7.out
          have hz1 := blk_lt HXn3c4jc5c6c7.out
          go_wp2_with fail
          refine (good_ok x (fun _ => True) _ [_, _] HXa3c4jc5c6c7.out).mono ?_
          rintro e w8 ⟨v, rfl, hb8, b, rfl, ht⟩
          obtain rfl : b = true := ht.2 HXG.out
          clear ht
          clear x0a x0b x0z hz0 x1a x1b x1z hz1
          have HXn1c2a3c4jc5c6c7c8 := hid (blk_below HXn1c2a3c4jc5c6c7.out hb8)
          have HXn3c4jc5c6c7c8 := hid (blk_below HXn3c4jc5c6c7.out hb8)
          have HHa1c2a3c4jc5c6c7c8 := hid (Hp.rep.keeps HHa1c2a3c4jc5c6c7.out (Keeps.of_below hb8))
          have HRa1c2a3c4jc5c6c7c8 := hid (SlR.keeps numR_lasts HRa1c2a3c4jc5c6c7.out (Keeps.of_below hb8))
          have HXa3c4jc5c6c7c8 := hid (Hp.rep.keeps HXa3c4jc5c6c7.out (Keeps.of_below hb8))
          have HATa3c4jc5c6c7c8 := hid (SlR.keeps numR_lasts HATa3c4jc5c6c7.out (Keeps.of_below hb8))
          have TWc5c6c7c8 := hid (Two.keeps TWc5c6c7.out (Keeps.of_below hb8))
          have HTAc5c6c7c8 := hid (SlR.keeps Tm.rep_lasts HTAc5c6c7.out (Keeps.of_below hb8))
          have HTBc5c6c7c8 := hid (SlR.keeps Tm.rep_lasts HTBc5c6c7.out (Keeps.of_below hb8))
          have HTCc6c7c8 := hid (SlR.keeps Tm.rep_lasts HTCc6c7.out (Keeps.of_below hb8))
          have HTDc7c8 := hid (SlR.keeps Tm.rep_lasts HTDc7.out (Keeps.of_below hb8))
          have HBc8 := hid (HBc7.out.trans (hb8.mono HBc7.out.size))
          have hzz8 := hb8.size
          clear hb8
          obtain ⟨x0a, x0b, x0z⟩ := box2 HXn1c2a3c4jc5c6c7c8.out
          have hz0 := blk_lt HXn1c2a3c4jc5c6c7c8.out
          obtain ⟨x1a, x1b, x1z⟩ := box2 HXn3c4jc5c6c7c8.out
          have hz1 := blk_lt HXn3c4jc5c6c7c8.out
          go_wp2_with fail
          go_ret
          exact ⟨_, rfl, HBc8.out, rfl⟩
end Go.Proofs.Ytlpmfkpefoegeab
