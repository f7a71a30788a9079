/-
  The walk of queristlaw.HeapBacks.
-/
import Derived.Test.YtlpmfkpefoegeaaQBack
import Derived.Test.YtlpmfkpefoegeaaQLookAt
import Derived.Test.YtlpmfkpefoegeaaQHeaps
import Derived.Test.YtlpmfkpefoegeaaQSameHeap
namespace Go.Proofs.Ytlpmfkpefoegeaa
set_option linter.unusedVariables false
set_option linter.unusedSimpArgs false
open Go.RowKit

set_option maxRecDepth 100000 in
set_option maxHeartbeats 4000000 in
theorem heapBacks_walk (h : Hp) (n : Int) (hn : I64 n) (w : World) (vs : List Value) (hh : Hp.rep (fun _ => True) w h vs) :
    Calls Try.prog 9 #[.agg vs.toArray, .int .i64 n] w (Pure w (fun r _ => r = .bool true)) := by
  obtain ⟨va, cap, vb, tap, rfl, hc1, hc2, hc3, ht1, ht2, ht3, -⟩ := Hp.rep2 hh
  have HIN := hid hn
  have HU1 := hid (fun (W : World) (us : List Value) (k : Hp.rep (fun _ => True) W h us) => undo_ok h n hn (fun _ => True) W us k)
  have HU2 := hid (fun (W : World) (us : List Value) (k : Hp.rep (fun _ => True) W h us) => undoTo_ok h n hn (fun _ => True) W us k)
  have HQ1 := hid (fun (W : World) (us : List Value) (k : Hp.rep (fun _ => True) W h us) => cut_ok h n hn (fun _ => True) W us k)
  have HQ2 := hid (fun (W : World) (us : List Value) (k : Hp.rep (fun _ => True) W h us) => cutAt_ok h n hn (fun _ => True) W us k)
  generalize undoF h n = ru at HU1 HU2
  generalize cutF h n = rq at HQ1 HQ2
  obtain ⟨hu, eu⟩ := ru
  obtain ⟨hq, eq⟩ := rq
  have HH := hid (hh)
  clear hh
  go_enter Try.func9, Try.ntmps9
  go_wp2_with fail
  have HHa1 := hid (Hp.rep.keeps HH.out (Keeps.alloc _ _ (.cells #[.slice va h.cells.length cap, .slice vb h.trail.length tap] 38)))
  have HXn1 := hid (blk_new w (.cells #[.slice va h.cells.length cap, .slice vb h.trail.length tap] 38))
  have HBa1 := hid ((Below.refl _ w).alloc (Nat.le_refl _) (.cells #[.slice va h.cells.length cap, .slice vb h.trail.length tap] 38))
  have hsz1 : w.heap.size < (w.alloc (.cells #[.slice va h.cells.length cap, .slice vb h.trail.length tap] 38)).heap.size := by simp
  generalize w.alloc (.cells #[.slice va h.cells.length cap, .slice vb h.trail.length tap] 38) = w1 at HXn1 HHa1 HBa1 hsz1 ⊢
  obtain ⟨x0a, x0b, x0f⟩ := box2 HXn1.out
  have hz0 := blk_lt HXn1.out
  refine (copyHeap_ok h (fun _ => True) _ [_, _] HHa1.out).mono ?_
  rintro e w2 ⟨v, rfl, hb2, us, rfl, hown⟩
  have hrc := hown.rep (A := fun _ => True) hc3 ht3 (fun _ _ => trivial)
  obtain ⟨ca, cc, ta, tc, rfl, -⟩ := Hp.rep2 hrc
  have HXn1c2 := hid (blk_below HXn1.out hb2)
  have HHa1c2 := hid (Hp.rep.below HHa1.out hb2)
  have HBc2 := hid (HBa1.out.trans (hb2.mono HBa1.out.size))
  have hzz2 := hb2.size
  clear hb2 x0a x0b x0f
  obtain ⟨x0a, x0b, x0f⟩ := box2 HXn1c2.out
  have hz0 := blk_lt HXn1c2.out
  have HRC := hid (hrc)
  clear hrc hown
  go_wp2_with fail
  have HXn1c2a3 := hid (blk_alloc HXn1c2.out (.cells #[.slice ca h.cells.length cc, .slice ta h.trail.length tc] 38))
  have HHa1c2a3 := hid (Hp.rep.keeps HHa1c2.out (Keeps.alloc _ _ (.cells #[.slice ca h.cells.length cc, .slice ta h.trail.length tc] 38)))
  have HRCa3 := hid (Hp.rep.keeps HRC.out (Keeps.alloc _ _ (.cells #[.slice ca h.cells.length cc, .slice ta h.trail.length tc] 38)))
  have HXn3 := hid (blk_new w2 (.cells #[.slice ca h.cells.length cc, .slice ta h.trail.length tc] 38))
  have HBa3 := hid (HBc2.out.alloc HBc2.out.size (.cells #[.slice ca h.cells.length cc, .slice ta h.trail.length tc] 38))
  clear x0a x0b x0f hz0
  have hsz3 : w2.heap.size < (w2.alloc (.cells #[.slice ca h.cells.length cc, .slice ta h.trail.length tc] 38)).heap.size := by simp
  generalize w2.alloc (.cells #[.slice ca h.cells.length cc, .slice ta h.trail.length tc] 38) = w3 at HXn1c2a3 HXn3 HHa1c2a3 HRCa3 HBa3 hsz3 ⊢
  obtain ⟨x0a, x0b, x0f⟩ := box2 HXn1c2a3.out
  have hz0 := blk_lt HXn1c2a3.out
  obtain ⟨x1a, x1b, x1f⟩ := box2 HXn3.out
  have hz1 := blk_lt HXn3.out
  refine (HU1.out _ [_, _] HRCa3.out).mono ?_
  rintro e w4 ⟨v, rfl, hb4, us, rfl, hr⟩
  obtain ⟨a1, c1, b1, d1, rfl, -⟩ := Hp.rep2 hr
  have HXn1c2a3c4 := hid (blk_below HXn1c2a3.out hb4)
  have HXn3c4 := hid (blk_below HXn3.out hb4)
  have HHa1c2a3c4 := hid (Hp.rep.below HHa1c2a3.out hb4)
  have HRCa3c4 := hid (Hp.rep.below HRCa3.out hb4)
  have HBc4 := hid (HBa3.out.trans (hb4.mono HBa3.out.size))
  have hzz4 := hb4.size
  clear hb4 x0a x0b x0f x1a x1b x1f
  obtain ⟨x0a, x0b, x0f⟩ := box2 HXn1c2a3c4.out
  have hz0 := blk_lt HXn1c2a3c4.out
  obtain ⟨x1a, x1b, x1f⟩ := box2 HXn3c4.out
  have hz1 := blk_lt HXn3c4.out
  have HR1 := hid (show Hp.rep (fun _ => True) _ hu _ from Hp.rep.mono hr (fun _ _ _ => trivial))
  clear hr
  go_wp2_with fail
  have HXn1c2a3c4a5 := hid (blk_alloc HXn1c2a3c4.out (.cells #[.slice a1 hu.cells.length c1, .slice b1 hu.trail.length d1] 38))
  have HXn3c4a5 := hid (blk_alloc HXn3c4.out (.cells #[.slice a1 hu.cells.length c1, .slice b1 hu.trail.length d1] 38))
  have HHa1c2a3c4a5 := hid (Hp.rep.keeps HHa1c2a3c4.out (Keeps.alloc _ _ (.cells #[.slice a1 hu.cells.length c1, .slice b1 hu.trail.length d1] 38)))
  have HRCa3c4a5 := hid (Hp.rep.keeps HRCa3c4.out (Keeps.alloc _ _ (.cells #[.slice a1 hu.cells.length c1, .slice b1 hu.trail.length d1] 38)))
  have HR1a5 := hid (Hp.rep.keeps HR1.out (Keeps.alloc _ _ (.cells #[.slice a1 hu.cells.length c1, .slice b1 hu.trail.length d1] 38)))
  have HXn5 := hid (blk_new w4 (.cells #[.slice a1 hu.cells.length c1, .slice b1 hu.trail.length d1] 38))
  have HBa5 := hid (HBc4.out.alloc HBc4.out.size (.cells #[.slice a1 hu.cells.length c1, .slice b1 hu.trail.length d1] 38))
  clear x0a x0b x0f hz0 x1a x1b x1f hz1
  have hsz5 : w4.heap.size < (w4.alloc (.cells #[.slice a1 hu.cells.length c1, .slice b1 hu.trail.length d1] 38)).heap.size := by simp
  generalize w4.alloc (.cells #[.slice a1 hu.cells.length c1, .slice b1 hu.trail.length d1] 38) = w5 at HXn1c2a3c4a5 HXn3c4a5 HXn5 HHa1c2a3c4a5 HRCa3c4a5 HR1a5 HBa5 hsz5 ⊢
  obtain ⟨x0a, x0b, x0f⟩ := box2 HXn1c2a3c4a5.out
  have hz0 := blk_lt HXn1c2a3c4a5.out
  obtain ⟨x1a, x1b, x1f⟩ := box2 HXn3c4a5.out
  have hz1 := blk_lt HXn3c4a5.out
  obtain ⟨x2a, x2b, x2f⟩ := box2 HXn5.out
  have hz2 := blk_lt HXn5.out
  refine (HU2.out _ [_, _] HHa1c2a3c4a5.out).mono ?_
  rintro e w6 ⟨v, rfl, hb6, us, rfl, hr⟩
  obtain ⟨a2, c2, b2, d2, rfl, -⟩ := Hp.rep2 hr
  have HXn1c2a3c4a5c6 := hid (blk_below HXn1c2a3c4a5.out hb6)
  have HXn3c4a5c6 := hid (blk_below HXn3c4a5.out hb6)
  have HXn5c6 := hid (blk_below HXn5.out hb6)
  have HHa1c2a3c4a5c6 := hid (Hp.rep.below HHa1c2a3c4a5.out hb6)
  have HRCa3c4a5c6 := hid (Hp.rep.below HRCa3c4a5.out hb6)
  have HR1a5c6 := hid (Hp.rep.below HR1a5.out hb6)
  have HBc6 := hid (HBa5.out.trans (hb6.mono HBa5.out.size))
  have hzz6 := hb6.size
  clear hb6 x0a x0b x0f x1a x1b x1f x2a x2b x2f
  obtain ⟨x0a, x0b, x0f⟩ := box2 HXn1c2a3c4a5c6.out
  have hz0 := blk_lt HXn1c2a3c4a5c6.out
  obtain ⟨x1a, x1b, x1f⟩ := box2 HXn3c4a5c6.out
  have hz1 := blk_lt HXn3c4a5c6.out
  obtain ⟨x2a, x2b, x2f⟩ := box2 HXn5c6.out
  have hz2 := blk_lt HXn5c6.out
  have HR2 := hid (show Hp.rep (fun _ => True) _ hu _ from Hp.rep.mono hr (fun _ _ _ => trivial))
  clear hr
  go_wp2_with fail
  have HXn1c2a3c4a5c6a7 := hid (blk_alloc HXn1c2a3c4a5c6.out (.cells #[.slice a2 hu.cells.length c2, .slice b2 hu.trail.length d2] 38))
  have HXn3c4a5c6a7 := hid (blk_alloc HXn3c4a5c6.out (.cells #[.slice a2 hu.cells.length c2, .slice b2 hu.trail.length d2] 38))
  have HXn5c6a7 := hid (blk_alloc HXn5c6.out (.cells #[.slice a2 hu.cells.length c2, .slice b2 hu.trail.length d2] 38))
  have HHa1c2a3c4a5c6a7 := hid (Hp.rep.keeps HHa1c2a3c4a5c6.out (Keeps.alloc _ _ (.cells #[.slice a2 hu.cells.length c2, .slice b2 hu.trail.length d2] 38)))
  have HRCa3c4a5c6a7 := hid (Hp.rep.keeps HRCa3c4a5c6.out (Keeps.alloc _ _ (.cells #[.slice a2 hu.cells.length c2, .slice b2 hu.trail.length d2] 38)))
  have HR1a5c6a7 := hid (Hp.rep.keeps HR1a5c6.out (Keeps.alloc _ _ (.cells #[.slice a2 hu.cells.length c2, .slice b2 hu.trail.length d2] 38)))
  have HR2a7 := hid (Hp.rep.keeps HR2.out (Keeps.alloc _ _ (.cells #[.slice a2 hu.cells.length c2, .slice b2 hu.trail.length d2] 38)))
  have HXn7 := hid (blk_new w6 (.cells #[.slice a2 hu.cells.length c2, .slice b2 hu.trail.length d2] 38))
  have HBa7 := hid (HBc6.out.alloc HBc6.out.size (.cells #[.slice a2 hu.cells.length c2, .slice b2 hu.trail.length d2] 38))
  clear x0a x0b x0f hz0 x1a x1b x1f hz1 x2a x2b x2f hz2
  have hsz7 : w6.heap.size < (w6.alloc (.cells #[.slice a2 hu.cells.length c2, .slice b2 hu.trail.length d2] 38)).heap.size := by simp
  generalize w6.alloc (.cells #[.slice a2 hu.cells.length c2, .slice b2 hu.trail.length d2] 38) = w7 at HXn1c2a3c4a5c6a7 HXn3c4a5c6a7 HXn5c6a7 HXn7 HHa1c2a3c4a5c6a7 HRCa3c4a5c6a7 HR1a5c6a7 HR2a7 HBa7 hsz7 ⊢
  obtain ⟨x0a, x0b, x0f⟩ := box2 HXn1c2a3c4a5c6a7.out
  have hz0 := blk_lt HXn1c2a3c4a5c6a7.out
  obtain ⟨x1a, x1b, x1f⟩ := box2 HXn3c4a5c6a7.out
  have hz1 := blk_lt HXn3c4a5c6a7.out
  obtain ⟨x2a, x2b, x2f⟩ := box2 HXn5c6a7.out
  have hz2 := blk_lt HXn5c6a7.out
  obtain ⟨x3a, x3b, x3f⟩ := box2 HXn7.out
  have hz3 := blk_lt HXn7.out
  refine (HQ1.out _ [_, _] HRCa3c4a5c6a7.out).mono ?_
  rintro e w8 ⟨v, rfl, hb8, us, rfl, hr⟩
  obtain ⟨a3, c3, b3, d3, rfl, -⟩ := Hp.rep2 hr
  have HXn1c2a3c4a5c6a7c8 := hid (blk_below HXn1c2a3c4a5c6a7.out hb8)
  have HXn3c4a5c6a7c8 := hid (blk_below HXn3c4a5c6a7.out hb8)
  have HXn5c6a7c8 := hid (blk_below HXn5c6a7.out hb8)
  have HXn7c8 := hid (blk_below HXn7.out hb8)
  have HHa1c2a3c4a5c6a7c8 := hid (Hp.rep.below HHa1c2a3c4a5c6a7.out hb8)
  have HRCa3c4a5c6a7c8 := hid (Hp.rep.below HRCa3c4a5c6a7.out hb8)
  have HR1a5c6a7c8 := hid (Hp.rep.below HR1a5c6a7.out hb8)
  have HR2a7c8 := hid (Hp.rep.below HR2a7.out hb8)
  have HBc8 := hid (HBa7.out.trans (hb8.mono HBa7.out.size))
  have hzz8 := hb8.size
  clear hb8 x0a x0b x0f x1a x1b x1f x2a x2b x2f x3a x3b x3f
  obtain ⟨x0a, x0b, x0f⟩ := box2 HXn1c2a3c4a5c6a7c8.out
  have hz0 := blk_lt HXn1c2a3c4a5c6a7c8.out
  obtain ⟨x1a, x1b, x1f⟩ := box2 HXn3c4a5c6a7c8.out
  have hz1 := blk_lt HXn3c4a5c6a7c8.out
  obtain ⟨x2a, x2b, x2f⟩ := box2 HXn5c6a7c8.out
  have hz2 := blk_lt HXn5c6a7c8.out
  obtain ⟨x3a, x3b, x3f⟩ := box2 HXn7c8.out
  have hz3 := blk_lt HXn7c8.out
  have HR3 := hid (show Hp.rep (fun _ => True) _ hq _ from Hp.rep.mono hr (fun _ _ _ => trivial))
  clear hr
  go_wp2_with fail
  have HXn1c2a3c4a5c6a7c8a9 := hid (blk_alloc HXn1c2a3c4a5c6a7c8.out (.cells #[.slice a3 hq.cells.length c3, .slice b3 hq.trail.length d3] 38))
  have HXn3c4a5c6a7c8a9 := hid (blk_alloc HXn3c4a5c6a7c8.out (.cells #[.slice a3 hq.cells.length c3, .slice b3 hq.trail.length d3] 38))
  have HXn5c6a7c8a9 := hid (blk_alloc HXn5c6a7c8.out (.cells #[.slice a3 hq.cells.length c3, .slice b3 hq.trail.length d3] 38))
  have HXn7c8a9 := hid (blk_alloc HXn7c8.out (.cells #[.slice a3 hq.cells.length c3, .slice b3 hq.trail.length d3] 38))
  have HHa1c2a3c4a5c6a7c8a9 := hid (Hp.rep.keeps HHa1c2a3c4a5c6a7c8.out (Keeps.alloc _ _ (.cells #[.slice a3 hq.cells.length c3, .slice b3 hq.trail.length d3] 38)))
  have HRCa3c4a5c6a7c8a9 := hid (Hp.rep.keeps HRCa3c4a5c6a7c8.out (Keeps.alloc _ _ (.cells #[.slice a3 hq.cells.length c3, .slice b3 hq.trail.length d3] 38)))
  have HR1a5c6a7c8a9 := hid (Hp.rep.keeps HR1a5c6a7c8.out (Keeps.alloc _ _ (.cells #[.slice a3 hq.cells.length c3, .slice b3 hq.trail.length d3] 38)))
  have HR2a7c8a9 := hid (Hp.rep.keeps HR2a7c8.out (Keeps.alloc _ _ (.cells #[.slice a3 hq.cells.length c3, .slice b3 hq.trail.length d3] 38)))
  have HR3a9 := hid (Hp.rep.keeps HR3.out (Keeps.alloc _ _ (.cells #[.slice a3 hq.cells.length c3, .slice b3 hq.trail.length d3] 38)))
  have HXn9 := hid (blk_new w8 (.cells #[.slice a3 hq.cells.length c3, .slice b3 hq.trail.length d3] 38))
  have HBa9 := hid (HBc8.out.alloc HBc8.out.size (.cells #[.slice a3 hq.cells.length c3, .slice b3 hq.trail.length d3] 38))
  clear x0a x0b x0f hz0 x1a x1b x1f hz1 x2a x2b x2f hz2 x3a x3b x3f hz3
  have hsz9 : w8.heap.size < (w8.alloc (.cells #[.slice a3 hq.cells.length c3, .slice b3 hq.trail.length d3] 38)).heap.size := by simp
  generalize w8.alloc (.cells #[.slice a3 hq.cells.length c3, .slice b3 hq.trail.length d3] 38) = w9 at HXn1c2a3c4a5c6a7c8a9 HXn3c4a5c6a7c8a9 HXn5c6a7c8a9 HXn7c8a9 HXn9 HHa1c2a3c4a5c6a7c8a9 HRCa3c4a5c6a7c8a9 HR1a5c6a7c8a9 HR2a7c8a9 HR3a9 HBa9 hsz9 ⊢
  obtain ⟨x0a, x0b, x0f⟩ := box2 HXn1c2a3c4a5c6a7c8a9.out
  have hz0 := blk_lt HXn1c2a3c4a5c6a7c8a9.out
  obtain ⟨x1a, x1b, x1f⟩ := box2 HXn3c4a5c6a7c8a9.out
  have hz1 := blk_lt HXn3c4a5c6a7c8a9.out
  obtain ⟨x2a, x2b, x2f⟩ := box2 HXn5c6a7c8a9.out
  have hz2 := blk_lt HXn5c6a7c8a9.out
  obtain ⟨x3a, x3b, x3f⟩ := box2 HXn7c8a9.out
  have hz3 := blk_lt HXn7c8a9.out
  obtain ⟨x4a, x4b, x4f⟩ := box2 HXn9.out
  have hz4 := blk_lt HXn9.out
  refine (HQ2.out _ [_, _] HHa1c2a3c4a5c6a7c8a9.out).mono ?_
  rintro e w10 ⟨v, rfl, hb10, us, rfl, hr⟩
  obtain ⟨a4, c4, b4, d4, rfl, -⟩ := Hp.rep2 hr
  have HXn1c2a3c4a5c6a7c8a9c10 := hid (blk_below HXn1c2a3c4a5c6a7c8a9.out hb10)
  have HXn3c4a5c6a7c8a9c10 := hid (blk_below HXn3c4a5c6a7c8a9.out hb10)
  have HXn5c6a7c8a9c10 := hid (blk_below HXn5c6a7c8a9.out hb10)
  have HXn7c8a9c10 := hid (blk_below HXn7c8a9.out hb10)
  have HXn9c10 := hid (blk_below HXn9.out hb10)
  have HHa1c2a3c4a5c6a7c8a9c10 := hid (Hp.rep.below HHa1c2a3c4a5c6a7c8a9.out hb10)
  have HRCa3c4a5c6a7c8a9c10 := hid (Hp.rep.below HRCa3c4a5c6a7c8a9.out hb10)
  have HR1a5c6a7c8a9c10 := hid (Hp.rep.below HR1a5c6a7c8a9.out hb10)
  have HR2a7c8a9c10 := hid (Hp.rep.below HR2a7c8a9.out hb10)
  have HR3a9c10 := hid (Hp.rep.below HR3a9.out hb10)
  have HBc10 := hid (HBa9.out.trans (hb10.mono HBa9.out.size))
  have hzz10 := hb10.size
  clear hb10 x0a x0b x0f x1a x1b x1f x2a x2b x2f x3a x3b x3f x4a x4b x4f
  obtain ⟨x0a, x0b, x0f⟩ := box2 HXn1c2a3c4a5c6a7c8a9c10.out
  have hz0 := blk_lt HXn1c2a3c4a5c6a7c8a9c10.out
  obtain ⟨x1a, x1b, x1f⟩ := box2 HXn3c4a5c6a7c8a9c10.out
  have hz1 := blk_lt HXn3c4a5c6a7c8a9c10.out
  obtain ⟨x2a, x2b, x2f⟩ := box2 HXn5c6a7c8a9c10.out
  have hz2 := blk_lt HXn5c6a7c8a9c10.out
  obtain ⟨x3a, x3b, x3f⟩ := box2 HXn7c8a9c10.out
  have hz3 := blk_lt HXn7c8a9c10.out
  obtain ⟨x4a, x4b, x4f⟩ := box2 HXn9c10.out
  have hz4 := blk_lt HXn9c10.out
  have HR4 := hid (show Hp.rep (fun _ => True) _ hq _ from Hp.rep.mono hr (fun _ _ _ => trivial))
  clear hr
  go_wp2_with fail
  have HXn1c2a3c4a5c6a7c8a9c10a11 := hid (blk_alloc HXn1c2a3c4a5c6a7c8a9c10.out (.cells #[.slice a4 hq.cells.length c4, .slice b4 hq.trail.length d4] 38))
  have HXn3c4a5c6a7c8a9c10a11 := hid (blk_alloc HXn3c4a5c6a7c8a9c10.out (.cells #[.slice a4 hq.cells.length c4, .slice b4 hq.trail.length d4] 38))
  have HXn5c6a7c8a9c10a11 := hid (blk_alloc HXn5c6a7c8a9c10.out (.cells #[.slice a4 hq.cells.length c4, .slice b4 hq.trail.length d4] 38))
  have HXn7c8a9c10a11 := hid (blk_alloc HXn7c8a9c10.out (.cells #[.slice a4 hq.cells.length c4, .slice b4 hq.trail.length d4] 38))
  have HXn9c10a11 := hid (blk_alloc HXn9c10.out (.cells #[.slice a4 hq.cells.length c4, .slice b4 hq.trail.length d4] 38))
  have HHa1c2a3c4a5c6a7c8a9c10a11 := hid (Hp.rep.keeps HHa1c2a3c4a5c6a7c8a9c10.out (Keeps.alloc _ _ (.cells #[.slice a4 hq.cells.length c4, .slice b4 hq.trail.length d4] 38)))
  have HRCa3c4a5c6a7c8a9c10a11 := hid (Hp.rep.keeps HRCa3c4a5c6a7c8a9c10.out (Keeps.alloc _ _ (.cells #[.slice a4 hq.cells.length c4, .slice b4 hq.trail.length d4] 38)))
  have HR1a5c6a7c8a9c10a11 := hid (Hp.rep.keeps HR1a5c6a7c8a9c10.out (Keeps.alloc _ _ (.cells #[.slice a4 hq.cells.length c4, .slice b4 hq.trail.length d4] 38)))
  have HR2a7c8a9c10a11 := hid (Hp.rep.keeps HR2a7c8a9c10.out (Keeps.alloc _ _ (.cells #[.slice a4 hq.cells.length c4, .slice b4 hq.trail.length d4] 38)))
  have HR3a9c10a11 := hid (Hp.rep.keeps HR3a9c10.out (Keeps.alloc _ _ (.cells #[.slice a4 hq.cells.length c4, .slice b4 hq.trail.length d4] 38)))
  have HR4a11 := hid (Hp.rep.keeps HR4.out (Keeps.alloc _ _ (.cells #[.slice a4 hq.cells.length c4, .slice b4 hq.trail.length d4] 38)))
  have HXn11 := hid (blk_new w10 (.cells #[.slice a4 hq.cells.length c4, .slice b4 hq.trail.length d4] 38))
  have HBa11 := hid (HBc10.out.alloc HBc10.out.size (.cells #[.slice a4 hq.cells.length c4, .slice b4 hq.trail.length d4] 38))
  clear x0a x0b x0f hz0 x1a x1b x1f hz1 x2a x2b x2f hz2 x3a x3b x3f hz3 x4a x4b x4f hz4
  have hsz11 : w10.heap.size < (w10.alloc (.cells #[.slice a4 hq.cells.length c4, .slice b4 hq.trail.length d4] 38)).heap.size := by simp
  generalize w10.alloc (.cells #[.slice a4 hq.cells.length c4, .slice b4 hq.trail.length d4] 38) = w11 at HXn1c2a3c4a5c6a7c8a9c10a11 HXn3c4a5c6a7c8a9c10a11 HXn5c6a7c8a9c10a11 HXn7c8a9c10a11 HXn9c10a11 HXn11 HHa1c2a3c4a5c6a7c8a9c10a11 HRCa3c4a5c6a7c8a9c10a11 HR1a5c6a7c8a9c10a11 HR2a7c8a9c10a11 HR3a9c10a11 HR4a11 HBa11 hsz11 ⊢
  obtain ⟨x0a, x0b, x0f⟩ := box2 HXn1c2a3c4a5c6a7c8a9c10a11.out
  have hz0 := blk_lt HXn1c2a3c4a5c6a7c8a9c10a11.out
  obtain ⟨x1a, x1b, x1f⟩ := box2 HXn3c4a5c6a7c8a9c10a11.out
  have hz1 := blk_lt HXn3c4a5c6a7c8a9c10a11.out
  obtain ⟨x2a, x2b, x2f⟩ := box2 HXn5c6a7c8a9c10a11.out
  have hz2 := blk_lt HXn5c6a7c8a9c10a11.out
  obtain ⟨x3a, x3b, x3f⟩ := box2 HXn7c8a9c10a11.out
  have hz3 := blk_lt HXn7c8a9c10a11.out
  obtain ⟨x4a, x4b, x4f⟩ := box2 HXn9c10a11.out
  have hz4 := blk_lt HXn9c10a11.out
  obtain ⟨x5a, x5b, x5f⟩ := box2 HXn11.out
  have hz5 := blk_lt HXn11.out
  have HA : Hid (∀ w', Below w11.heap.size w11 w' → Below w.heap.size w w' ∧ w'.cell? ⟨w.heap.size, 0, none⟩ = some (.slice va h.cells.length cap) ∧ w'.cell? ⟨w.heap.size, 1, none⟩ = some (.slice vb h.trail.length tap) ∧ w'.cell? ⟨w2.heap.size, 0, none⟩ = some (.slice ca h.cells.length cc) ∧ w'.cell? ⟨w2.heap.size, 1, none⟩ = some (.slice ta h.trail.length tc) ∧ w'.cell? ⟨w4.heap.size, 0, none⟩ = some (.slice a1 hu.cells.length c1) ∧ w'.cell? ⟨w4.heap.size, 1, none⟩ = some (.slice b1 hu.trail.length d1) ∧ w'.cell? ⟨w6.heap.size, 0, none⟩ = some (.slice a2 hu.cells.length c2) ∧ w'.cell? ⟨w6.heap.size, 1, none⟩ = some (.slice b2 hu.trail.length d2) ∧ w'.cell? ⟨w8.heap.size, 0, none⟩ = some (.slice a3 hq.cells.length c3) ∧ w'.cell? ⟨w8.heap.size, 1, none⟩ = some (.slice b3 hq.trail.length d3) ∧ w'.cell? ⟨w10.heap.size, 0, none⟩ = some (.slice a4 hq.cells.length c4) ∧ w'.cell? ⟨w10.heap.size, 1, none⟩ = some (.slice b4 hq.trail.length d4)) := hid fun w' hb => by
    obtain ⟨z0a, z0b, -⟩ := box2 (blk_below HXn1c2a3c4a5c6a7c8a9c10a11.out hb)
    obtain ⟨z1a, z1b, -⟩ := box2 (blk_below HXn3c4a5c6a7c8a9c10a11.out hb)
    obtain ⟨z2a, z2b, -⟩ := box2 (blk_below HXn5c6a7c8a9c10a11.out hb)
    obtain ⟨z3a, z3b, -⟩ := box2 (blk_below HXn7c8a9c10a11.out hb)
    obtain ⟨z4a, z4b, -⟩ := box2 (blk_below HXn9c10a11.out hb)
    obtain ⟨z5a, z5b, -⟩ := box2 (blk_below HXn11.out hb)
    exact ⟨HBa11.out.trans (hb.mono HBa11.out.size), z0a, z0b, z1a, z1b, z2a, z2b, z3a, z3b, z4a, z4b, z5a, z5b⟩
  clear x0a x0b x0f hz0 x1a x1b x1f hz1 x2a x2b x2f hz2 x3a x3b x3f hz3 x4a x4b x4f hz4 x5a x5b x5f hz5
  refine wp_region_each (Inv := fun w' => Below w11.heap.size w11 w') (Po := posts [IsV (.agg #[.slice a1 hu.cells.length c1, .slice b1 hu.trail.length d1]), IsV (.agg #[.slice a2 hu.cells.length c2, .slice b2 hu.trail.length d2]), IsV (.bool true), IsV (.bool true), IsV (.int .i64 eu), IsV (.int .i64 eu), IsV (.bool true), IsV (.bool true), IsV (.bool true), IsV (.agg #[.slice a3 hq.cells.length c3, .slice b3 hq.trail.length d3]), IsV (.agg #[.slice a4 hq.cells.length c4, .slice b4 hq.trail.length d4]), IsV (.bool true), IsV (.bool true), IsV (.bool true), IsV (.int .i64 eq), IsV (.int .i64 eq), IsV (.bool true), IsV (.bool true), IsV (.bool true), IsV (.agg #[.slice ca h.cells.length cc, .slice ta h.trail.length tc]), IsV (.int .i64 n), IsV (.int .i64 (look h.cells n)), IsV (.agg #[.slice va h.cells.length cap, .slice vb h.trail.length tap]), IsV (.int .i64 n), IsV (.int .i64 (look h.cells n)), IsV (.bool true), IsV (.bool true), IsV (.bool true), IsV (.agg #[.slice ca h.cells.length cc, .slice ta h.trail.length tc]), IsV (.agg #[.slice va h.cells.length cap, .slice vb h.trail.length tap]), IsV (.bool true), IsV (.bool true), IsV (.bool true), IsV (.bool true), IsV (.bool true), IsV (.bool true)]) (Rl := fun w w' => Below w.heap.size w w') (by kernel_rfl) (by kernel_rfl) (by kernel_rfl) ((Below.refl _ _).drew) ?_ ?_ ?_ ?_
  · refine posts_stay fun R hR => ?_
    simp only [List.mem_cons, List.not_mem_nil, or_false] at hR
    rcases hR with rfl | rfl | rfl | rfl | rfl | rfl | rfl | rfl | rfl | rfl | rfl | rfl | rfl | rfl | rfl | rfl | rfl | rfl | rfl | rfl | rfl | rfl | rfl | rfl | rfl | rfl | rfl | rfl | rfl | rfl | rfl | rfl | rfl | rfl | rfl | rfl <;> first | exact stays_V _ | exact stays_any | exact stays_B _ | exact stays_Tm _ | exact stays_Tms _ | exact stays_Cs _ | exact stays_Ns _ | exact stays_Bs _ | exact stays_Hp _ | exact stays_OC _ _ | exact stays_ON _ _ | exact stays_V _
  · exact fun w1 w2 h h' => h.trans (h'.mono h.size)
  · intro i o ho f ac ww hinv hpo hdst hold
    match i, ho with
      | 0, ho =>
        obtain rfl : _ = o := Option.some.inj ho
        have t6 := hold 6 (by kernel_rfl)
        refine Or.inl ⟨want0 rfl, ?_⟩
        clear hdst hpo hold ho
        obtain ⟨-, x0a, x0b, x1a, x1b, x2a, x2b, x3a, x3b, x4a, x4b, x5a, x5b⟩ := HA.out ww hinv
        unfold Ans
        go_simp
        exact ⟨rfl, Below.refl _ _⟩
      | 1, ho =>
        obtain rfl : _ = o := Option.some.inj ho
        have t8 := hold 8 (by kernel_rfl)
        refine Or.inl ⟨want0 rfl, ?_⟩
        clear hdst hpo hold ho
        obtain ⟨-, x0a, x0b, x1a, x1b, x2a, x2b, x3a, x3b, x4a, x4b, x5a, x5b⟩ := HA.out ww hinv
        unfold Ans
        go_simp
        exact ⟨rfl, Below.refl _ _⟩
      | 2, ho =>
        obtain rfl : _ = o := Option.some.inj ho
        have t40 : ac.tmps[40]? = some (f 0) := hdst 0 40 (by kernel_rfl) (by kernel_rfl)
        have p0 : (IsV (.agg #[.slice a1 hu.cells.length c1, .slice b1 hu.trail.length d1])) (f 0) ww := hpo 0 (by kernel_rfl)
        have t41 : ac.tmps[41]? = some (f 1) := hdst 1 41 (by kernel_rfl) (by kernel_rfl)
        have p1 : (IsV (.agg #[.slice a2 hu.cells.length c2, .slice b2 hu.trail.length d2])) (f 1) ww := hpo 1 (by kernel_rfl)
        refine Or.inl ⟨want0 rfl, ?_⟩
        clear hdst hpo hold ho
        rw [show f 0 = _ from p0] at t40
        rw [show f 1 = _ from p1] at t41
        unfold Ans
        go_simp
        refine (sameHeap_ok hu hu (fun _ => True) ww [_, _] [_, _] (Hp.rep.below HR1a5c6a7c8a9c10a11.out hinv) (Hp.rep.below HR2a7c8a9c10a11.out hinv)).mono ?_
        rintro e w1 ⟨r, rfl, hb, t, rfl, ht⟩
        obtain rfl : t = true := ht.2 rfl
        exact ⟨_, rfl, rfl, hb⟩
      | 3, ho =>
        obtain rfl : _ = o := Option.some.inj ho
        have t42 : ac.tmps[42]? = some (f 2) := hdst 2 42 (by kernel_rfl) (by kernel_rfl)
        have p2 : (IsV (.bool true)) (f 2) ww := hpo 2 (by kernel_rfl)
        refine Or.inl ⟨want0 rfl, ?_⟩
        clear hdst hpo hold ho
        rw [show f 2 = _ from p2] at t42
        clear hinv
        unfold Ans
        go_simp
        exact ⟨rfl, Below.refl _ _⟩
      | 4, ho =>
        obtain rfl : _ = o := Option.some.inj ho
        have t43 : ac.tmps[43]? = some (f 3) := hdst 3 43 (by kernel_rfl) (by kernel_rfl)
        have p3 : (IsV (.bool true)) (f 3) ww := hpo 3 (by kernel_rfl)
        have t7 := hold 7 (by kernel_rfl)
        have g3 := t43
        rw [show f 3 = _ from p3] at g3
        refine Or.inl ⟨want1 (g := 3) (s := 43) (b := true) (c := true) rfl (by kernel_rfl) g3, ?_⟩
        clear t43 p3 g3
        clear hdst hpo hold ho
        clear hinv
        unfold Ans
        go_simp
        exact ⟨rfl, Below.refl _ _⟩
      | 5, ho =>
        obtain rfl : _ = o := Option.some.inj ho
        have t43 : ac.tmps[43]? = some (f 3) := hdst 3 43 (by kernel_rfl) (by kernel_rfl)
        have p3 : (IsV (.bool true)) (f 3) ww := hpo 3 (by kernel_rfl)
        have t9 := hold 9 (by kernel_rfl)
        have g3 := t43
        rw [show f 3 = _ from p3] at g3
        refine Or.inl ⟨want1 (g := 3) (s := 43) (b := true) (c := true) rfl (by kernel_rfl) g3, ?_⟩
        clear t43 p3 g3
        clear hdst hpo hold ho
        clear hinv
        unfold Ans
        go_simp
        exact ⟨rfl, Below.refl _ _⟩
      | 6, ho =>
        obtain rfl : _ = o := Option.some.inj ho
        have t44 : ac.tmps[44]? = some (f 4) := hdst 4 44 (by kernel_rfl) (by kernel_rfl)
        have p4 : (IsV (.int .i64 eu)) (f 4) ww := hpo 4 (by kernel_rfl)
        have t45 : ac.tmps[45]? = some (f 5) := hdst 5 45 (by kernel_rfl) (by kernel_rfl)
        have p5 : (IsV (.int .i64 eu)) (f 5) ww := hpo 5 (by kernel_rfl)
        have t43 : ac.tmps[43]? = some (f 3) := hdst 3 43 (by kernel_rfl) (by kernel_rfl)
        have p3 : (IsV (.bool true)) (f 3) ww := hpo 3 (by kernel_rfl)
        have g3 := t43
        rw [show f 3 = _ from p3] at g3
        refine Or.inl ⟨want1 (g := 3) (s := 43) (b := true) (c := true) rfl (by kernel_rfl) g3, ?_⟩
        clear t43 p3 g3
        clear hdst hpo hold ho
        rw [show f 4 = _ from p4] at t44
        rw [show f 5 = _ from p5] at t45
        clear hinv
        unfold Ans
        go_simp
        exact ⟨rfl, Below.refl _ _⟩
      | 7, ho =>
        obtain rfl : _ = o := Option.some.inj ho
        have t43 : ac.tmps[43]? = some (f 3) := hdst 3 43 (by kernel_rfl) (by kernel_rfl)
        have p3 : (IsV (.bool true)) (f 3) ww := hpo 3 (by kernel_rfl)
        have t46 : ac.tmps[46]? = some (f 6) := hdst 6 46 (by kernel_rfl) (by kernel_rfl)
        have p6 : (IsV (.bool true)) (f 6) ww := hpo 6 (by kernel_rfl)
        refine Or.inl ⟨want0 rfl, ?_⟩
        clear hdst hpo hold ho
        rw [show f 3 = _ from p3] at t43
        rw [show f 6 = _ from p6] at t46
        clear hinv
        unfold Ans
        go_simp
        exact ⟨rfl, Below.refl _ _⟩
      | 8, ho =>
        obtain rfl : _ = o := Option.some.inj ho
        have t47 : ac.tmps[47]? = some (f 7) := hdst 7 47 (by kernel_rfl) (by kernel_rfl)
        have p7 : (IsV (.bool true)) (f 7) ww := hpo 7 (by kernel_rfl)
        refine Or.inl ⟨want0 rfl, ?_⟩
        clear hdst hpo hold ho
        rw [show f 7 = _ from p7] at t47
        clear hinv
        unfold Ans
        go_simp
        exact ⟨rfl, Below.refl _ _⟩
      | 9, ho =>
        obtain rfl : _ = o := Option.some.inj ho
        have t48 : ac.tmps[48]? = some (f 8) := hdst 8 48 (by kernel_rfl) (by kernel_rfl)
        have p8 : (IsV (.bool true)) (f 8) ww := hpo 8 (by kernel_rfl)
        have t10 := hold 10 (by kernel_rfl)
        have g8 := t48
        rw [show f 8 = _ from p8] at g8
        refine Or.inl ⟨want1 (g := 8) (s := 48) (b := true) (c := true) rfl (by kernel_rfl) g8, ?_⟩
        clear t48 p8 g8
        clear hdst hpo hold ho
        obtain ⟨-, x0a, x0b, x1a, x1b, x2a, x2b, x3a, x3b, x4a, x4b, x5a, x5b⟩ := HA.out ww hinv
        unfold Ans
        go_simp
        exact ⟨rfl, Below.refl _ _⟩
      | 10, ho =>
        obtain rfl : _ = o := Option.some.inj ho
        have t48 : ac.tmps[48]? = some (f 8) := hdst 8 48 (by kernel_rfl) (by kernel_rfl)
        have p8 : (IsV (.bool true)) (f 8) ww := hpo 8 (by kernel_rfl)
        have t12 := hold 12 (by kernel_rfl)
        have g8 := t48
        rw [show f 8 = _ from p8] at g8
        refine Or.inl ⟨want1 (g := 8) (s := 48) (b := true) (c := true) rfl (by kernel_rfl) g8, ?_⟩
        clear t48 p8 g8
        clear hdst hpo hold ho
        obtain ⟨-, x0a, x0b, x1a, x1b, x2a, x2b, x3a, x3b, x4a, x4b, x5a, x5b⟩ := HA.out ww hinv
        unfold Ans
        go_simp
        exact ⟨rfl, Below.refl _ _⟩
      | 11, ho =>
        obtain rfl : _ = o := Option.some.inj ho
        have t49 : ac.tmps[49]? = some (f 9) := hdst 9 49 (by kernel_rfl) (by kernel_rfl)
        have p9 : (IsV (.agg #[.slice a3 hq.cells.length c3, .slice b3 hq.trail.length d3])) (f 9) ww := hpo 9 (by kernel_rfl)
        have t50 : ac.tmps[50]? = some (f 10) := hdst 10 50 (by kernel_rfl) (by kernel_rfl)
        have p10 : (IsV (.agg #[.slice a4 hq.cells.length c4, .slice b4 hq.trail.length d4])) (f 10) ww := hpo 10 (by kernel_rfl)
        have t48 : ac.tmps[48]? = some (f 8) := hdst 8 48 (by kernel_rfl) (by kernel_rfl)
        have p8 : (IsV (.bool true)) (f 8) ww := hpo 8 (by kernel_rfl)
        have g8 := t48
        rw [show f 8 = _ from p8] at g8
        refine Or.inl ⟨want1 (g := 8) (s := 48) (b := true) (c := true) rfl (by kernel_rfl) g8, ?_⟩
        clear t48 p8 g8
        clear hdst hpo hold ho
        rw [show f 9 = _ from p9] at t49
        rw [show f 10 = _ from p10] at t50
        unfold Ans
        go_simp
        refine (sameHeap_ok hq hq (fun _ => True) ww [_, _] [_, _] (Hp.rep.below HR3a9c10a11.out hinv) (Hp.rep.below HR4a11.out hinv)).mono ?_
        rintro e w1 ⟨r, rfl, hb, t, rfl, ht⟩
        obtain rfl : t = true := ht.2 rfl
        exact ⟨_, rfl, rfl, hb⟩
      | 12, ho =>
        obtain rfl : _ = o := Option.some.inj ho
        have t48 : ac.tmps[48]? = some (f 8) := hdst 8 48 (by kernel_rfl) (by kernel_rfl)
        have p8 : (IsV (.bool true)) (f 8) ww := hpo 8 (by kernel_rfl)
        have t51 : ac.tmps[51]? = some (f 11) := hdst 11 51 (by kernel_rfl) (by kernel_rfl)
        have p11 : (IsV (.bool true)) (f 11) ww := hpo 11 (by kernel_rfl)
        refine Or.inl ⟨want0 rfl, ?_⟩
        clear hdst hpo hold ho
        rw [show f 8 = _ from p8] at t48
        rw [show f 11 = _ from p11] at t51
        clear hinv
        unfold Ans
        go_simp
        exact ⟨rfl, Below.refl _ _⟩
      | 13, ho =>
        obtain rfl : _ = o := Option.some.inj ho
        have t52 : ac.tmps[52]? = some (f 12) := hdst 12 52 (by kernel_rfl) (by kernel_rfl)
        have p12 : (IsV (.bool true)) (f 12) ww := hpo 12 (by kernel_rfl)
        refine Or.inl ⟨want0 rfl, ?_⟩
        clear hdst hpo hold ho
        rw [show f 12 = _ from p12] at t52
        clear hinv
        unfold Ans
        go_simp
        exact ⟨rfl, Below.refl _ _⟩
      | 14, ho =>
        obtain rfl : _ = o := Option.some.inj ho
        have t53 : ac.tmps[53]? = some (f 13) := hdst 13 53 (by kernel_rfl) (by kernel_rfl)
        have p13 : (IsV (.bool true)) (f 13) ww := hpo 13 (by kernel_rfl)
        have t11 := hold 11 (by kernel_rfl)
        have g13 := t53
        rw [show f 13 = _ from p13] at g13
        refine Or.inl ⟨want1 (g := 13) (s := 53) (b := true) (c := true) rfl (by kernel_rfl) g13, ?_⟩
        clear t53 p13 g13
        clear hdst hpo hold ho
        clear hinv
        unfold Ans
        go_simp
        exact ⟨rfl, Below.refl _ _⟩
      | 15, ho =>
        obtain rfl : _ = o := Option.some.inj ho
        have t53 : ac.tmps[53]? = some (f 13) := hdst 13 53 (by kernel_rfl) (by kernel_rfl)
        have p13 : (IsV (.bool true)) (f 13) ww := hpo 13 (by kernel_rfl)
        have t13 := hold 13 (by kernel_rfl)
        have g13 := t53
        rw [show f 13 = _ from p13] at g13
        refine Or.inl ⟨want1 (g := 13) (s := 53) (b := true) (c := true) rfl (by kernel_rfl) g13, ?_⟩
        clear t53 p13 g13
        clear hdst hpo hold ho
        clear hinv
        unfold Ans
        go_simp
        exact ⟨rfl, Below.refl _ _⟩
      | 16, ho =>
        obtain rfl : _ = o := Option.some.inj ho
        have t54 : ac.tmps[54]? = some (f 14) := hdst 14 54 (by kernel_rfl) (by kernel_rfl)
        have p14 : (IsV (.int .i64 eq)) (f 14) ww := hpo 14 (by kernel_rfl)
        have t55 : ac.tmps[55]? = some (f 15) := hdst 15 55 (by kernel_rfl) (by kernel_rfl)
        have p15 : (IsV (.int .i64 eq)) (f 15) ww := hpo 15 (by kernel_rfl)
        have t53 : ac.tmps[53]? = some (f 13) := hdst 13 53 (by kernel_rfl) (by kernel_rfl)
        have p13 : (IsV (.bool true)) (f 13) ww := hpo 13 (by kernel_rfl)
        have g13 := t53
        rw [show f 13 = _ from p13] at g13
        refine Or.inl ⟨want1 (g := 13) (s := 53) (b := true) (c := true) rfl (by kernel_rfl) g13, ?_⟩
        clear t53 p13 g13
        clear hdst hpo hold ho
        rw [show f 14 = _ from p14] at t54
        rw [show f 15 = _ from p15] at t55
        clear hinv
        unfold Ans
        go_simp
        exact ⟨rfl, Below.refl _ _⟩
      | 17, ho =>
        obtain rfl : _ = o := Option.some.inj ho
        have t53 : ac.tmps[53]? = some (f 13) := hdst 13 53 (by kernel_rfl) (by kernel_rfl)
        have p13 : (IsV (.bool true)) (f 13) ww := hpo 13 (by kernel_rfl)
        have t56 : ac.tmps[56]? = some (f 16) := hdst 16 56 (by kernel_rfl) (by kernel_rfl)
        have p16 : (IsV (.bool true)) (f 16) ww := hpo 16 (by kernel_rfl)
        refine Or.inl ⟨want0 rfl, ?_⟩
        clear hdst hpo hold ho
        rw [show f 13 = _ from p13] at t53
        rw [show f 16 = _ from p16] at t56
        clear hinv
        unfold Ans
        go_simp
        exact ⟨rfl, Below.refl _ _⟩
      | 18, ho =>
        obtain rfl : _ = o := Option.some.inj ho
        have t57 : ac.tmps[57]? = some (f 17) := hdst 17 57 (by kernel_rfl) (by kernel_rfl)
        have p17 : (IsV (.bool true)) (f 17) ww := hpo 17 (by kernel_rfl)
        refine Or.inl ⟨want0 rfl, ?_⟩
        clear hdst hpo hold ho
        rw [show f 17 = _ from p17] at t57
        clear hinv
        unfold Ans
        go_simp
        exact ⟨rfl, Below.refl _ _⟩
      | 19, ho =>
        obtain rfl : _ = o := Option.some.inj ho
        have t58 : ac.tmps[58]? = some (f 18) := hdst 18 58 (by kernel_rfl) (by kernel_rfl)
        have p18 : (IsV (.bool true)) (f 18) ww := hpo 18 (by kernel_rfl)
        have t5 := hold 5 (by kernel_rfl)
        have g18 := t58
        rw [show f 18 = _ from p18] at g18
        refine Or.inl ⟨want1 (g := 18) (s := 58) (b := true) (c := true) rfl (by kernel_rfl) g18, ?_⟩
        clear t58 p18 g18
        clear hdst hpo hold ho
        obtain ⟨-, x0a, x0b, x1a, x1b, x2a, x2b, x3a, x3b, x4a, x4b, x5a, x5b⟩ := HA.out ww hinv
        unfold Ans
        go_simp
        exact ⟨rfl, Below.refl _ _⟩
      | 20, ho =>
        obtain rfl : _ = o := Option.some.inj ho
        have t58 : ac.tmps[58]? = some (f 18) := hdst 18 58 (by kernel_rfl) (by kernel_rfl)
        have p18 : (IsV (.bool true)) (f 18) ww := hpo 18 (by kernel_rfl)
        have t1 := hold 1 (by kernel_rfl)
        have g18 := t58
        rw [show f 18 = _ from p18] at g18
        refine Or.inl ⟨want1 (g := 18) (s := 58) (b := true) (c := true) rfl (by kernel_rfl) g18, ?_⟩
        clear t58 p18 g18
        clear hdst hpo hold ho
        clear hinv
        unfold Ans
        go_simp
        exact ⟨rfl, Below.refl _ _⟩
      | 21, ho =>
        obtain rfl : _ = o := Option.some.inj ho
        have t59 : ac.tmps[59]? = some (f 19) := hdst 19 59 (by kernel_rfl) (by kernel_rfl)
        have p19 : (IsV (.agg #[.slice ca h.cells.length cc, .slice ta h.trail.length tc])) (f 19) ww := hpo 19 (by kernel_rfl)
        have t60 : ac.tmps[60]? = some (f 20) := hdst 20 60 (by kernel_rfl) (by kernel_rfl)
        have p20 : (IsV (.int .i64 n)) (f 20) ww := hpo 20 (by kernel_rfl)
        have t58 : ac.tmps[58]? = some (f 18) := hdst 18 58 (by kernel_rfl) (by kernel_rfl)
        have p18 : (IsV (.bool true)) (f 18) ww := hpo 18 (by kernel_rfl)
        have g18 := t58
        rw [show f 18 = _ from p18] at g18
        refine Or.inl ⟨want1 (g := 18) (s := 58) (b := true) (c := true) rfl (by kernel_rfl) g18, ?_⟩
        clear t58 p18 g18
        clear hdst hpo hold ho
        rw [show f 19 = _ from p19] at t59
        rw [show f 20 = _ from p20] at t60
        unfold Ans
        go_simp
        refine (look_ok h n HIN.out (fun _ => True) ww [_, _] (Hp.rep.below HRCa3c4a5c6a7c8a9c10a11.out hinv)).mono ?_
        rintro e w1 ⟨r, rfl, hb, rfl⟩
        exact ⟨_, rfl, rfl, hb⟩
      | 22, ho =>
        obtain rfl : _ = o := Option.some.inj ho
        have t58 : ac.tmps[58]? = some (f 18) := hdst 18 58 (by kernel_rfl) (by kernel_rfl)
        have p18 : (IsV (.bool true)) (f 18) ww := hpo 18 (by kernel_rfl)
        have t2 := hold 2 (by kernel_rfl)
        have g18 := t58
        rw [show f 18 = _ from p18] at g18
        refine Or.inl ⟨want1 (g := 18) (s := 58) (b := true) (c := true) rfl (by kernel_rfl) g18, ?_⟩
        clear t58 p18 g18
        clear hdst hpo hold ho
        obtain ⟨-, x0a, x0b, x1a, x1b, x2a, x2b, x3a, x3b, x4a, x4b, x5a, x5b⟩ := HA.out ww hinv
        unfold Ans
        go_simp
        exact ⟨rfl, Below.refl _ _⟩
      | 23, ho =>
        obtain rfl : _ = o := Option.some.inj ho
        have t58 : ac.tmps[58]? = some (f 18) := hdst 18 58 (by kernel_rfl) (by kernel_rfl)
        have p18 : (IsV (.bool true)) (f 18) ww := hpo 18 (by kernel_rfl)
        have t1 := hold 1 (by kernel_rfl)
        have g18 := t58
        rw [show f 18 = _ from p18] at g18
        refine Or.inl ⟨want1 (g := 18) (s := 58) (b := true) (c := true) rfl (by kernel_rfl) g18, ?_⟩
        clear t58 p18 g18
        clear hdst hpo hold ho
        clear hinv
        unfold Ans
        go_simp
        exact ⟨rfl, Below.refl _ _⟩
      | 24, ho =>
        obtain rfl : _ = o := Option.some.inj ho
        have t62 : ac.tmps[62]? = some (f 22) := hdst 22 62 (by kernel_rfl) (by kernel_rfl)
        have p22 : (IsV (.agg #[.slice va h.cells.length cap, .slice vb h.trail.length tap])) (f 22) ww := hpo 22 (by kernel_rfl)
        have t63 : ac.tmps[63]? = some (f 23) := hdst 23 63 (by kernel_rfl) (by kernel_rfl)
        have p23 : (IsV (.int .i64 n)) (f 23) ww := hpo 23 (by kernel_rfl)
        have t58 : ac.tmps[58]? = some (f 18) := hdst 18 58 (by kernel_rfl) (by kernel_rfl)
        have p18 : (IsV (.bool true)) (f 18) ww := hpo 18 (by kernel_rfl)
        have g18 := t58
        rw [show f 18 = _ from p18] at g18
        refine Or.inl ⟨want1 (g := 18) (s := 58) (b := true) (c := true) rfl (by kernel_rfl) g18, ?_⟩
        clear t58 p18 g18
        clear hdst hpo hold ho
        rw [show f 22 = _ from p22] at t62
        rw [show f 23 = _ from p23] at t63
        unfold Ans
        go_simp
        refine (lookAt_ok h n HIN.out (fun _ => True) ww [_, _] (Hp.rep.below HHa1c2a3c4a5c6a7c8a9c10a11.out hinv)).mono ?_
        rintro e w1 ⟨r, rfl, hb, rfl⟩
        exact ⟨_, rfl, rfl, hb⟩
      | 25, ho =>
        obtain rfl : _ = o := Option.some.inj ho
        have t61 : ac.tmps[61]? = some (f 21) := hdst 21 61 (by kernel_rfl) (by kernel_rfl)
        have p21 : (IsV (.int .i64 (look h.cells n))) (f 21) ww := hpo 21 (by kernel_rfl)
        have t64 : ac.tmps[64]? = some (f 24) := hdst 24 64 (by kernel_rfl) (by kernel_rfl)
        have p24 : (IsV (.int .i64 (look h.cells n))) (f 24) ww := hpo 24 (by kernel_rfl)
        have t58 : ac.tmps[58]? = some (f 18) := hdst 18 58 (by kernel_rfl) (by kernel_rfl)
        have p18 : (IsV (.bool true)) (f 18) ww := hpo 18 (by kernel_rfl)
        have g18 := t58
        rw [show f 18 = _ from p18] at g18
        refine Or.inl ⟨want1 (g := 18) (s := 58) (b := true) (c := true) rfl (by kernel_rfl) g18, ?_⟩
        clear t58 p18 g18
        clear hdst hpo hold ho
        rw [show f 21 = _ from p21] at t61
        rw [show f 24 = _ from p24] at t64
        clear hinv
        unfold Ans
        go_simp
        exact ⟨rfl, Below.refl _ _⟩
      | 26, ho =>
        obtain rfl : _ = o := Option.some.inj ho
        have t58 : ac.tmps[58]? = some (f 18) := hdst 18 58 (by kernel_rfl) (by kernel_rfl)
        have p18 : (IsV (.bool true)) (f 18) ww := hpo 18 (by kernel_rfl)
        have t65 : ac.tmps[65]? = some (f 25) := hdst 25 65 (by kernel_rfl) (by kernel_rfl)
        have p25 : (IsV (.bool true)) (f 25) ww := hpo 25 (by kernel_rfl)
        refine Or.inl ⟨want0 rfl, ?_⟩
        clear hdst hpo hold ho
        rw [show f 18 = _ from p18] at t58
        rw [show f 25 = _ from p25] at t65
        clear hinv
        unfold Ans
        go_simp
        exact ⟨rfl, Below.refl _ _⟩
      | 27, ho =>
        obtain rfl : _ = o := Option.some.inj ho
        have t66 : ac.tmps[66]? = some (f 26) := hdst 26 66 (by kernel_rfl) (by kernel_rfl)
        have p26 : (IsV (.bool true)) (f 26) ww := hpo 26 (by kernel_rfl)
        refine Or.inl ⟨want0 rfl, ?_⟩
        clear hdst hpo hold ho
        rw [show f 26 = _ from p26] at t66
        clear hinv
        unfold Ans
        go_simp
        exact ⟨rfl, Below.refl _ _⟩
      | 28, ho =>
        obtain rfl : _ = o := Option.some.inj ho
        have t67 : ac.tmps[67]? = some (f 27) := hdst 27 67 (by kernel_rfl) (by kernel_rfl)
        have p27 : (IsV (.bool true)) (f 27) ww := hpo 27 (by kernel_rfl)
        have t5 := hold 5 (by kernel_rfl)
        have g27 := t67
        rw [show f 27 = _ from p27] at g27
        refine Or.inl ⟨want1 (g := 27) (s := 67) (b := true) (c := true) rfl (by kernel_rfl) g27, ?_⟩
        clear t67 p27 g27
        clear hdst hpo hold ho
        obtain ⟨-, x0a, x0b, x1a, x1b, x2a, x2b, x3a, x3b, x4a, x4b, x5a, x5b⟩ := HA.out ww hinv
        unfold Ans
        go_simp
        exact ⟨rfl, Below.refl _ _⟩
      | 29, ho =>
        obtain rfl : _ = o := Option.some.inj ho
        have t67 : ac.tmps[67]? = some (f 27) := hdst 27 67 (by kernel_rfl) (by kernel_rfl)
        have p27 : (IsV (.bool true)) (f 27) ww := hpo 27 (by kernel_rfl)
        have t2 := hold 2 (by kernel_rfl)
        have g27 := t67
        rw [show f 27 = _ from p27] at g27
        refine Or.inl ⟨want1 (g := 27) (s := 67) (b := true) (c := true) rfl (by kernel_rfl) g27, ?_⟩
        clear t67 p27 g27
        clear hdst hpo hold ho
        obtain ⟨-, x0a, x0b, x1a, x1b, x2a, x2b, x3a, x3b, x4a, x4b, x5a, x5b⟩ := HA.out ww hinv
        unfold Ans
        go_simp
        exact ⟨rfl, Below.refl _ _⟩
      | 30, ho =>
        obtain rfl : _ = o := Option.some.inj ho
        have t68 : ac.tmps[68]? = some (f 28) := hdst 28 68 (by kernel_rfl) (by kernel_rfl)
        have p28 : (IsV (.agg #[.slice ca h.cells.length cc, .slice ta h.trail.length tc])) (f 28) ww := hpo 28 (by kernel_rfl)
        have t69 : ac.tmps[69]? = some (f 29) := hdst 29 69 (by kernel_rfl) (by kernel_rfl)
        have p29 : (IsV (.agg #[.slice va h.cells.length cap, .slice vb h.trail.length tap])) (f 29) ww := hpo 29 (by kernel_rfl)
        have t67 : ac.tmps[67]? = some (f 27) := hdst 27 67 (by kernel_rfl) (by kernel_rfl)
        have p27 : (IsV (.bool true)) (f 27) ww := hpo 27 (by kernel_rfl)
        have g27 := t67
        rw [show f 27 = _ from p27] at g27
        refine Or.inl ⟨want1 (g := 27) (s := 67) (b := true) (c := true) rfl (by kernel_rfl) g27, ?_⟩
        clear t67 p27 g27
        clear hdst hpo hold ho
        rw [show f 28 = _ from p28] at t68
        rw [show f 29 = _ from p29] at t69
        unfold Ans
        go_simp
        refine (sameHeap_ok h h (fun _ => True) ww [_, _] [_, _] (Hp.rep.below HRCa3c4a5c6a7c8a9c10a11.out hinv) (Hp.rep.below HHa1c2a3c4a5c6a7c8a9c10a11.out hinv)).mono ?_
        rintro e w1 ⟨r, rfl, hb, t, rfl, ht⟩
        obtain rfl : t = true := ht.2 rfl
        exact ⟨_, rfl, rfl, hb⟩
      | 31, ho =>
        obtain rfl : _ = o := Option.some.inj ho
        have t67 : ac.tmps[67]? = some (f 27) := hdst 27 67 (by kernel_rfl) (by kernel_rfl)
        have p27 : (IsV (.bool true)) (f 27) ww := hpo 27 (by kernel_rfl)
        have t70 : ac.tmps[70]? = some (f 30) := hdst 30 70 (by kernel_rfl) (by kernel_rfl)
        have p30 : (IsV (.bool true)) (f 30) ww := hpo 30 (by kernel_rfl)
        refine Or.inl ⟨want0 rfl, ?_⟩
        clear hdst hpo hold ho
        rw [show f 27 = _ from p27] at t67
        rw [show f 30 = _ from p30] at t70
        clear hinv
        unfold Ans
        go_simp
        exact ⟨rfl, Below.refl _ _⟩
      | 32, ho =>
        obtain rfl : _ = o := Option.some.inj ho
        have t71 : ac.tmps[71]? = some (f 31) := hdst 31 71 (by kernel_rfl) (by kernel_rfl)
        have p31 : (IsV (.bool true)) (f 31) ww := hpo 31 (by kernel_rfl)
        refine Or.inl ⟨want0 rfl, ?_⟩
        clear hdst hpo hold ho
        rw [show f 31 = _ from p31] at t71
        clear hinv
        unfold Ans
        go_simp
        exact ⟨rfl, Below.refl _ _⟩
      | 33, ho =>
        obtain rfl : _ = o := Option.some.inj ho
        have t72 : ac.tmps[72]? = some (f 32) := hdst 32 72 (by kernel_rfl) (by kernel_rfl)
        have p32 : (IsV (.bool true)) (f 32) ww := hpo 32 (by kernel_rfl)
        have g32 := t72
        rw [show f 32 = _ from p32] at g32
        refine Or.inl ⟨want1 (g := 32) (s := 72) (b := true) (c := true) rfl (by kernel_rfl) g32, ?_⟩
        clear t72 p32 g32
        clear hdst hpo hold ho
        unfold Ans
        go_simp
        refine (heapsL_ok ww).mono ?_
        rintro e w1 ⟨r, rfl, hb, rfl⟩
        exact ⟨_, rfl, rfl, hb⟩
      | 34, ho =>
        obtain rfl : _ = o := Option.some.inj ho
        have t72 : ac.tmps[72]? = some (f 32) := hdst 32 72 (by kernel_rfl) (by kernel_rfl)
        have p32 : (IsV (.bool true)) (f 32) ww := hpo 32 (by kernel_rfl)
        have t73 : ac.tmps[73]? = some (f 33) := hdst 33 73 (by kernel_rfl) (by kernel_rfl)
        have p33 : (IsV (.bool true)) (f 33) ww := hpo 33 (by kernel_rfl)
        refine Or.inl ⟨want0 rfl, ?_⟩
        clear hdst hpo hold ho
        rw [show f 32 = _ from p32] at t72
        rw [show f 33 = _ from p33] at t73
        clear hinv
        unfold Ans
        go_simp
        exact ⟨rfl, Below.refl _ _⟩
      | 35, ho =>
        obtain rfl : _ = o := Option.some.inj ho
        have t74 : ac.tmps[74]? = some (f 34) := hdst 34 74 (by kernel_rfl) (by kernel_rfl)
        have p34 : (IsV (.bool true)) (f 34) ww := hpo 34 (by kernel_rfl)
        refine Or.inl ⟨want0 rfl, ?_⟩
        clear hdst hpo hold ho
        rw [show f 34 = _ from p34] at t74
        clear hinv
        unfold Ans
        go_simp
        exact ⟨rfl, Below.refl _ _⟩
      | i + 36, ho => simp at ho
  · intro f ww hinv hpo
    have p35 : (IsV (.bool true)) (f 35) ww := hpo 35 (by decide)
    simp only [fillT, List.setIfInBounds_toArray, List.set_cons_succ, List.set_cons_zero]
    rw [show f 35 = _ from p35]
    have hB := HA.out ww hinv
    have HB := hid hB.1
    clear hinv hpo hB p35
    go_wp2_with fail
    go_ret
    exact ⟨_, rfl, HB.out, rfl⟩
end Go.Proofs.Ytlpmfkpefoegeaa
