/-
  The walk of queristkeep.HeapSmall.
-/
import Derived.Test.YtlpmfkpefoegeaaQCollect
import Derived.Test.YtlpmfkpefoegeaaQHeaps
import Derived.Test.YtlpmfkpefoegeaaQSameHeap
namespace Go.Proofs.Ytlpmfkpefoegeaa
set_option linter.unusedVariables false
set_option linter.unusedSimpArgs false
open Go.RowKit

/-- a truth value among others, as it is later on -/
theorem bool_cell {A : Nat → Prop} {w wr : World} {l : List Bool} {b off : Nat} (he : Elems A w 1 boolR l b off) (hA : A b) (hk : Keeps A w wr) {k : Nat} (hlt : k < l.length) :
    wr.cell? ⟨b, off + k, none⟩ = some (.bool l[k]) := by
  obtain ⟨vs, hvl, ⟨h1, rfl⟩, hrow⟩ := he k _ (List.getElem?_eq_getElem hlt)
  have := (RowAt.keeps hA hrow hk) 0 _ rfl
  simpa using this

set_option maxRecDepth 100000 in
set_option maxHeartbeats 4000000 in
theorem heapSmall_walk (h : Hp) (roots tops : List Int) (w : World) (vs : List Value) (v1 v2 : Value) (hh : Hp.rep (fun _ => True) w h vs) (hr1 : NumsR (fun _ => True) w roots v1) (hr2 : NumsR (fun _ => True) w tops v2) :
    Calls Try.prog 13 #[.agg vs.toArray, v1, v2] w (Pure w (fun r _ => r = .bool true)) := by
  obtain ⟨va, cap, vb, tap, rfl, hc1, hc2, hc3, ht1, ht2, ht3, -⟩ := Hp.rep2 hh
  obtain ⟨r1a, r1c, r1b, r1o, rfl, hr11, hr12, hr13, -⟩ := hr1.at
  obtain ⟨r2a, r2c, r2b, r2o, rfl, hr21, hr22, hr23, -⟩ := hr2.at
  have HMK := hid (fun (W : World) (us : List Value) (v : Value) (k1 : Hp.rep (fun _ => True) W h us) (k2 : NumsR (fun _ => True) W roots v) => marks_ok h roots (fun _ => True) W us v k1 k2)
  have HCO := hid (fun (W : World) (us : List Value) (u v : Value) (k1 : Hp.rep (fun _ => True) W h us) (k2 : NumsR (fun _ => True) W roots u) (k3 : NumsR (fun _ => True) W tops v) => collect_ok h roots tops [] (fun _ => True) W us u v (.slice none 0 0) k1 k2 k3 (SlR.nil ..))
  have HH := hid (hh)
  have HR := hid (hr1)
  have HT := hid (hr2)
  clear hh hr1 hr2
  go_enter Try.func13, Try.ntmps13
  go_wp2_with fail
  have HHa1 := hid (Hp.rep.keeps HH.out (Keeps.alloc _ _ (.cells #[.slice va h.cells.length cap, .slice vb h.trail.length tap] 38)))
  have HRa1 := hid (SlR.keeps numR_lasts HR.out (Keeps.alloc _ _ (.cells #[.slice va h.cells.length cap, .slice vb h.trail.length tap] 38)))
  have HTa1 := hid (SlR.keeps numR_lasts HT.out (Keeps.alloc _ _ (.cells #[.slice va h.cells.length cap, .slice vb h.trail.length tap] 38)))
  have HXn1 := hid (blk_new w (.cells #[.slice va h.cells.length cap, .slice vb h.trail.length tap] 38))
  have HBa1 := hid ((Below.refl _ w).alloc (Nat.le_refl _) (.cells #[.slice va h.cells.length cap, .slice vb h.trail.length tap] 38))
  have hsz1 : w.heap.size < (w.alloc (.cells #[.slice va h.cells.length cap, .slice vb h.trail.length tap] 38)).heap.size := by simp
  generalize w.alloc (.cells #[.slice va h.cells.length cap, .slice vb h.trail.length tap] 38) = w1 at HXn1 HHa1 HRa1 HTa1 HBa1 hsz1 ⊢
  obtain ⟨x0a, x0b, x0z⟩ := box2 HXn1.out
  have hz0 := blk_lt HXn1.out
  by_cases hg : h.Good
  case neg =>
    rw [show marksF h roots = ([], 1) by rw [marksF, if_neg hg]] at HMK
    rw [show collectF h roots tops [] = ⟨h, [], [], [], 1⟩ by rw [collectF, if_pos hg]] at HCO
    clear hg
    refine (HMK.out _ [_, _] _ HHa1.out HRa1.out).mono ?_
    rintro e w2 ⟨v, rfl, hb2, mv, rfl, hmk⟩
    clear hmk
    clear x0a x0b x0z hz0
    have HXn1c2 := hid (blk_below HXn1.out hb2)
    have HHa1c2 := hid (Hp.rep.keeps HHa1.out (Keeps.of_below hb2))
    have HRa1c2 := hid (SlR.keeps numR_lasts HRa1.out (Keeps.of_below hb2))
    have HTa1c2 := hid (SlR.keeps numR_lasts HTa1.out (Keeps.of_below hb2))
    have HBc2 := hid (HBa1.out.trans (hb2.mono HBa1.out.size))
    have hzz2 := hb2.size
    clear hb2
    obtain ⟨x0a, x0b, x0z⟩ := box2 HXn1c2.out
    have hz0 := blk_lt HXn1c2.out
    go_wp2_with fail
    refine (HCO.out _ [_, _] _ _ HHa1c2.out HRa1c2.out HTa1c2.out).mono ?_
    rintro e w3 ⟨v, rfl, hb3, us, a0, b0, c0, rfl, hr, -, -, -⟩
    obtain ⟨xa, xc, xb, xd, rfl, -⟩ := Hp.rep2 hr
    clear x0a x0b x0z hz0
    have HXn1c2c3 := hid (blk_below HXn1c2.out hb3)
    have HHa1c2c3 := hid (Hp.rep.keeps HHa1c2.out (Keeps.of_below hb3))
    have HRa1c2c3 := hid (SlR.keeps numR_lasts HRa1c2.out (Keeps.of_below hb3))
    have HTa1c2c3 := hid (SlR.keeps numR_lasts HTa1c2.out (Keeps.of_below hb3))
    have HBc3 := hid (HBc2.out.trans (hb3.mono HBc2.out.size))
    have hzz3 := hb3.size
    clear hb3
    obtain ⟨x0a, x0b, x0z⟩ := box2 HXn1c2c3.out
    have hz0 := blk_lt HXn1c2c3.out
    have HX := hid (show Hp.rep (fun _ => True) _ h _ from Hp.rep.mono hr (fun _ _ _ => trivial))
    clear hr
    go_wp2_with fail
    clear x0a x0b x0z hz0
    have HXn1c2c3a4 := hid (blk_alloc HXn1c2c3.out (.cells #[.slice xa h.cells.length xc, .slice xb h.trail.length xd] 38))
    have HHa1c2c3a4 := hid (Hp.rep.keeps HHa1c2c3.out (Keeps.alloc _ _ (.cells #[.slice xa h.cells.length xc, .slice xb h.trail.length xd] 38)))
    have HRa1c2c3a4 := hid (SlR.keeps numR_lasts HRa1c2c3.out (Keeps.alloc _ _ (.cells #[.slice xa h.cells.length xc, .slice xb h.trail.length xd] 38)))
    have HTa1c2c3a4 := hid (SlR.keeps numR_lasts HTa1c2c3.out (Keeps.alloc _ _ (.cells #[.slice xa h.cells.length xc, .slice xb h.trail.length xd] 38)))
    have HXa4 := hid (Hp.rep.keeps HX.out (Keeps.alloc _ _ (.cells #[.slice xa h.cells.length xc, .slice xb h.trail.length xd] 38)))
    have HXn4 := hid (blk_new w3 (.cells #[.slice xa h.cells.length xc, .slice xb h.trail.length xd] 38))
    have HBa4 := hid (HBc3.out.alloc HBc3.out.size (.cells #[.slice xa h.cells.length xc, .slice xb h.trail.length xd] 38))
    have hsz4 : w3.heap.size < (w3.alloc (.cells #[.slice xa h.cells.length xc, .slice xb h.trail.length xd] 38)).heap.size := by simp
    generalize w3.alloc (.cells #[.slice xa h.cells.length xc, .slice xb h.trail.length xd] 38) = w4 at HXn1c2c3a4 HXn4 HHa1c2c3a4 HRa1c2c3a4 HTa1c2c3a4 HXa4 HBa4 hsz4 ⊢
    obtain ⟨x0a, x0b, x0z⟩ := box2 HXn1c2c3a4.out
    have hz0 := blk_lt HXn1c2c3a4.out
    obtain ⟨x1a, x1b, x1z⟩ := box2 HXn4.out
    have hz1 := blk_lt HXn4.out
    refine (heapsK_ok _).mono ?_
    rintro e w5 ⟨v, rfl, hb5, rfl⟩
    clear x0a x0b x0z hz0 x1a x1b x1z hz1
    have HXn1c2c3a4c5 := hid (blk_below HXn1c2c3a4.out hb5)
    have HXn4c5 := hid (blk_below HXn4.out hb5)
    have HHa1c2c3a4c5 := hid (Hp.rep.keeps HHa1c2c3a4.out (Keeps.of_below hb5))
    have HRa1c2c3a4c5 := hid (SlR.keeps numR_lasts HRa1c2c3a4.out (Keeps.of_below hb5))
    have HTa1c2c3a4c5 := hid (SlR.keeps numR_lasts HTa1c2c3a4.out (Keeps.of_below hb5))
    have HXa4c5 := hid (Hp.rep.keeps HXa4.out (Keeps.of_below hb5))
    have HBc5 := hid (HBa4.out.trans (hb5.mono HBa4.out.size))
    have hzz5 := hb5.size
    clear hb5
    obtain ⟨x0a, x0b, x0z⟩ := box2 HXn1c2c3a4c5.out
    have hz0 := blk_lt HXn1c2c3a4c5.out
    obtain ⟨x1a, x1b, x1z⟩ := box2 HXn4c5.out
    have hz1 := blk_lt HXn4c5.out
    go_wp2_with fail
    go_ret
    exact ⟨_, rfl, HBc5.out, rfl⟩
  case pos =>
    by_cases hin : ∀ r ∈ roots, Inb h.cells r
    case neg =>
      rw [show marksF h roots = (marks h.cells roots, 0) by rw [marksF, if_pos hg]] at HMK
      rw [show collectF h roots tops [] = ⟨h, [], [], [], 4⟩ by rw [collectF, if_neg (not_not_intro hg), if_pos hin]] at HCO
      clear hg hin
      refine (HMK.out _ [_, _] _ HHa1.out HRa1.out).mono ?_
      rintro e w2 ⟨v, rfl, hb2, mv, rfl, hmk⟩
      clear hmk
      clear x0a x0b x0z hz0
      have HXn1c2 := hid (blk_below HXn1.out hb2)
      have HHa1c2 := hid (Hp.rep.keeps HHa1.out (Keeps.of_below hb2))
      have HRa1c2 := hid (SlR.keeps numR_lasts HRa1.out (Keeps.of_below hb2))
      have HTa1c2 := hid (SlR.keeps numR_lasts HTa1.out (Keeps.of_below hb2))
      have HBc2 := hid (HBa1.out.trans (hb2.mono HBa1.out.size))
      have hzz2 := hb2.size
      clear hb2
      obtain ⟨x0a, x0b, x0z⟩ := box2 HXn1c2.out
      have hz0 := blk_lt HXn1c2.out
      go_wp2_with fail
      refine (HCO.out _ [_, _] _ _ HHa1c2.out HRa1c2.out HTa1c2.out).mono ?_
      rintro e w3 ⟨v, rfl, hb3, us, a0, b0, c0, rfl, hr, -, -, -⟩
      obtain ⟨xa, xc, xb, xd, rfl, -⟩ := Hp.rep2 hr
      clear x0a x0b x0z hz0
      have HXn1c2c3 := hid (blk_below HXn1c2.out hb3)
      have HHa1c2c3 := hid (Hp.rep.keeps HHa1c2.out (Keeps.of_below hb3))
      have HRa1c2c3 := hid (SlR.keeps numR_lasts HRa1c2.out (Keeps.of_below hb3))
      have HTa1c2c3 := hid (SlR.keeps numR_lasts HTa1c2.out (Keeps.of_below hb3))
      have HBc3 := hid (HBc2.out.trans (hb3.mono HBc2.out.size))
      have hzz3 := hb3.size
      clear hb3
      obtain ⟨x0a, x0b, x0z⟩ := box2 HXn1c2c3.out
      have hz0 := blk_lt HXn1c2c3.out
      have HX := hid (show Hp.rep (fun _ => True) _ h _ from Hp.rep.mono hr (fun _ _ _ => trivial))
      clear hr
      go_wp2_with fail
      clear x0a x0b x0z hz0
      have HXn1c2c3a4 := hid (blk_alloc HXn1c2c3.out (.cells #[.slice xa h.cells.length xc, .slice xb h.trail.length xd] 38))
      have HHa1c2c3a4 := hid (Hp.rep.keeps HHa1c2c3.out (Keeps.alloc _ _ (.cells #[.slice xa h.cells.length xc, .slice xb h.trail.length xd] 38)))
      have HRa1c2c3a4 := hid (SlR.keeps numR_lasts HRa1c2c3.out (Keeps.alloc _ _ (.cells #[.slice xa h.cells.length xc, .slice xb h.trail.length xd] 38)))
      have HTa1c2c3a4 := hid (SlR.keeps numR_lasts HTa1c2c3.out (Keeps.alloc _ _ (.cells #[.slice xa h.cells.length xc, .slice xb h.trail.length xd] 38)))
      have HXa4 := hid (Hp.rep.keeps HX.out (Keeps.alloc _ _ (.cells #[.slice xa h.cells.length xc, .slice xb h.trail.length xd] 38)))
      have HXn4 := hid (blk_new w3 (.cells #[.slice xa h.cells.length xc, .slice xb h.trail.length xd] 38))
      have HBa4 := hid (HBc3.out.alloc HBc3.out.size (.cells #[.slice xa h.cells.length xc, .slice xb h.trail.length xd] 38))
      have hsz4 : w3.heap.size < (w3.alloc (.cells #[.slice xa h.cells.length xc, .slice xb h.trail.length xd] 38)).heap.size := by simp
      generalize w3.alloc (.cells #[.slice xa h.cells.length xc, .slice xb h.trail.length xd] 38) = w4 at HXn1c2c3a4 HXn4 HHa1c2c3a4 HRa1c2c3a4 HTa1c2c3a4 HXa4 HBa4 hsz4 ⊢
      obtain ⟨x0a, x0b, x0z⟩ := box2 HXn1c2c3a4.out
      have hz0 := blk_lt HXn1c2c3a4.out
      obtain ⟨x1a, x1b, x1z⟩ := box2 HXn4.out
      have hz1 := blk_lt HXn4.out
      refine (heapsK_ok _).mono ?_
      rintro e w5 ⟨v, rfl, hb5, rfl⟩
      clear x0a x0b x0z hz0 x1a x1b x1z hz1
      have HXn1c2c3a4c5 := hid (blk_below HXn1c2c3a4.out hb5)
      have HXn4c5 := hid (blk_below HXn4.out hb5)
      have HHa1c2c3a4c5 := hid (Hp.rep.keeps HHa1c2c3a4.out (Keeps.of_below hb5))
      have HRa1c2c3a4c5 := hid (SlR.keeps numR_lasts HRa1c2c3a4.out (Keeps.of_below hb5))
      have HTa1c2c3a4c5 := hid (SlR.keeps numR_lasts HTa1c2c3a4.out (Keeps.of_below hb5))
      have HXa4c5 := hid (Hp.rep.keeps HXa4.out (Keeps.of_below hb5))
      have HBc5 := hid (HBa4.out.trans (hb5.mono HBa4.out.size))
      have hzz5 := hb5.size
      clear hb5
      obtain ⟨x0a, x0b, x0z⟩ := box2 HXn1c2c3a4c5.out
      have hz0 := blk_lt HXn1c2c3a4c5.out
      obtain ⟨x1a, x1b, x1z⟩ := box2 HXn4c5.out
      have hz1 := blk_lt HXn4c5.out
      go_wp2_with fail
      go_ret
      exact ⟨_, rfl, HBc5.out, rfl⟩
    case pos =>
      have hL1 : h.cells.length ≤ 65536 := hg.2.2.1
      obtain ⟨ag1, ag2, ag3⟩ := collect_again hg hin [] []
      have HLEN := hid (gcH_len (h := h) (roots := roots))
      have HMONO := hid (fun a b hab => ahead_mono (marks h.cells roots) (a := a) (b := b) hab)
      have hml : (marks h.cells roots).length = h.cells.length := marks_len _ _
      rw [show marksF h roots = (marks h.cells roots, 0) by rw [marksF, if_pos hg]] at HMK
      rw [show collectF h roots tops [] = ⟨gcH h roots, roots.map (ahead (marks h.cells roots)), tops.map (ahead (marks h.cells roots)), [], 0⟩ by rw [collectF, if_neg (not_not_intro hg), if_neg (not_not_intro hin)]; rfl] at HCO
      have HCO2 := hid (fun (W : World) (us : List Value) (u : Value) (k1 : Hp.rep (fun _ => True) W (gcH h roots) us) (k2 : NumsR (fun _ => True) W (roots.map (ahead (marks h.cells roots))) u) => collect_ok (gcH h roots) (roots.map (ahead (marks h.cells roots))) [] [] (fun _ => True) W us u (.slice none 0 0) (.slice none 0 0) k1 k2 (SlR.nil ..) (SlR.nil ..))
      obtain ⟨tp, htp⟩ : ∃ l, l = tops.map (ahead (marks h.cells roots)) := ⟨_, rfl⟩
      rw [← htp] at HCO
      have HTPE := hid htp
      generalize hm : marks h.cells roots = m at *
      generalize roots.map (ahead m) = at_ at *
      generalize gcH h roots = x at *
      generalize collectF x at_ [] [] = cg at *
      obtain ⟨cx, cr, ct, cm, ce⟩ := cg
      simp only at ag1 ag2 ag3
      have ag1' := ag1.symm
      have ag2' := ag2.symm
      have ag3' := ag3.symm
      clear ag1 ag2 ag3
      subst ag1' ag2' ag3'
      clear hg hin hm htp
      refine (HMK.out _ [_, _] _ HHa1.out HRa1.out).mono ?_
      rintro e w2 ⟨v, rfl, hb2, mv, rfl, hmk⟩
      have hbm := OwnB.sl (A := fun _ => True) hmk (by rw [hml]; have := hL1; omega) (fun _ _ => trivial)
      clear hmk
      clear x0a x0b x0z hz0
      have HXn1c2 := hid (blk_below HXn1.out hb2)
      have HHa1c2 := hid (Hp.rep.keeps HHa1.out (Keeps.of_below hb2))
      have HRa1c2 := hid (SlR.keeps numR_lasts HRa1.out (Keeps.of_below hb2))
      have HTa1c2 := hid (SlR.keeps numR_lasts HTa1.out (Keeps.of_below hb2))
      have HBc2 := hid (HBa1.out.trans (hb2.mono HBa1.out.size))
      have hzz2 := hb2.size
      clear hb2
      obtain ⟨x0a, x0b, x0z⟩ := box2 HXn1c2.out
      have hz0 := blk_lt HXn1c2.out
      have HBM := hid (hbm)
      clear hbm
      go_wp2_with fail
      refine (HCO.out _ [_, _] _ _ HHa1c2.out HRa1c2.out HTa1c2.out).mono ?_
      rintro e w3 ⟨v, rfl, hb3, us, a0, b0, c0, rfl, hr, hat, htop, -⟩
      obtain ⟨xa, xc, xb, xd, rfl, -⟩ := Hp.rep2 hr
      clear x0a x0b x0z hz0
      have HXn1c2c3 := hid (blk_below HXn1c2.out hb3)
      have HHa1c2c3 := hid (Hp.rep.keeps HHa1c2.out (Keeps.of_below hb3))
      have HRa1c2c3 := hid (SlR.keeps numR_lasts HRa1c2.out (Keeps.of_below hb3))
      have HTa1c2c3 := hid (SlR.keeps numR_lasts HTa1c2.out (Keeps.of_below hb3))
      have HBMc3 := hid (SlR.keeps boolR_lasts HBM.out (Keeps.of_below hb3))
      have HBc3 := hid (HBc2.out.trans (hb3.mono HBc2.out.size))
      have hzz3 := hb3.size
      clear hb3
      obtain ⟨x0a, x0b, x0z⟩ := box2 HXn1c2c3.out
      have hz0 := blk_lt HXn1c2c3.out
      have HX := hid (show Hp.rep (fun _ => True) _ x _ from Hp.rep.mono hr (fun _ _ _ => trivial))
      have HAT := hid (show NumsR (fun _ => True) _ at_ _ from SlR.mono numR_lasts (by omega) hat (fun _ _ _ => trivial))
      have HTOP := hid (show NumsR (fun _ => True) _ tp _ from SlR.mono numR_lasts (by omega) htop (fun _ _ _ => trivial))
      clear hr hat htop
      go_wp2_with fail
      clear x0a x0b x0z hz0
      have HXn1c2c3a4 := hid (blk_alloc HXn1c2c3.out (.cells #[.slice xa x.cells.length xc, .slice xb x.trail.length xd] 38))
      have HHa1c2c3a4 := hid (Hp.rep.keeps HHa1c2c3.out (Keeps.alloc _ _ (.cells #[.slice xa x.cells.length xc, .slice xb x.trail.length xd] 38)))
      have HRa1c2c3a4 := hid (SlR.keeps numR_lasts HRa1c2c3.out (Keeps.alloc _ _ (.cells #[.slice xa x.cells.length xc, .slice xb x.trail.length xd] 38)))
      have HTa1c2c3a4 := hid (SlR.keeps numR_lasts HTa1c2c3.out (Keeps.alloc _ _ (.cells #[.slice xa x.cells.length xc, .slice xb x.trail.length xd] 38)))
      have HBMc3a4 := hid (SlR.keeps boolR_lasts HBMc3.out (Keeps.alloc _ _ (.cells #[.slice xa x.cells.length xc, .slice xb x.trail.length xd] 38)))
      have HXa4 := hid (Hp.rep.keeps HX.out (Keeps.alloc _ _ (.cells #[.slice xa x.cells.length xc, .slice xb x.trail.length xd] 38)))
      have HATa4 := hid (SlR.keeps numR_lasts HAT.out (Keeps.alloc _ _ (.cells #[.slice xa x.cells.length xc, .slice xb x.trail.length xd] 38)))
      have HTOPa4 := hid (SlR.keeps numR_lasts HTOP.out (Keeps.alloc _ _ (.cells #[.slice xa x.cells.length xc, .slice xb x.trail.length xd] 38)))
      have HXn4 := hid (blk_new w3 (.cells #[.slice xa x.cells.length xc, .slice xb x.trail.length xd] 38))
      have HBa4 := hid (HBc3.out.alloc HBc3.out.size (.cells #[.slice xa x.cells.length xc, .slice xb x.trail.length xd] 38))
      have hsz4 : w3.heap.size < (w3.alloc (.cells #[.slice xa x.cells.length xc, .slice xb x.trail.length xd] 38)).heap.size := by simp
      generalize w3.alloc (.cells #[.slice xa x.cells.length xc, .slice xb x.trail.length xd] 38) = w4 at HXn1c2c3a4 HXn4 HHa1c2c3a4 HRa1c2c3a4 HTa1c2c3a4 HBMc3a4 HXa4 HATa4 HTOPa4 HBa4 hsz4 ⊢
      obtain ⟨x0a, x0b, x0z⟩ := box2 HXn1c2c3a4.out
      have hz0 := blk_lt HXn1c2c3a4.out
      obtain ⟨x1a, x1b, x1z⟩ := box2 HXn4.out
      have hz1 := blk_lt HXn4.out
      refine (heapsK_ok _).mono ?_
      rintro e w5 ⟨v, rfl, hb5, rfl⟩
      clear x0a x0b x0z hz0 x1a x1b x1z hz1
      have HXn1c2c3a4c5 := hid (blk_below HXn1c2c3a4.out hb5)
      have HXn4c5 := hid (blk_below HXn4.out hb5)
      have HHa1c2c3a4c5 := hid (Hp.rep.keeps HHa1c2c3a4.out (Keeps.of_below hb5))
      have HRa1c2c3a4c5 := hid (SlR.keeps numR_lasts HRa1c2c3a4.out (Keeps.of_below hb5))
      have HTa1c2c3a4c5 := hid (SlR.keeps numR_lasts HTa1c2c3a4.out (Keeps.of_below hb5))
      have HBMc3a4c5 := hid (SlR.keeps boolR_lasts HBMc3a4.out (Keeps.of_below hb5))
      have HXa4c5 := hid (Hp.rep.keeps HXa4.out (Keeps.of_below hb5))
      have HATa4c5 := hid (SlR.keeps numR_lasts HATa4.out (Keeps.of_below hb5))
      have HTOPa4c5 := hid (SlR.keeps numR_lasts HTOPa4.out (Keeps.of_below hb5))
      have HBc5 := hid (HBa4.out.trans (hb5.mono HBa4.out.size))
      have hzz5 := hb5.size
      clear hb5
      obtain ⟨x0a, x0b, x0z⟩ := box2 HXn1c2c3a4c5.out
      have hz0 := blk_lt HXn1c2c3a4c5.out
      obtain ⟨x1a, x1b, x1z⟩ := box2 HXn4c5.out
      have hz1 := blk_lt HXn4c5.out
      obtain ⟨ba, bcap, bb, boff, rfl, hb1', hb2', hb3', hba, hbe⟩ := SlR.at HBMc3a4c5.out
      have HBA := hid hba
      have HBE := hid hbe
      rw [hml] at hb1' hb3'
      try rw [hml]
      clear hba hbe
      go_wp2_with fail
      go_loopw [53, 14] (fun i n wr => ∃ j : Nat, j ≤ h.cells.length ∧ i = .int .i64 (j : Int) ∧ n = .int .i64 (cntT m j : Int) ∧ wr = w5) (fun i _ _ => h.cells.length - (intOf i).toNat)
      case atStart => exact ⟨0, Nat.zero_le _, rfl, by simp [cntT], rfl⟩
      case round =>
        obtain ⟨j, hj, rfl, rfl, rfl⟩ := hrel
        have hcn : cntT m j ≤ j := by
          unfold cntT
          exact Nat.le_trans (List.length_filter_le _ _) (by rw [List.length_take]; omega)
        by_cases hlt : j < h.cells.length
        · obtain ⟨rfl, -⟩ := HBA.out (by omega)
          have hjm : j < m.length := by omega
          have b0' := bool_cell HBE.out trivial (Keeps.refl _ _) hjm
          have hcs1 := cntT_succ hjm
          have hlt' : (j : Int) < (h.cells.length : Int) := by omega
          cases hmj : m[j] with
          | false =>
            rw [hmj] at b0' hcs1
            have HCN := hid (show cntT m (j + 1) = cntT m j by simpa using hcs1)
            clear hcs1
            go_wp2_with fail
            go_roundw
            case rel => exact ⟨j + 1, by omega, by go_num, by rw [HCN.out], by first | rfl | trivial⟩
            case measure => first | (simp [intOf]; done) | (simp [intOf]; omega)
          | true =>
            rw [hmj] at b0' hcs1
            have HCN := hid (show ((cntT m (j + 1) : Nat) : Int) = (cntT m j : Int) + 1 by rw [hcs1]; simp)
            clear hcs1
            go_wp2_with fail
            go_roundw
            case rel => exact ⟨j + 1, by omega, by go_num, by rw [HCN.out], by first | rfl | trivial⟩
            case measure => first | (simp [intOf]; done) | (simp [intOf]; omega)
        · have hje : j = h.cells.length := by omega
          subst hje
          have hall : cntT m h.cells.length = x.cells.length := by
            rw [HLEN.out]; unfold cntT; rw [List.take_of_length_le (by omega)]
          rw [hall]
          have hlt' : ¬ ((h.cells.length : Int) < (h.cells.length : Int)) := by omega
          clear hlt hall
          go_wp2_with fail
          refine (HCO2.out _ [_, _] _ HXa4c5.out HATa4c5.out).mono ?_
          rintro e w6 ⟨v, rfl, hb6, us, a1, b1, c1, rfl, hr, hat, -, -⟩
          obtain ⟨ya, yc, yb, yd, rfl, -⟩ := Hp.rep2 hr
          clear x0a x0b x0z hz0 x1a x1b x1z hz1
          have HXn1c2c3a4c5c6 := hid (blk_below HXn1c2c3a4c5.out hb6)
          have HXn4c5c6 := hid (blk_below HXn4c5.out hb6)
          have HHa1c2c3a4c5c6 := hid (Hp.rep.keeps HHa1c2c3a4c5.out (Keeps.of_below hb6))
          have HRa1c2c3a4c5c6 := hid (SlR.keeps numR_lasts HRa1c2c3a4c5.out (Keeps.of_below hb6))
          have HTa1c2c3a4c5c6 := hid (SlR.keeps numR_lasts HTa1c2c3a4c5.out (Keeps.of_below hb6))
          have HBMc3a4c5c6 := hid (SlR.keeps boolR_lasts HBMc3a4c5.out (Keeps.of_below hb6))
          have HXa4c5c6 := hid (Hp.rep.keeps HXa4c5.out (Keeps.of_below hb6))
          have HATa4c5c6 := hid (SlR.keeps numR_lasts HATa4c5.out (Keeps.of_below hb6))
          have HTOPa4c5c6 := hid (SlR.keeps numR_lasts HTOPa4c5.out (Keeps.of_below hb6))
          have HBc6 := hid (HBc5.out.trans (hb6.mono HBc5.out.size))
          have hzz6 := hb6.size
          clear hb6
          obtain ⟨x0a, x0b, x0z⟩ := box2 HXn1c2c3a4c5c6.out
          have hz0 := blk_lt HXn1c2c3a4c5c6.out
          obtain ⟨x1a, x1b, x1z⟩ := box2 HXn4c5c6.out
          have hz1 := blk_lt HXn4c5c6.out
          have HY := hid (show Hp.rep (fun _ => True) _ x _ from Hp.rep.mono hr (fun _ _ _ => trivial))
          have HAT2 := hid (show NumsR (fun _ => True) _ at_ _ from SlR.mono numR_lasts (by omega) hat (fun _ _ _ => trivial))
          clear hr hat
          have hxl : ((x.cells.length : Int) != (x.cells.length : Int)) = false := by simp
          obtain ⟨pa, pc, pb, po, rfl, hp1, hp2, hp3, hpa, hpe⟩ := SlR.at HTOPa4c5c6.out
          have htl : tp.length = tops.length := by rw [HTPE.out, List.length_map]
          have HPA := hid hpa
          have HPE := hid hpe
          clear hpa hpe
          go_wp2_with fail
          clear x0a x0b x0z hz0 x1a x1b x1z hz1
          have HXn1c2c3a4c5c6a7 := hid (blk_alloc HXn1c2c3a4c5c6.out (.cells #[.slice ya x.cells.length yc, .slice yb x.trail.length yd] 38))
          have HXn4c5c6a7 := hid (blk_alloc HXn4c5c6.out (.cells #[.slice ya x.cells.length yc, .slice yb x.trail.length yd] 38))
          have HHa1c2c3a4c5c6a7 := hid (Hp.rep.keeps HHa1c2c3a4c5c6.out (Keeps.alloc _ _ (.cells #[.slice ya x.cells.length yc, .slice yb x.trail.length yd] 38)))
          have HRa1c2c3a4c5c6a7 := hid (SlR.keeps numR_lasts HRa1c2c3a4c5c6.out (Keeps.alloc _ _ (.cells #[.slice ya x.cells.length yc, .slice yb x.trail.length yd] 38)))
          have HTa1c2c3a4c5c6a7 := hid (SlR.keeps numR_lasts HTa1c2c3a4c5c6.out (Keeps.alloc _ _ (.cells #[.slice ya x.cells.length yc, .slice yb x.trail.length yd] 38)))
          have HBMc3a4c5c6a7 := hid (SlR.keeps boolR_lasts HBMc3a4c5c6.out (Keeps.alloc _ _ (.cells #[.slice ya x.cells.length yc, .slice yb x.trail.length yd] 38)))
          have HXa4c5c6a7 := hid (Hp.rep.keeps HXa4c5c6.out (Keeps.alloc _ _ (.cells #[.slice ya x.cells.length yc, .slice yb x.trail.length yd] 38)))
          have HATa4c5c6a7 := hid (SlR.keeps numR_lasts HATa4c5c6.out (Keeps.alloc _ _ (.cells #[.slice ya x.cells.length yc, .slice yb x.trail.length yd] 38)))
          have HTOPa4c5c6a7 := hid (SlR.keeps numR_lasts HTOPa4c5c6.out (Keeps.alloc _ _ (.cells #[.slice ya x.cells.length yc, .slice yb x.trail.length yd] 38)))
          have HYa7 := hid (Hp.rep.keeps HY.out (Keeps.alloc _ _ (.cells #[.slice ya x.cells.length yc, .slice yb x.trail.length yd] 38)))
          have HAT2a7 := hid (SlR.keeps numR_lasts HAT2.out (Keeps.alloc _ _ (.cells #[.slice ya x.cells.length yc, .slice yb x.trail.length yd] 38)))
          have HXn7 := hid (blk_new w6 (.cells #[.slice ya x.cells.length yc, .slice yb x.trail.length yd] 38))
          have HBa7 := hid (HBc6.out.alloc HBc6.out.size (.cells #[.slice ya x.cells.length yc, .slice yb x.trail.length yd] 38))
          have hsz7 : w6.heap.size < (w6.alloc (.cells #[.slice ya x.cells.length yc, .slice yb x.trail.length yd] 38)).heap.size := by simp
          generalize w6.alloc (.cells #[.slice ya x.cells.length yc, .slice yb x.trail.length yd] 38) = w7 at HXn1c2c3a4c5c6a7 HXn4c5c6a7 HXn7 HHa1c2c3a4c5c6a7 HRa1c2c3a4c5c6a7 HTa1c2c3a4c5c6a7 HBMc3a4c5c6a7 HXa4c5c6a7 HATa4c5c6a7 HTOPa4c5c6a7 HYa7 HAT2a7 HBa7 hsz7 ⊢
          obtain ⟨x0a, x0b, x0z⟩ := box2 HXn1c2c3a4c5c6a7.out
          have hz0 := blk_lt HXn1c2c3a4c5c6a7.out
          obtain ⟨x1a, x1b, x1z⟩ := box2 HXn4c5c6a7.out
          have hz1 := blk_lt HXn4c5c6a7.out
          obtain ⟨x2a, x2b, x2z⟩ := box2 HXn7.out
          have hz2 := blk_lt HXn7.out
          refine (sameHeapK_ok x x (fun _ => True) _ [_, _] [_, _] HXa4c5c6a7.out HYa7.out).mono ?_
          rintro e w8 ⟨v, rfl, hb8, b, rfl, ht⟩
          obtain rfl : b = true := ht.2 rfl
          clear ht
          clear x0a x0b x0z hz0 x1a x1b x1z hz1 x2a x2b x2z hz2
          have HXn1c2c3a4c5c6a7c8 := hid (blk_below HXn1c2c3a4c5c6a7.out hb8)
          have HXn4c5c6a7c8 := hid (blk_below HXn4c5c6a7.out hb8)
          have HXn7c8 := hid (blk_below HXn7.out hb8)
          have HHa1c2c3a4c5c6a7c8 := hid (Hp.rep.keeps HHa1c2c3a4c5c6a7.out (Keeps.of_below hb8))
          have HRa1c2c3a4c5c6a7c8 := hid (SlR.keeps numR_lasts HRa1c2c3a4c5c6a7.out (Keeps.of_below hb8))
          have HTa1c2c3a4c5c6a7c8 := hid (SlR.keeps numR_lasts HTa1c2c3a4c5c6a7.out (Keeps.of_below hb8))
          have HBMc3a4c5c6a7c8 := hid (SlR.keeps boolR_lasts HBMc3a4c5c6a7.out (Keeps.of_below hb8))
          have HXa4c5c6a7c8 := hid (Hp.rep.keeps HXa4c5c6a7.out (Keeps.of_below hb8))
          have HATa4c5c6a7c8 := hid (SlR.keeps numR_lasts HATa4c5c6a7.out (Keeps.of_below hb8))
          have HTOPa4c5c6a7c8 := hid (SlR.keeps numR_lasts HTOPa4c5c6a7.out (Keeps.of_below hb8))
          have HYa7c8 := hid (Hp.rep.keeps HYa7.out (Keeps.of_below hb8))
          have HAT2a7c8 := hid (SlR.keeps numR_lasts HAT2a7.out (Keeps.of_below hb8))
          have HBc8 := hid (HBa7.out.trans (hb8.mono HBa7.out.size))
          have hzz8 := hb8.size
          clear hb8
          obtain ⟨x0a, x0b, x0z⟩ := box2 HXn1c2c3a4c5c6a7c8.out
          have hz0 := blk_lt HXn1c2c3a4c5c6a7c8.out
          obtain ⟨x1a, x1b, x1z⟩ := box2 HXn4c5c6a7c8.out
          have hz1 := blk_lt HXn4c5c6a7c8.out
          obtain ⟨x2a, x2b, x2z⟩ := box2 HXn7c8.out
          have hz2 := blk_lt HXn7c8.out
          go_wp2_with fail
          refine (sameNumbersK_ok at_ at_ (fun _ => True) _ _ _ HATa4c5c6a7c8.out HAT2a7c8.out).mono ?_
          rintro e w9 ⟨v, rfl, hb9, b, rfl, ht⟩
          obtain rfl : b = true := ht.2 rfl
          clear ht
          clear x0a x0b x0z hz0 x1a x1b x1z hz1 x2a x2b x2z hz2
          have HXn1c2c3a4c5c6a7c8c9 := hid (blk_below HXn1c2c3a4c5c6a7c8.out hb9)
          have HXn4c5c6a7c8c9 := hid (blk_below HXn4c5c6a7c8.out hb9)
          have HXn7c8c9 := hid (blk_below HXn7c8.out hb9)
          have HHa1c2c3a4c5c6a7c8c9 := hid (Hp.rep.keeps HHa1c2c3a4c5c6a7c8.out (Keeps.of_below hb9))
          have HRa1c2c3a4c5c6a7c8c9 := hid (SlR.keeps numR_lasts HRa1c2c3a4c5c6a7c8.out (Keeps.of_below hb9))
          have HTa1c2c3a4c5c6a7c8c9 := hid (SlR.keeps numR_lasts HTa1c2c3a4c5c6a7c8.out (Keeps.of_below hb9))
          have HBMc3a4c5c6a7c8c9 := hid (SlR.keeps boolR_lasts HBMc3a4c5c6a7c8.out (Keeps.of_below hb9))
          have HXa4c5c6a7c8c9 := hid (Hp.rep.keeps HXa4c5c6a7c8.out (Keeps.of_below hb9))
          have HATa4c5c6a7c8c9 := hid (SlR.keeps numR_lasts HATa4c5c6a7c8.out (Keeps.of_below hb9))
          have HTOPa4c5c6a7c8c9 := hid (SlR.keeps numR_lasts HTOPa4c5c6a7c8.out (Keeps.of_below hb9))
          have HYa7c8c9 := hid (Hp.rep.keeps HYa7c8.out (Keeps.of_below hb9))
          have HAT2a7c8c9 := hid (SlR.keeps numR_lasts HAT2a7c8.out (Keeps.of_below hb9))
          have HBc9 := hid (HBc8.out.trans (hb9.mono HBc8.out.size))
          have hzz9 := hb9.size
          clear hb9
          obtain ⟨x0a, x0b, x0z⟩ := box2 HXn1c2c3a4c5c6a7c8c9.out
          have hz0 := blk_lt HXn1c2c3a4c5c6a7c8c9.out
          obtain ⟨x1a, x1b, x1z⟩ := box2 HXn4c5c6a7c8c9.out
          have hz1 := blk_lt HXn4c5c6a7c8c9.out
          obtain ⟨x2a, x2b, x2z⟩ := box2 HXn7c8c9.out
          have hz2 := blk_lt HXn7c8c9.out
          rw [htl] at hp1 hp3
          try rw [htl]
          go_wp2_with fail
          have HPF := hid (show NumsR (fun _ => True) _ tp (.slice pa tops.length pc) by have := HTOPa4c5c6a7c8c9.out; rw [htl] at this; exact this)
          go_loopw [100] (fun i wr => ∃ j : Nat, j ≤ tops.length ∧ i = .int .i64 (j : Int) ∧ Below w.heap.size w wr ∧ NumsR (fun _ => True) wr tops (.slice r2a tops.length r2c) ∧ NumsR (fun _ => True) wr tp (.slice pa tops.length pc)) (fun i _ => tops.length - (intOf i).toNat)
          case atStart => exact ⟨0, Nat.zero_le _, rfl, HBc9.out, HTa1c2c3a4c5c6a7c8c9.out, HPF.out⟩
          case round =>
            obtain ⟨j, hj, rfl, jb, jt, jp⟩ := hrel
            have JB := hid jb
            have JT := hid jt
            have JP := hid jp
            clear jb jt jp
            by_cases hlt : j < tops.length
            · have hlt' : (j : Int) < (tops.length : Int) := by omega
              go_wp2_with fail
              go_loopw [105] (fun i wr => ∃ k : Nat, k ≤ tops.length ∧ i = .int .i64 (k : Int) ∧ Below w.heap.size w wr ∧ NumsR (fun _ => True) wr tops (.slice r2a tops.length r2c) ∧ NumsR (fun _ => True) wr tp (.slice pa tops.length pc)) (fun i _ => tops.length - (intOf i).toNat)
              case atStart => exact ⟨0, Nat.zero_le _, rfl, JB.out, JT.out, JP.out⟩
              case round =>
                obtain ⟨k, hk, rfl, kb, kt, kp⟩ := hrel
                have KB := hid kb
                have KT := hid kt
                have KP := hid kp
                by_cases hlk : k < tops.length
                · obtain ⟨_, _, tb', to', e, -, -, -, hta, hte⟩ := SlR.at kt
                  simp only [Value.slice.injEq, true_and] at e
                  obtain ⟨rfl, rfl⟩ := e
                  obtain ⟨rfl, -⟩ := hta (by omega)
                  obtain ⟨_, _, pb', po', e, -, -, -, hpa', hpe'⟩ := SlR.at kp
                  simp only [Value.slice.injEq] at e
                  obtain ⟨rfl, -, rfl⟩ := e
                  obtain ⟨rfl, -⟩ := hpa' (by omega)
                  have tj := (num_cell hte trivial (Keeps.refl _ _) hlt).1
                  have tk := (num_cell hte trivial (Keeps.refl _ _) hlk).1
                  have pj := (num_cell hpe' trivial (Keeps.refl _ _) (k := j) (by omega)).1
                  have pk := (num_cell hpe' trivial (Keeps.refl _ _) (k := k) (by omega)).1
                  have ej : tp[j]'(by omega) = ahead m tops[j] := by simp only [HTPE.out, List.getElem_map]
                  have ek : tp[k]'(by omega) = ahead m tops[k] := by simp only [HTPE.out, List.getElem_map]
                  rw [ej] at pj
                  rw [ek] at pk
                  have hmono := HMONO.out (tops[j]'hlt) (tops[k]'hlk)
                  obtain ⟨xj, hxj⟩ : ∃ z : Int, z = tops[j]'hlt := ⟨_, rfl⟩
                  obtain ⟨xk, hxk⟩ : ∃ z : Int, z = tops[k]'hlk := ⟨_, rfl⟩
                  rw [← hxj] at tj pj hmono
                  rw [← hxk] at tk pk hmono
                  have hlk' : (k : Int) < (tops.length : Int) := by omega
                  have hj0 : (0 : Int) ≤ (j : Int) := Int.natCast_nonneg _
                  have hk0 : (0 : Int) ≤ (k : Int) := Int.natCast_nonneg _
                  clear kb kt kp hta hte hpa' hpe' ej ek hxj hxk
                  have HA0 : Hid (∀ w', Below wr.heap.size wr w' → w'.cell? ⟨tb', to' + j, none⟩ = some (.int .i64 xj) ∧ w'.cell? ⟨tb', to' + k, none⟩ = some (.int .i64 xk) ∧ w'.cell? ⟨pb', po' + j, none⟩ = some (.int .i64 (ahead m xj)) ∧ w'.cell? ⟨pb', po' + k, none⟩ = some (.int .i64 (ahead m xk))) := hid fun w' hb => ⟨bc hb tj, bc hb tk, bc hb pj, bc hb pk⟩
                  by_cases hle : xj ≤ xk
                  · have hng : ¬ (ahead m xk < ahead m xj) := by have := hmono hle; omega
                    clear hmono tj tk pj pk
                    go_wp2_with fail
                    refine wp_region_each (Inv := fun w' => Below wr.heap.size wr w') (Po := posts [IsV (.slice (some ⟨tb', to', none⟩) tops.length r2c), IsV (.int .i64 (j : Int)), IsV (.pointer (some ⟨tb', to' + j, none⟩)), IsV (.int .i64 xj), IsV (.slice (some ⟨tb', to', none⟩) tops.length r2c), IsV (.int .i64 (k : Int)), IsV (.pointer (some ⟨tb', to' + k, none⟩)), IsV (.int .i64 xk), IsV (.bool true), IsV (.bool true), IsV (.slice (some ⟨pb', po', none⟩) tops.length pc), IsV (.int .i64 (j : Int)), IsV (.pointer (some ⟨pb', po' + j, none⟩)), IsV (.int .i64 (ahead m xj)), IsV (.slice (some ⟨pb', po', none⟩) tops.length pc), IsV (.int .i64 (k : Int)), IsV (.pointer (some ⟨pb', po' + k, none⟩)), IsV (.int .i64 (ahead m xk)), IsV (.bool false), IsV (.bool false)]) (Rl := fun w w' => Below w.heap.size w w') (by kernel_rfl) (by kernel_rfl) (by kernel_rfl) ((Below.refl _ _).drew) ?_ ?_ ?_ ?_
                    · refine posts_stay fun R hR => ?_
                      simp only [List.mem_cons, List.not_mem_nil, or_false] at hR
                      rcases hR with rfl | rfl | rfl | rfl | rfl | rfl | rfl | rfl | rfl | rfl | rfl | rfl | rfl | rfl | rfl | rfl | rfl | rfl | rfl | rfl <;> first | exact stays_V _ | exact stays_any | exact stays_B _ | exact stays_Tm _ | exact stays_Tms _ | exact stays_Cs _ | exact stays_Ns _ | exact stays_Bs _ | exact stays_Hp _ | exact stays_OC _ _ | exact stays_ON _ _
                    · exact fun w1 w2 h h' => h.trans (h'.mono h.size)
                    · intro i o ho f ac ww hinv hpo hdst hold
                      match i, ho with
                        | 0, ho =>
                          obtain rfl : _ = o := Option.some.inj ho
                          have t2 := hold 2 (by kernel_rfl)
                          refine Or.inl ⟨want0 rfl, ?_⟩
                          clear hdst hpo hold ho
                          clear hinv
                          unfold Ans
                          go_simp
                          exact ⟨rfl, Below.refl _ _⟩
                        | 1, ho =>
                          obtain rfl : _ = o := Option.some.inj ho
                          have t22 := hold 22 (by kernel_rfl)
                          refine Or.inl ⟨want0 rfl, ?_⟩
                          clear hdst hpo hold ho
                          clear hinv
                          unfold Ans
                          go_simp
                          exact ⟨rfl, Below.refl _ _⟩
                        | 2, ho =>
                          obtain rfl : _ = o := Option.some.inj ho
                          have t108 : ac.tmps[108]? = some (f 0) := hdst 0 108 (by kernel_rfl) (by kernel_rfl)
                          have p0 : (IsV (.slice (some ⟨tb', to', none⟩) tops.length r2c)) (f 0) ww := hpo 0 (by kernel_rfl)
                          have t109 : ac.tmps[109]? = some (f 1) := hdst 1 109 (by kernel_rfl) (by kernel_rfl)
                          have p1 : (IsV (.int .i64 (j : Int))) (f 1) ww := hpo 1 (by kernel_rfl)
                          refine Or.inl ⟨want0 rfl, ?_⟩
                          clear hdst hpo hold ho
                          rw [show f 0 = _ from p0] at t108
                          rw [show f 1 = _ from p1] at t109
                          clear hinv
                          unfold Ans
                          go_simp
                          exact ⟨rfl, Below.refl _ _⟩
                        | 3, ho =>
                          obtain rfl : _ = o := Option.some.inj ho
                          have t110 : ac.tmps[110]? = some (f 2) := hdst 2 110 (by kernel_rfl) (by kernel_rfl)
                          have p2 : (IsV (.pointer (some ⟨tb', to' + j, none⟩))) (f 2) ww := hpo 2 (by kernel_rfl)
                          refine Or.inl ⟨want0 rfl, ?_⟩
                          clear hdst hpo hold ho
                          rw [show f 2 = _ from p2] at t110
                          obtain ⟨z0, z1, z2, z3⟩ := HA0.out ww hinv
                          unfold Ans
                          go_simp
                          exact ⟨rfl, Below.refl _ _⟩
                        | 4, ho =>
                          obtain rfl : _ = o := Option.some.inj ho
                          have t2 := hold 2 (by kernel_rfl)
                          refine Or.inl ⟨want0 rfl, ?_⟩
                          clear hdst hpo hold ho
                          clear hinv
                          unfold Ans
                          go_simp
                          exact ⟨rfl, Below.refl _ _⟩
                        | 5, ho =>
                          obtain rfl : _ = o := Option.some.inj ho
                          have t23 := hold 23 (by kernel_rfl)
                          refine Or.inl ⟨want0 rfl, ?_⟩
                          clear hdst hpo hold ho
                          clear hinv
                          unfold Ans
                          go_simp
                          exact ⟨rfl, Below.refl _ _⟩
                        | 6, ho =>
                          obtain rfl : _ = o := Option.some.inj ho
                          have t112 : ac.tmps[112]? = some (f 4) := hdst 4 112 (by kernel_rfl) (by kernel_rfl)
                          have p4 : (IsV (.slice (some ⟨tb', to', none⟩) tops.length r2c)) (f 4) ww := hpo 4 (by kernel_rfl)
                          have t113 : ac.tmps[113]? = some (f 5) := hdst 5 113 (by kernel_rfl) (by kernel_rfl)
                          have p5 : (IsV (.int .i64 (k : Int))) (f 5) ww := hpo 5 (by kernel_rfl)
                          refine Or.inl ⟨want0 rfl, ?_⟩
                          clear hdst hpo hold ho
                          rw [show f 4 = _ from p4] at t112
                          rw [show f 5 = _ from p5] at t113
                          clear hinv
                          unfold Ans
                          go_simp
                          exact ⟨rfl, Below.refl _ _⟩
                        | 7, ho =>
                          obtain rfl : _ = o := Option.some.inj ho
                          have t114 : ac.tmps[114]? = some (f 6) := hdst 6 114 (by kernel_rfl) (by kernel_rfl)
                          have p6 : (IsV (.pointer (some ⟨tb', to' + k, none⟩))) (f 6) ww := hpo 6 (by kernel_rfl)
                          refine Or.inl ⟨want0 rfl, ?_⟩
                          clear hdst hpo hold ho
                          rw [show f 6 = _ from p6] at t114
                          obtain ⟨z0, z1, z2, z3⟩ := HA0.out ww hinv
                          unfold Ans
                          go_simp
                          exact ⟨rfl, Below.refl _ _⟩
                        | 8, ho =>
                          obtain rfl : _ = o := Option.some.inj ho
                          have t111 : ac.tmps[111]? = some (f 3) := hdst 3 111 (by kernel_rfl) (by kernel_rfl)
                          have p3 : (IsV (.int .i64 xj)) (f 3) ww := hpo 3 (by kernel_rfl)
                          have t115 : ac.tmps[115]? = some (f 7) := hdst 7 115 (by kernel_rfl) (by kernel_rfl)
                          have p7 : (IsV (.int .i64 xk)) (f 7) ww := hpo 7 (by kernel_rfl)
                          refine Or.inl ⟨want0 rfl, ?_⟩
                          clear hdst hpo hold ho
                          rw [show f 3 = _ from p3] at t111
                          rw [show f 7 = _ from p7] at t115
                          clear hinv
                          unfold Ans
                          go_simp
                          exact ⟨by simp [posts, IsV, hle], Below.refl _ _⟩
                        | 9, ho =>
                          obtain rfl : _ = o := Option.some.inj ho
                          have t116 : ac.tmps[116]? = some (f 8) := hdst 8 116 (by kernel_rfl) (by kernel_rfl)
                          have p8 : (IsV (.bool true)) (f 8) ww := hpo 8 (by kernel_rfl)
                          refine Or.inl ⟨want0 rfl, ?_⟩
                          clear hdst hpo hold ho
                          rw [show f 8 = _ from p8] at t116
                          clear hinv
                          unfold Ans
                          go_simp
                          exact ⟨rfl, Below.refl _ _⟩
                        | 10, ho =>
                          obtain rfl : _ = o := Option.some.inj ho
                          have t117 : ac.tmps[117]? = some (f 9) := hdst 9 117 (by kernel_rfl) (by kernel_rfl)
                          have p9 : (IsV (.bool true)) (f 9) ww := hpo 9 (by kernel_rfl)
                          have t11 := hold 11 (by kernel_rfl)
                          have g9 := t117
                          rw [show f 9 = _ from p9] at g9
                          refine Or.inl ⟨want1 (g := 9) (s := 117) (b := true) (c := true) rfl (by kernel_rfl) g9, ?_⟩
                          clear t117 p9 g9
                          clear hdst hpo hold ho
                          clear hinv
                          unfold Ans
                          go_simp
                          exact ⟨rfl, Below.refl _ _⟩
                        | 11, ho =>
                          obtain rfl : _ = o := Option.some.inj ho
                          have t117 : ac.tmps[117]? = some (f 9) := hdst 9 117 (by kernel_rfl) (by kernel_rfl)
                          have p9 : (IsV (.bool true)) (f 9) ww := hpo 9 (by kernel_rfl)
                          have t22 := hold 22 (by kernel_rfl)
                          have g9 := t117
                          rw [show f 9 = _ from p9] at g9
                          refine Or.inl ⟨want1 (g := 9) (s := 117) (b := true) (c := true) rfl (by kernel_rfl) g9, ?_⟩
                          clear t117 p9 g9
                          clear hdst hpo hold ho
                          clear hinv
                          unfold Ans
                          go_simp
                          exact ⟨rfl, Below.refl _ _⟩
                        | 12, ho =>
                          obtain rfl : _ = o := Option.some.inj ho
                          have t118 : ac.tmps[118]? = some (f 10) := hdst 10 118 (by kernel_rfl) (by kernel_rfl)
                          have p10 : (IsV (.slice (some ⟨pb', po', none⟩) tops.length pc)) (f 10) ww := hpo 10 (by kernel_rfl)
                          have t119 : ac.tmps[119]? = some (f 11) := hdst 11 119 (by kernel_rfl) (by kernel_rfl)
                          have p11 : (IsV (.int .i64 (j : Int))) (f 11) ww := hpo 11 (by kernel_rfl)
                          have t117 : ac.tmps[117]? = some (f 9) := hdst 9 117 (by kernel_rfl) (by kernel_rfl)
                          have p9 : (IsV (.bool true)) (f 9) ww := hpo 9 (by kernel_rfl)
                          have g9 := t117
                          rw [show f 9 = _ from p9] at g9
                          refine Or.inl ⟨want1 (g := 9) (s := 117) (b := true) (c := true) rfl (by kernel_rfl) g9, ?_⟩
                          clear t117 p9 g9
                          clear hdst hpo hold ho
                          rw [show f 10 = _ from p10] at t118
                          rw [show f 11 = _ from p11] at t119
                          clear hinv
                          unfold Ans
                          go_simp
                          exact ⟨rfl, Below.refl _ _⟩
                        | 13, ho =>
                          obtain rfl : _ = o := Option.some.inj ho
                          have t120 : ac.tmps[120]? = some (f 12) := hdst 12 120 (by kernel_rfl) (by kernel_rfl)
                          have p12 : (IsV (.pointer (some ⟨pb', po' + j, none⟩))) (f 12) ww := hpo 12 (by kernel_rfl)
                          have t117 : ac.tmps[117]? = some (f 9) := hdst 9 117 (by kernel_rfl) (by kernel_rfl)
                          have p9 : (IsV (.bool true)) (f 9) ww := hpo 9 (by kernel_rfl)
                          have g9 := t117
                          rw [show f 9 = _ from p9] at g9
                          refine Or.inl ⟨want1 (g := 9) (s := 117) (b := true) (c := true) rfl (by kernel_rfl) g9, ?_⟩
                          clear t117 p9 g9
                          clear hdst hpo hold ho
                          rw [show f 12 = _ from p12] at t120
                          obtain ⟨z0, z1, z2, z3⟩ := HA0.out ww hinv
                          unfold Ans
                          go_simp
                          exact ⟨rfl, Below.refl _ _⟩
                        | 14, ho =>
                          obtain rfl : _ = o := Option.some.inj ho
                          have t117 : ac.tmps[117]? = some (f 9) := hdst 9 117 (by kernel_rfl) (by kernel_rfl)
                          have p9 : (IsV (.bool true)) (f 9) ww := hpo 9 (by kernel_rfl)
                          have t11 := hold 11 (by kernel_rfl)
                          have g9 := t117
                          rw [show f 9 = _ from p9] at g9
                          refine Or.inl ⟨want1 (g := 9) (s := 117) (b := true) (c := true) rfl (by kernel_rfl) g9, ?_⟩
                          clear t117 p9 g9
                          clear hdst hpo hold ho
                          clear hinv
                          unfold Ans
                          go_simp
                          exact ⟨rfl, Below.refl _ _⟩
                        | 15, ho =>
                          obtain rfl : _ = o := Option.some.inj ho
                          have t117 : ac.tmps[117]? = some (f 9) := hdst 9 117 (by kernel_rfl) (by kernel_rfl)
                          have p9 : (IsV (.bool true)) (f 9) ww := hpo 9 (by kernel_rfl)
                          have t23 := hold 23 (by kernel_rfl)
                          have g9 := t117
                          rw [show f 9 = _ from p9] at g9
                          refine Or.inl ⟨want1 (g := 9) (s := 117) (b := true) (c := true) rfl (by kernel_rfl) g9, ?_⟩
                          clear t117 p9 g9
                          clear hdst hpo hold ho
                          clear hinv
                          unfold Ans
                          go_simp
                          exact ⟨rfl, Below.refl _ _⟩
                        | 16, ho =>
                          obtain rfl : _ = o := Option.some.inj ho
                          have t122 : ac.tmps[122]? = some (f 14) := hdst 14 122 (by kernel_rfl) (by kernel_rfl)
                          have p14 : (IsV (.slice (some ⟨pb', po', none⟩) tops.length pc)) (f 14) ww := hpo 14 (by kernel_rfl)
                          have t123 : ac.tmps[123]? = some (f 15) := hdst 15 123 (by kernel_rfl) (by kernel_rfl)
                          have p15 : (IsV (.int .i64 (k : Int))) (f 15) ww := hpo 15 (by kernel_rfl)
                          have t117 : ac.tmps[117]? = some (f 9) := hdst 9 117 (by kernel_rfl) (by kernel_rfl)
                          have p9 : (IsV (.bool true)) (f 9) ww := hpo 9 (by kernel_rfl)
                          have g9 := t117
                          rw [show f 9 = _ from p9] at g9
                          refine Or.inl ⟨want1 (g := 9) (s := 117) (b := true) (c := true) rfl (by kernel_rfl) g9, ?_⟩
                          clear t117 p9 g9
                          clear hdst hpo hold ho
                          rw [show f 14 = _ from p14] at t122
                          rw [show f 15 = _ from p15] at t123
                          clear hinv
                          unfold Ans
                          go_simp
                          exact ⟨rfl, Below.refl _ _⟩
                        | 17, ho =>
                          obtain rfl : _ = o := Option.some.inj ho
                          have t124 : ac.tmps[124]? = some (f 16) := hdst 16 124 (by kernel_rfl) (by kernel_rfl)
                          have p16 : (IsV (.pointer (some ⟨pb', po' + k, none⟩))) (f 16) ww := hpo 16 (by kernel_rfl)
                          have t117 : ac.tmps[117]? = some (f 9) := hdst 9 117 (by kernel_rfl) (by kernel_rfl)
                          have p9 : (IsV (.bool true)) (f 9) ww := hpo 9 (by kernel_rfl)
                          have g9 := t117
                          rw [show f 9 = _ from p9] at g9
                          refine Or.inl ⟨want1 (g := 9) (s := 117) (b := true) (c := true) rfl (by kernel_rfl) g9, ?_⟩
                          clear t117 p9 g9
                          clear hdst hpo hold ho
                          rw [show f 16 = _ from p16] at t124
                          obtain ⟨z0, z1, z2, z3⟩ := HA0.out ww hinv
                          unfold Ans
                          go_simp
                          exact ⟨rfl, Below.refl _ _⟩
                        | 18, ho =>
                          obtain rfl : _ = o := Option.some.inj ho
                          have t121 : ac.tmps[121]? = some (f 13) := hdst 13 121 (by kernel_rfl) (by kernel_rfl)
                          have p13 : (IsV (.int .i64 (ahead m xj))) (f 13) ww := hpo 13 (by kernel_rfl)
                          have t125 : ac.tmps[125]? = some (f 17) := hdst 17 125 (by kernel_rfl) (by kernel_rfl)
                          have p17 : (IsV (.int .i64 (ahead m xk))) (f 17) ww := hpo 17 (by kernel_rfl)
                          have t117 : ac.tmps[117]? = some (f 9) := hdst 9 117 (by kernel_rfl) (by kernel_rfl)
                          have p9 : (IsV (.bool true)) (f 9) ww := hpo 9 (by kernel_rfl)
                          have g9 := t117
                          rw [show f 9 = _ from p9] at g9
                          refine Or.inl ⟨want1 (g := 9) (s := 117) (b := true) (c := true) rfl (by kernel_rfl) g9, ?_⟩
                          clear t117 p9 g9
                          clear hdst hpo hold ho
                          rw [show f 13 = _ from p13] at t121
                          rw [show f 17 = _ from p17] at t125
                          clear hinv
                          unfold Ans
                          go_simp
                          exact ⟨by simp [posts, IsV, hng]; try omega, Below.refl _ _⟩
                        | 19, ho =>
                          obtain rfl : _ = o := Option.some.inj ho
                          have t117 : ac.tmps[117]? = some (f 9) := hdst 9 117 (by kernel_rfl) (by kernel_rfl)
                          have p9 : (IsV (.bool true)) (f 9) ww := hpo 9 (by kernel_rfl)
                          have t126 : ac.tmps[126]? = some (f 18) := hdst 18 126 (by kernel_rfl) (by kernel_rfl)
                          have p18 : (IsV (.bool false)) (f 18) ww := hpo 18 (by kernel_rfl)
                          refine Or.inl ⟨want0 rfl, ?_⟩
                          clear hdst hpo hold ho
                          rw [show f 9 = _ from p9] at t117
                          rw [show f 18 = _ from p18] at t126
                          clear hinv
                          unfold Ans
                          go_simp
                          exact ⟨rfl, Below.refl _ _⟩
                        | i + 20, ho => simp at ho
                    · intro f ww hinv hpo
                      have p19 : (IsV (.bool false)) (f 19) ww := hpo 19 (by decide)
                      simp only [fillT, List.setIfInBounds_toArray, List.set_cons_succ, List.set_cons_zero]
                      rw [show f 19 = _ from p19]
                      have HIV := hid hinv
                      clear hinv hpo p19
                      go_wp2_with fail
                      go_roundw
                      case rel => exact ⟨k + 1, by omega, by go_num, KB.out.trans (HIV.out.mono KB.out.size), SlR.keeps numR_lasts KT.out (Keeps.of_below HIV.out), SlR.keeps numR_lasts KP.out (Keeps.of_below HIV.out)⟩
                      case measure => first | (simp [intOf]; done) | (simp [intOf]; omega)
                  · clear hmono tj tk pj pk
                    go_wp2_with fail
                    refine wp_region_each (Inv := fun w' => Below wr.heap.size wr w') (Po := posts [IsV (.slice (some ⟨tb', to', none⟩) tops.length r2c), IsV (.int .i64 (j : Int)), IsV (.pointer (some ⟨tb', to' + j, none⟩)), IsV (.int .i64 xj), IsV (.slice (some ⟨tb', to', none⟩) tops.length r2c), IsV (.int .i64 (k : Int)), IsV (.pointer (some ⟨tb', to' + k, none⟩)), IsV (.int .i64 xk), IsV (.bool false), IsV (.bool false), IsAny, IsAny, IsAny, IsAny, IsAny, IsAny, IsAny, IsAny, IsAny, IsV (.bool false)]) (Rl := fun w w' => Below w.heap.size w w') (by kernel_rfl) (by kernel_rfl) (by kernel_rfl) ((Below.refl _ _).drew) ?_ ?_ ?_ ?_
                    · refine posts_stay fun R hR => ?_
                      simp only [List.mem_cons, List.not_mem_nil, or_false] at hR
                      rcases hR with rfl | rfl | rfl | rfl | rfl | rfl | rfl | rfl | rfl | rfl | rfl | rfl | rfl | rfl | rfl | rfl | rfl | rfl | rfl | rfl <;> first | exact stays_V _ | exact stays_any | exact stays_B _ | exact stays_Tm _ | exact stays_Tms _ | exact stays_Cs _ | exact stays_Ns _ | exact stays_Bs _ | exact stays_Hp _ | exact stays_OC _ _ | exact stays_ON _ _
                    · exact fun w1 w2 h h' => h.trans (h'.mono h.size)
                    · intro i o ho f ac ww hinv hpo hdst hold
                      match i, ho with
                        | 0, ho =>
                          obtain rfl : _ = o := Option.some.inj ho
                          have t2 := hold 2 (by kernel_rfl)
                          refine Or.inl ⟨want0 rfl, ?_⟩
                          clear hdst hpo hold ho
                          clear hinv
                          unfold Ans
                          go_simp
                          exact ⟨rfl, Below.refl _ _⟩
                        | 1, ho =>
                          obtain rfl : _ = o := Option.some.inj ho
                          have t22 := hold 22 (by kernel_rfl)
                          refine Or.inl ⟨want0 rfl, ?_⟩
                          clear hdst hpo hold ho
                          clear hinv
                          unfold Ans
                          go_simp
                          exact ⟨rfl, Below.refl _ _⟩
                        | 2, ho =>
                          obtain rfl : _ = o := Option.some.inj ho
                          have t108 : ac.tmps[108]? = some (f 0) := hdst 0 108 (by kernel_rfl) (by kernel_rfl)
                          have p0 : (IsV (.slice (some ⟨tb', to', none⟩) tops.length r2c)) (f 0) ww := hpo 0 (by kernel_rfl)
                          have t109 : ac.tmps[109]? = some (f 1) := hdst 1 109 (by kernel_rfl) (by kernel_rfl)
                          have p1 : (IsV (.int .i64 (j : Int))) (f 1) ww := hpo 1 (by kernel_rfl)
                          refine Or.inl ⟨want0 rfl, ?_⟩
                          clear hdst hpo hold ho
                          rw [show f 0 = _ from p0] at t108
                          rw [show f 1 = _ from p1] at t109
                          clear hinv
                          unfold Ans
                          go_simp
                          exact ⟨rfl, Below.refl _ _⟩
                        | 3, ho =>
                          obtain rfl : _ = o := Option.some.inj ho
                          have t110 : ac.tmps[110]? = some (f 2) := hdst 2 110 (by kernel_rfl) (by kernel_rfl)
                          have p2 : (IsV (.pointer (some ⟨tb', to' + j, none⟩))) (f 2) ww := hpo 2 (by kernel_rfl)
                          refine Or.inl ⟨want0 rfl, ?_⟩
                          clear hdst hpo hold ho
                          rw [show f 2 = _ from p2] at t110
                          obtain ⟨z0, z1, z2, z3⟩ := HA0.out ww hinv
                          unfold Ans
                          go_simp
                          exact ⟨rfl, Below.refl _ _⟩
                        | 4, ho =>
                          obtain rfl : _ = o := Option.some.inj ho
                          have t2 := hold 2 (by kernel_rfl)
                          refine Or.inl ⟨want0 rfl, ?_⟩
                          clear hdst hpo hold ho
                          clear hinv
                          unfold Ans
                          go_simp
                          exact ⟨rfl, Below.refl _ _⟩
                        | 5, ho =>
                          obtain rfl : _ = o := Option.some.inj ho
                          have t23 := hold 23 (by kernel_rfl)
                          refine Or.inl ⟨want0 rfl, ?_⟩
                          clear hdst hpo hold ho
                          clear hinv
                          unfold Ans
                          go_simp
                          exact ⟨rfl, Below.refl _ _⟩
                        | 6, ho =>
                          obtain rfl : _ = o := Option.some.inj ho
                          have t112 : ac.tmps[112]? = some (f 4) := hdst 4 112 (by kernel_rfl) (by kernel_rfl)
                          have p4 : (IsV (.slice (some ⟨tb', to', none⟩) tops.length r2c)) (f 4) ww := hpo 4 (by kernel_rfl)
                          have t113 : ac.tmps[113]? = some (f 5) := hdst 5 113 (by kernel_rfl) (by kernel_rfl)
                          have p5 : (IsV (.int .i64 (k : Int))) (f 5) ww := hpo 5 (by kernel_rfl)
                          refine Or.inl ⟨want0 rfl, ?_⟩
                          clear hdst hpo hold ho
                          rw [show f 4 = _ from p4] at t112
                          rw [show f 5 = _ from p5] at t113
                          clear hinv
                          unfold Ans
                          go_simp
                          exact ⟨rfl, Below.refl _ _⟩
                        | 7, ho =>
                          obtain rfl : _ = o := Option.some.inj ho
                          have t114 : ac.tmps[114]? = some (f 6) := hdst 6 114 (by kernel_rfl) (by kernel_rfl)
                          have p6 : (IsV (.pointer (some ⟨tb', to' + k, none⟩))) (f 6) ww := hpo 6 (by kernel_rfl)
                          refine Or.inl ⟨want0 rfl, ?_⟩
                          clear hdst hpo hold ho
                          rw [show f 6 = _ from p6] at t114
                          obtain ⟨z0, z1, z2, z3⟩ := HA0.out ww hinv
                          unfold Ans
                          go_simp
                          exact ⟨rfl, Below.refl _ _⟩
                        | 8, ho =>
                          obtain rfl : _ = o := Option.some.inj ho
                          have t111 : ac.tmps[111]? = some (f 3) := hdst 3 111 (by kernel_rfl) (by kernel_rfl)
                          have p3 : (IsV (.int .i64 xj)) (f 3) ww := hpo 3 (by kernel_rfl)
                          have t115 : ac.tmps[115]? = some (f 7) := hdst 7 115 (by kernel_rfl) (by kernel_rfl)
                          have p7 : (IsV (.int .i64 xk)) (f 7) ww := hpo 7 (by kernel_rfl)
                          refine Or.inl ⟨want0 rfl, ?_⟩
                          clear hdst hpo hold ho
                          rw [show f 3 = _ from p3] at t111
                          rw [show f 7 = _ from p7] at t115
                          clear hinv
                          unfold Ans
                          go_simp
                          exact ⟨by simp [posts, IsV, hle], Below.refl _ _⟩
                        | 9, ho =>
                          obtain rfl : _ = o := Option.some.inj ho
                          have t116 : ac.tmps[116]? = some (f 8) := hdst 8 116 (by kernel_rfl) (by kernel_rfl)
                          have p8 : (IsV (.bool false)) (f 8) ww := hpo 8 (by kernel_rfl)
                          refine Or.inl ⟨want0 rfl, ?_⟩
                          clear hdst hpo hold ho
                          rw [show f 8 = _ from p8] at t116
                          clear hinv
                          unfold Ans
                          go_simp
                          exact ⟨rfl, Below.refl _ _⟩
                        | 10, ho =>
                          obtain rfl : _ = o := Option.some.inj ho
                          have t117 : ac.tmps[117]? = some (f 9) := hdst 9 117 (by kernel_rfl) (by kernel_rfl)
                          have p9 : (IsV (.bool false)) (f 9) ww := hpo 9 (by kernel_rfl)
                          have g9 := t117
                          rw [show f 9 = _ from p9] at g9
                          exact Or.inr ⟨want1 (g := 9) (s := 117) (b := true) (c := false) rfl (by kernel_rfl) g9, trivial, Below.refl _ _⟩
                        | 11, ho =>
                          obtain rfl : _ = o := Option.some.inj ho
                          have t117 : ac.tmps[117]? = some (f 9) := hdst 9 117 (by kernel_rfl) (by kernel_rfl)
                          have p9 : (IsV (.bool false)) (f 9) ww := hpo 9 (by kernel_rfl)
                          have g9 := t117
                          rw [show f 9 = _ from p9] at g9
                          exact Or.inr ⟨want1 (g := 9) (s := 117) (b := true) (c := false) rfl (by kernel_rfl) g9, trivial, Below.refl _ _⟩
                        | 12, ho =>
                          obtain rfl : _ = o := Option.some.inj ho
                          have t117 : ac.tmps[117]? = some (f 9) := hdst 9 117 (by kernel_rfl) (by kernel_rfl)
                          have p9 : (IsV (.bool false)) (f 9) ww := hpo 9 (by kernel_rfl)
                          have g9 := t117
                          rw [show f 9 = _ from p9] at g9
                          exact Or.inr ⟨want1 (g := 9) (s := 117) (b := true) (c := false) rfl (by kernel_rfl) g9, trivial, Below.refl _ _⟩
                        | 13, ho =>
                          obtain rfl : _ = o := Option.some.inj ho
                          have t117 : ac.tmps[117]? = some (f 9) := hdst 9 117 (by kernel_rfl) (by kernel_rfl)
                          have p9 : (IsV (.bool false)) (f 9) ww := hpo 9 (by kernel_rfl)
                          have g9 := t117
                          rw [show f 9 = _ from p9] at g9
                          exact Or.inr ⟨want1 (g := 9) (s := 117) (b := true) (c := false) rfl (by kernel_rfl) g9, trivial, Below.refl _ _⟩
                        | 14, ho =>
                          obtain rfl : _ = o := Option.some.inj ho
                          have t117 : ac.tmps[117]? = some (f 9) := hdst 9 117 (by kernel_rfl) (by kernel_rfl)
                          have p9 : (IsV (.bool false)) (f 9) ww := hpo 9 (by kernel_rfl)
                          have g9 := t117
                          rw [show f 9 = _ from p9] at g9
                          exact Or.inr ⟨want1 (g := 9) (s := 117) (b := true) (c := false) rfl (by kernel_rfl) g9, trivial, Below.refl _ _⟩
                        | 15, ho =>
                          obtain rfl : _ = o := Option.some.inj ho
                          have t117 : ac.tmps[117]? = some (f 9) := hdst 9 117 (by kernel_rfl) (by kernel_rfl)
                          have p9 : (IsV (.bool false)) (f 9) ww := hpo 9 (by kernel_rfl)
                          have g9 := t117
                          rw [show f 9 = _ from p9] at g9
                          exact Or.inr ⟨want1 (g := 9) (s := 117) (b := true) (c := false) rfl (by kernel_rfl) g9, trivial, Below.refl _ _⟩
                        | 16, ho =>
                          obtain rfl : _ = o := Option.some.inj ho
                          have t117 : ac.tmps[117]? = some (f 9) := hdst 9 117 (by kernel_rfl) (by kernel_rfl)
                          have p9 : (IsV (.bool false)) (f 9) ww := hpo 9 (by kernel_rfl)
                          have g9 := t117
                          rw [show f 9 = _ from p9] at g9
                          exact Or.inr ⟨want1 (g := 9) (s := 117) (b := true) (c := false) rfl (by kernel_rfl) g9, trivial, Below.refl _ _⟩
                        | 17, ho =>
                          obtain rfl : _ = o := Option.some.inj ho
                          have t117 : ac.tmps[117]? = some (f 9) := hdst 9 117 (by kernel_rfl) (by kernel_rfl)
                          have p9 : (IsV (.bool false)) (f 9) ww := hpo 9 (by kernel_rfl)
                          have g9 := t117
                          rw [show f 9 = _ from p9] at g9
                          exact Or.inr ⟨want1 (g := 9) (s := 117) (b := true) (c := false) rfl (by kernel_rfl) g9, trivial, Below.refl _ _⟩
                        | 18, ho =>
                          obtain rfl : _ = o := Option.some.inj ho
                          have t117 : ac.tmps[117]? = some (f 9) := hdst 9 117 (by kernel_rfl) (by kernel_rfl)
                          have p9 : (IsV (.bool false)) (f 9) ww := hpo 9 (by kernel_rfl)
                          have g9 := t117
                          rw [show f 9 = _ from p9] at g9
                          exact Or.inr ⟨want1 (g := 9) (s := 117) (b := true) (c := false) rfl (by kernel_rfl) g9, trivial, Below.refl _ _⟩
                        | 19, ho =>
                          obtain rfl : _ = o := Option.some.inj ho
                          have t117 : ac.tmps[117]? = some (f 9) := hdst 9 117 (by kernel_rfl) (by kernel_rfl)
                          have p9 : (IsV (.bool false)) (f 9) ww := hpo 9 (by kernel_rfl)
                          have t126 : ac.tmps[126]? = some (f 18) := hdst 18 126 (by kernel_rfl) (by kernel_rfl)
                          have p18 : (IsAny) (f 18) ww := hpo 18 (by kernel_rfl)
                          refine Or.inl ⟨want0 rfl, ?_⟩
                          clear hdst hpo hold ho
                          rw [show f 9 = _ from p9] at t117
                          clear hinv
                          unfold Ans
                          go_simp
                          exact ⟨rfl, Below.refl _ _⟩
                        | i + 20, ho => simp at ho
                    · intro f ww hinv hpo
                      have p19 : (IsV (.bool false)) (f 19) ww := hpo 19 (by decide)
                      simp only [fillT, List.setIfInBounds_toArray, List.set_cons_succ, List.set_cons_zero]
                      rw [show f 19 = _ from p19]
                      have HIV := hid hinv
                      clear hinv hpo p19
                      go_wp2_with fail
                      go_roundw
                      case rel => exact ⟨k + 1, by omega, by go_num, KB.out.trans (HIV.out.mono KB.out.size), SlR.keeps numR_lasts KT.out (Keeps.of_below HIV.out), SlR.keeps numR_lasts KP.out (Keeps.of_below HIV.out)⟩
                      case measure => first | (simp [intOf]; done) | (simp [intOf]; omega)
                · have hlk' : ¬ (k : Int) < (tops.length : Int) := by omega
                  clear kb kt kp
                  go_wp2_with fail
                  go_roundw
                  case rel => exact ⟨j + 1, by omega, by go_num, KB.out, KT.out, KP.out⟩
                  case measure => first | (simp [intOf]; done) | (simp [intOf]; omega)
            · have hlt' : ¬ (j : Int) < (tops.length : Int) := by omega
              go_wp2_with fail
              go_ret
              exact ⟨_, rfl, JB.out, rfl⟩
end Go.Proofs.Ytlpmfkpefoegeaa
