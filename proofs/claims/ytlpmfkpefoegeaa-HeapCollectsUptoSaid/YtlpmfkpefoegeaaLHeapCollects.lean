/-
  The walk of queristlaw.HeapCollects.
-/
import Derived.Test.YtlpmfkpefoegeaaQFront2
import Derived.Test.YtlpmfkpefoegeaaQCollectAll
import Derived.Test.YtlpmfkpefoegeaaQMarks
import Derived.Test.YtlpmfkpefoegeaaQCopyHeap
import Derived.Test.YtlpmfkpefoegeaaQHeaps
import Derived.Test.YtlpmfkpefoegeaaQSameHeap
import Derived.Test.YtlpmfkpefoegeaaQSameN
namespace Go.Proofs.Ytlpmfkpefoegeaa
set_option linter.unusedVariables false
set_option linter.unusedSimpArgs false
open Go.RowKit

def IsBox (base : Nat) (E : TypeId) (z : Array Value) : Value → World → Prop := fun v w => ∃ g, v = .pointer (some ⟨g, 0, none⟩) ∧ base ≤ g ∧ w.heap[g]? = some (.cells z E (0, 0))
theorem stays_Box (base : Nat) (E : TypeId) (z : Array Value) : Stays (IsBox base E z) := fun v w w' ⟨g, e, h1, h2⟩ hb => ⟨g, e, h1, blk_below h2 hb⟩
def IsCl (x : Coll) : Value → World → Prop := fun v w => ColPost (fun _ => True) x v w
theorem stays_Cl (x : Coll) : Stays (IsCl x) := fun v w w' ⟨us, a, b, c, e, h1, h2, h3, h4⟩ hb => ⟨us, a, b, c, e, Hp.rep.below h1 hb, SlR.keeps numR_lasts h2 (Keeps.of_below hb), SlR.keeps numR_lasts h3 (Keeps.of_below hb), SlR.keeps numR_lasts h4 (Keeps.of_below hb)⟩
theorem ColPost.mono {A : Nat → Prop} {x : Coll} {r : Value} {w : World} (h : ColPost A x r w) : ColPost (fun _ => True) x r w := by
  obtain ⟨us, a, b, c, e, h1, h2, h3, h4⟩ := h
  exact ⟨us, a, b, c, e, Hp.rep.mono h1 (fun _ _ _ => trivial), SlR.mono numR_lasts (by omega) h2 (fun _ _ _ => trivial), SlR.mono numR_lasts (by omega) h3 (fun _ _ _ => trivial), SlR.mono numR_lasts (by omega) h4 (fun _ _ _ => trivial)⟩

theorem bool_cell {A : Nat → Prop} {w wr : World} {l : List Bool} {b off : Nat} (he : Elems A w 1 boolR l b off) (hA : A b) (hk : Keeps A w wr) {k : Nat} (hlt : k < l.length) :
    wr.cell? ⟨b, off + k, none⟩ = some (.bool l[k]) := by
  obtain ⟨vs, hvl, ⟨h1, rfl⟩, hrow⟩ := he k _ (List.getElem?_eq_getElem hlt)
  have := (RowAt.keeps hA hrow hk) 0 _ rfl
  simpa using this

/-- numbers do not lie in a box of other things -/
theorem NumsR.off {A : Nat → Prop} {w : World} {l : List Int} {v : Value} {g : Nat} {c : Array Value} {E : TypeId} (h : NumsR A w l v) (hg : w.heap[g]? = some (.cells c E (0, 0))) (hc : ∀ (j : Nat) (n : Int), c[j]? ≠ some (.int .i64 n)) :
    NumsR (fun b => A b ∧ b ≠ g) w l v := by
  obtain ⟨b, off, hs, he⟩ := h
  refine ⟨b, off, ?_, fun i x hx => ?_⟩
  · by_cases hx : l = []
    · obtain ⟨h1, h2 | ⟨h2, _⟩⟩ := hs
      · exact ⟨h1, .inl h2⟩
      · subst hx; simp at h2
    · refine hs.mono (fun hA => ⟨hA, fun e => ?_⟩)
      obtain ⟨x, xs, rfl⟩ := List.exists_cons_of_ne_nil hx
      obtain ⟨vs, hvl, ⟨h1, rfl⟩, hrow⟩ := he 0 x rfl
      have h2 := hrow 0 _ rfl
      rw [e, blk_cell hg] at h2
      exact hc _ _ h2
  · obtain ⟨vs, hl, hr, hrow⟩ := he i x hx
    exact ⟨vs, hl, hr, hrow⟩

theorem CesR.off {A : Nat → Prop} {w : World} {l : List Ce} {v : Value} {g : Nat} {c : Array Value} {E : TypeId} (h : CesR A w l v) (hg : w.heap[g]? = some (.cells c E (0, 0))) (hc : ∀ (j : Nat) (n : Int), c[j]? ≠ some (.int .i64 n)) :
    CesR (fun b => A b ∧ b ≠ g) w l v := by
  obtain ⟨b, off, hs, he⟩ := h
  refine ⟨b, off, ?_, fun i x hx => ?_⟩
  · by_cases hx : l = []
    · obtain ⟨h1, h2 | ⟨h2, _⟩⟩ := hs
      · exact ⟨h1, .inl h2⟩
      · subst hx; simp at h2
    · refine hs.mono (fun hA => ⟨hA, fun e => ?_⟩)
      obtain ⟨x, xs, rfl⟩ := List.exists_cons_of_ne_nil hx
      obtain ⟨vs, hvl, ⟨h1, rfl⟩, hrow⟩ := he 0 x rfl
      have h2 := hrow 0 _ rfl
      rw [e, blk_cell hg] at h2
      exact hc _ _ h2
  · obtain ⟨vs, hl, ⟨h1, rfl⟩, hrow⟩ := he i x hx
    exact ⟨_, hl, ⟨h1, rfl⟩, hrow⟩

theorem box_no_int (j : Nat) (n : Int) : (#[.slice none 0 0, .slice none 0 0] : Array Value)[j]? ≠ some (.int .i64 n) := by
  match j with
  | 0 => simp
  | 1 => simp
  | j + 2 => simp

theorem Hp.off {A : Nat → Prop} {w : World} {h : Hp} {us : List Value} {g : Nat} {c : Array Value} {E : TypeId} (hh : Hp.rep A w h us) (hg : w.heap[g]? = some (.cells c E (0, 0))) (hc : ∀ (j : Nat) (n : Int), c[j]? ≠ some (.int .i64 n)) :
    Hp.rep (fun b => A b ∧ b ≠ g) w h us := by
  obtain ⟨a, t, rfl, h1, h2⟩ := hh
  exact ⟨a, t, rfl, CesR.off h1 hg hc, NumsR.off h2 hg hc⟩

set_option maxRecDepth 100000 in
set_option maxHeartbeats 4000000 in
theorem heapCollects_walk (h : Hp) (roots tops mks : List Int) (w : World) (vs : List Value) (v1 v2 v3 : Value) (hh : Hp.rep (fun _ => True) w h vs) (hr1 : NumsR (fun _ => True) w roots v1) (hr2 : NumsR (fun _ => True) w tops v2) (hr3 : NumsR (fun _ => True) w mks v3) :
    Calls Try.prog 12 #[.agg vs.toArray, v1, v2, v3] w (Pure w (fun r _ => r = .bool true)) := by
  obtain ⟨va, cap, vb, tap, rfl, hc1, hc2, hc3, ht1, ht2, ht3, -⟩ := Hp.rep2 hh
  obtain ⟨pa, pc, -, -, rfl, -, -, hl1, -⟩ := hr1.at
  obtain ⟨ra, rc, -, -, rfl, -, -, hl2, -⟩ := hr2.at
  obtain ⟨sa, sc, -, -, rfl, -, -, hl3, -⟩ := hr3.at
  have HMK := hid (fun (W : World) (us : List Value) (v : Value) (k1 : Hp.rep (fun _ => True) W h us) (k2 : NumsR (fun _ => True) W roots v) => marks_ok h roots (fun _ => True) W us v k1 k2)
  have HMO := hid (fun (W : World) (us : List Value) (v : Value) (k1 : Hp.rep (fun _ => True) W h us) (k2 : NumsR (fun _ => True) W roots v) => marksOf_ok h roots (fun _ => True) W us v k1 k2)
  have HCO := hid (fun (W : World) (us : List Value) (u v x : Value) (k1 : Hp.rep (fun _ => True) W h us) (k2 : NumsR (fun _ => True) W roots u) (k3 : NumsR (fun _ => True) W tops v) (k4 : NumsR (fun _ => True) W mks x) => collect_ok h roots tops mks (fun _ => True) W us u v x k1 k2 k3 k4)
  have HCA := hid (fun (W : World) (us : List Value) (u v x : Value) (k1 : Hp.rep (fun _ => True) W h us) (k2 : NumsR (fun _ => True) W roots u) (k3 : NumsR (fun _ => True) W tops v) (k4 : NumsR (fun _ => True) W mks x) => collectAll_ok h roots tops mks (fun _ => True) W us u v x k1 k2 k3 k4)
  have hml : (marksF h roots).1.length ≤ 65536 := by
    by_cases hg : h.Good
    · rw [show marksF h roots = (marks h.cells roots, 0) by rw [marksF, if_pos hg], marks_len]
      exact hg.2.2.1
    · rw [show marksF h roots = ([], 1) by rw [marksF, if_neg hg]]
      simp
  generalize marksF h roots = mf at HMK HMO hml
  obtain ⟨mk, me⟩ := mf
  simp only at hml
  generalize collectF h roots tops mks = cf at HCO HCA
  obtain ⟨ch, cr, ct, cm, ce⟩ := cf
  have HH := hid (hh)
  have HR := hid (hr1)
  have HT := hid (hr2)
  have HM := hid (hr3)
  clear hh hr1 hr2 hr3
  go_enter Try.func12, Try.ntmps12
  go_wp2_with fail
  have HHa1 := hid (Hp.rep.keeps HH.out (Keeps.alloc _ _ (.cells #[.slice va h.cells.length cap, .slice vb h.trail.length tap] 38)))
  have HRa1 := hid (SlR.keeps numR_lasts HR.out (Keeps.alloc _ _ (.cells #[.slice va h.cells.length cap, .slice vb h.trail.length tap] 38)))
  have HTa1 := hid (SlR.keeps numR_lasts HT.out (Keeps.alloc _ _ (.cells #[.slice va h.cells.length cap, .slice vb h.trail.length tap] 38)))
  have HMa1 := hid (SlR.keeps numR_lasts HM.out (Keeps.alloc _ _ (.cells #[.slice va h.cells.length cap, .slice vb h.trail.length tap] 38)))
  have HXn1 := hid (blk_new w (.cells #[.slice va h.cells.length cap, .slice vb h.trail.length tap] 38))
  have HBa1 := hid ((Below.refl _ w).alloc (Nat.le_refl _) (.cells #[.slice va h.cells.length cap, .slice vb h.trail.length tap] 38))
  have hsz1 : w.heap.size < (w.alloc (.cells #[.slice va h.cells.length cap, .slice vb h.trail.length tap] 38)).heap.size := by simp
  generalize w.alloc (.cells #[.slice va h.cells.length cap, .slice vb h.trail.length tap] 38) = w1 at HXn1 HHa1 HRa1 HTa1 HMa1 HBa1 hsz1 ⊢
  obtain ⟨x0a, x0b, x0z⟩ := box2 HXn1.out
  have hz0 := blk_lt HXn1.out
  refine (copyHeap_ok h (fun _ => True) _ [_, _] HHa1.out).mono ?_
  rintro e w2 ⟨v, rfl, hb2, us, rfl, hown⟩
  have hrc := hown.rep (A := fun _ => True) hc3 ht3 (fun _ _ => trivial)
  obtain ⟨ca, cc, ta, tc, rfl, -⟩ := Hp.rep2 hrc
  clear x0a x0b x0z hz0
  have HXn1c2 := hid (blk_below HXn1.out hb2)
  have HHa1c2 := hid (Hp.rep.keeps HHa1.out (Keeps.of_below hb2))
  have HRa1c2 := hid (SlR.keeps numR_lasts HRa1.out (Keeps.of_below hb2))
  have HTa1c2 := hid (SlR.keeps numR_lasts HTa1.out (Keeps.of_below hb2))
  have HMa1c2 := hid (SlR.keeps numR_lasts HMa1.out (Keeps.of_below hb2))
  have HBc2 := hid (HBa1.out.trans (hb2.mono HBa1.out.size))
  have hzz2 := hb2.size
  clear hb2
  obtain ⟨x0a, x0b, x0z⟩ := box2 HXn1c2.out
  have hz0 := blk_lt HXn1c2.out
  have HRC := hid (hrc)
  clear hrc hown
  go_wp2_with (at_builtin; go_must (clear x0a x0b x0z hz0; have HXn1c2a3 := hid (blk_alloc HXn1c2.out (.cells #[.slice ca h.cells.length cc, .slice ta h.trail.length tc] 38)); have HHa1c2a3 := hid (Hp.rep.keeps HHa1c2.out (Keeps.alloc _ _ (.cells #[.slice ca h.cells.length cc, .slice ta h.trail.length tc] 38))); have HRa1c2a3 := hid (SlR.keeps numR_lasts HRa1c2.out (Keeps.alloc _ _ (.cells #[.slice ca h.cells.length cc, .slice ta h.trail.length tc] 38))); have HTa1c2a3 := hid (SlR.keeps numR_lasts HTa1c2.out (Keeps.alloc _ _ (.cells #[.slice ca h.cells.length cc, .slice ta h.trail.length tc] 38))); have HMa1c2a3 := hid (SlR.keeps numR_lasts HMa1c2.out (Keeps.alloc _ _ (.cells #[.slice ca h.cells.length cc, .slice ta h.trail.length tc] 38))); have HRCa3 := hid (Hp.rep.keeps HRC.out (Keeps.alloc _ _ (.cells #[.slice ca h.cells.length cc, .slice ta h.trail.length tc] 38))); have HXn3 := hid (blk_new w2 (.cells #[.slice ca h.cells.length cc, .slice ta h.trail.length tc] 38)); have HBa3 := hid (HBc2.out.alloc HBc2.out.size (.cells #[.slice ca h.cells.length cc, .slice ta h.trail.length tc] 38)); have hsz3 : w2.heap.size < (w2.alloc (.cells #[.slice ca h.cells.length cc, .slice ta h.trail.length tc] 38)).heap.size := (by simp); generalize w2.alloc (.cells #[.slice ca h.cells.length cc, .slice ta h.trail.length tc] 38) = w3 at HXn1c2a3 HXn3 HHa1c2a3 HRa1c2a3 HTa1c2a3 HMa1c2a3 HRCa3 HBa3 hsz3 ⊢; obtain ⟨x0a, x0b, x0z⟩ := box2 HXn1c2a3.out; have hz0 := blk_lt HXn1c2a3.out; obtain ⟨x1a, x1b, x1z⟩ := box2 HXn3.out; have hz1 := blk_lt HXn3.out); go_must (refine wpList_appS rfl (.const (.slice none 0 0)) (.tmp 26) 36 rfl w3.heap.size 3 1 8 tyNums numR_lasts (A := fun _ => True) (.slice none 0 0) [] rfl (OwnR.nil ..) _ rfl roots (SlR.mono numR_lasts (by omega) HRa1c2a3.out (fun _ _ _ => ⟨trivial, by simp [ownB]⟩)) (by simp; omega) (Nat.le_refl _) ?_); go_must (intro ov w4 hown hgrew; have hb4 : Below w3.heap.size w3 w4 := hgrew.below (Below.refl _ _) (Nat.le_refl _) (fun k hk => by simp [ownB] at hk); rw [List.nil_append] at hown; clear x0a x0b x0z hz0 x1a x1b x1z hz1; have HXn1c2a3c4 := hid (blk_below HXn1c2a3.out hb4); have HXn3c4 := hid (blk_below HXn3.out hb4); have HHa1c2a3c4 := hid (Hp.rep.keeps HHa1c2a3.out (Keeps.of_below hb4)); have HRa1c2a3c4 := hid (SlR.keeps numR_lasts HRa1c2a3.out (Keeps.of_below hb4)); have HTa1c2a3c4 := hid (SlR.keeps numR_lasts HTa1c2a3.out (Keeps.of_below hb4)); have HMa1c2a3c4 := hid (SlR.keeps numR_lasts HMa1c2a3.out (Keeps.of_below hb4)); have HRCa3c4 := hid (Hp.rep.keeps HRCa3.out (Keeps.of_below hb4)); have HBc4 := hid (HBa3.out.trans (hb4.mono HBa3.out.size)); have hzz4 := hb4.size; have HO := hid (show NumsR (fun _ => True) w4 roots ov from OwnF.sl numV_len numV_one (OwnF.of_ownR hown) (by omega) (fun _ _ => trivial)); clear hown hgrew hb4; obtain ⟨x0a, x0b, x0z⟩ := box2 HXn1c2a3c4.out; have hz0 := blk_lt HXn1c2a3c4.out; obtain ⟨x1a, x1b, x1z⟩ := box2 HXn3c4.out; have hz1 := blk_lt HXn3c4.out))
  refine (HMK.out _ [_, _] _ HRCa3c4.out HO.out).mono ?_
  rintro e w5 ⟨v, rfl, hb5, mv, rfl, hmk⟩
  obtain ⟨ma, mc, rfl, -, -⟩ := OwnF.val hmk
  have hbm := OwnB.sl (A := fun _ => True) hmk (by simp only; omega) (fun _ _ => trivial)
  clear hmk
  clear x0a x0b x0z hz0 x1a x1b x1z hz1
  have HXn1c2a3c4c5 := hid (blk_below HXn1c2a3c4.out hb5)
  have HXn3c4c5 := hid (blk_below HXn3c4.out hb5)
  have HHa1c2a3c4c5 := hid (Hp.rep.keeps HHa1c2a3c4.out (Keeps.of_below hb5))
  have HRa1c2a3c4c5 := hid (SlR.keeps numR_lasts HRa1c2a3c4.out (Keeps.of_below hb5))
  have HTa1c2a3c4c5 := hid (SlR.keeps numR_lasts HTa1c2a3c4.out (Keeps.of_below hb5))
  have HMa1c2a3c4c5 := hid (SlR.keeps numR_lasts HMa1c2a3c4.out (Keeps.of_below hb5))
  have HRCa3c4c5 := hid (Hp.rep.keeps HRCa3c4.out (Keeps.of_below hb5))
  have HOc5 := hid (SlR.keeps numR_lasts HO.out (Keeps.of_below hb5))
  have HBc5 := hid (HBc4.out.trans (hb5.mono HBc4.out.size))
  have hzz5 := hb5.size
  clear hb5
  obtain ⟨x0a, x0b, x0z⟩ := box2 HXn1c2a3c4c5.out
  have hz0 := blk_lt HXn1c2a3c4c5.out
  obtain ⟨x1a, x1b, x1z⟩ := box2 HXn3c4c5.out
  have hz1 := blk_lt HXn3c4c5.out
  have HBM := hid (hbm)
  clear hbm
  go_wp2_with fail
  refine (HMO.out _ [_, _] _ HHa1c2a3c4c5.out HRa1c2a3c4c5.out).mono ?_
  rintro e w6 ⟨v, rfl, hb6, mv, rfl, hmk⟩
  obtain ⟨na, nc, rfl, -, -⟩ := OwnF.val hmk
  have hbm := OwnB.sl (A := fun _ => True) hmk (by simp only; omega) (fun _ _ => trivial)
  clear hmk
  clear x0a x0b x0z hz0 x1a x1b x1z hz1
  have HXn1c2a3c4c5c6 := hid (blk_below HXn1c2a3c4c5.out hb6)
  have HXn3c4c5c6 := hid (blk_below HXn3c4c5.out hb6)
  have HHa1c2a3c4c5c6 := hid (Hp.rep.keeps HHa1c2a3c4c5.out (Keeps.of_below hb6))
  have HRa1c2a3c4c5c6 := hid (SlR.keeps numR_lasts HRa1c2a3c4c5.out (Keeps.of_below hb6))
  have HTa1c2a3c4c5c6 := hid (SlR.keeps numR_lasts HTa1c2a3c4c5.out (Keeps.of_below hb6))
  have HMa1c2a3c4c5c6 := hid (SlR.keeps numR_lasts HMa1c2a3c4c5.out (Keeps.of_below hb6))
  have HRCa3c4c5c6 := hid (Hp.rep.keeps HRCa3c4c5.out (Keeps.of_below hb6))
  have HOc5c6 := hid (SlR.keeps numR_lasts HOc5.out (Keeps.of_below hb6))
  have HBMc6 := hid (SlR.keeps boolR_lasts HBM.out (Keeps.of_below hb6))
  have HBc6 := hid (HBc5.out.trans (hb6.mono HBc5.out.size))
  have hzz6 := hb6.size
  clear hb6
  obtain ⟨x0a, x0b, x0z⟩ := box2 HXn1c2a3c4c5c6.out
  have hz0 := blk_lt HXn1c2a3c4c5c6.out
  obtain ⟨x1a, x1b, x1z⟩ := box2 HXn3c4c5c6.out
  have hz1 := blk_lt HXn3c4c5c6.out
  have HBN := hid (hbm)
  clear hbm
  have hmm : ((mk.length : Int) != (mk.length : Int)) = false := by simp
  have hee : (me != me) = false := by simp
  go_wp2_with fail
  clear x0a x0b x0z hz0 x1a x1b x1z hz1
  go_loopw [52] (fun i W => ∃ j : Nat, j ≤ mk.length ∧ i = .int .i64 (j : Int) ∧ Below w6.heap.size w6 W) (fun i _ => mk.length - (intOf i).toNat)
  case atStart => exact ⟨0, Nat.zero_le _, rfl, Below.refl _ _⟩
  case round =>
    obtain ⟨j, hj, rfl, hb⟩ := hrel
    have HBL := hid hb
    by_cases hlt : j < mk.length
    · have hlt' : (j : Int) < (mk.length : Int) := by omega
      have hj0 : (0 : Int) ≤ (j : Int) := Int.natCast_nonneg _
      obtain ⟨_, _, qa, qo, e, -, -, -, hqa, hqe⟩ := SlR.at (SlR.keeps boolR_lasts HBMc6.out (Keeps.of_below hb))
      simp only [Value.slice.injEq] at e
      obtain ⟨rfl, -, rfl⟩ := e
      obtain ⟨rfl, -⟩ := hqa (by omega)
      have d0 := bool_cell hqe trivial (Keeps.refl _ _) hlt
      obtain ⟨_, _, ra, ro, e, -, -, -, hra, hre⟩ := SlR.at (SlR.keeps boolR_lasts HBN.out (Keeps.of_below hb))
      simp only [Value.slice.injEq] at e
      obtain ⟨rfl, -, rfl⟩ := e
      obtain ⟨rfl, -⟩ := hra (by omega)
      have d1 := bool_cell hre trivial (Keeps.refl _ _) hlt
      clear hb hqa hqe hra hre
      obtain ⟨b, hbb⟩ : ∃ b, b = mk[j]'hlt := ⟨_, rfl⟩
      rw [← hbb] at d0 d1
      clear hbb
      cases b
      all_goals
        go_wp2_with fail
        go_region
        go_wp2_with fail
        go_roundw
        case rel => exact ⟨j + 1, by omega, by go_num, HBL.out.drew⟩
        case measure => first | (simp [intOf]; done) | (simp [intOf]; omega)
    · have hlt' : ¬ (j : Int) < (mk.length : Int) := by omega
      obtain ⟨w7, hw7⟩ : ∃ x, x = wr := ⟨_, rfl⟩
      subst hw7
      have HXn1c2a3c4c5c6c7 := hid (blk_below HXn1c2a3c4c5c6.out hb)
      have HXn3c4c5c6c7 := hid (blk_below HXn3c4c5c6.out hb)
      have HHa1c2a3c4c5c6c7 := hid (Hp.rep.keeps HHa1c2a3c4c5c6.out (Keeps.of_below hb))
      have HRa1c2a3c4c5c6c7 := hid (SlR.keeps numR_lasts HRa1c2a3c4c5c6.out (Keeps.of_below hb))
      have HTa1c2a3c4c5c6c7 := hid (SlR.keeps numR_lasts HTa1c2a3c4c5c6.out (Keeps.of_below hb))
      have HMa1c2a3c4c5c6c7 := hid (SlR.keeps numR_lasts HMa1c2a3c4c5c6.out (Keeps.of_below hb))
      have HRCa3c4c5c6c7 := hid (Hp.rep.keeps HRCa3c4c5c6.out (Keeps.of_below hb))
      have HOc5c6c7 := hid (SlR.keeps numR_lasts HOc5c6.out (Keeps.of_below hb))
      have HBMc6c7 := hid (SlR.keeps boolR_lasts HBMc6.out (Keeps.of_below hb))
      have HBNc7 := hid (SlR.keeps boolR_lasts HBN.out (Keeps.of_below hb))
      have HBc7 := hid (HBc6.out.trans (hb.mono HBc6.out.size))
      clear hb hlt HBL
      obtain ⟨x0a, x0b, x0z⟩ := box2 HXn1c2a3c4c5c6c7.out
      have hz0 := blk_lt HXn1c2a3c4c5c6c7.out
      obtain ⟨x1a, x1b, x1z⟩ := box2 HXn3c4c5c6c7.out
      have hz1 := blk_lt HXn3c4c5c6c7.out
      go_wp2_with fail
      clear x0a x0b x0z hz0 x1a x1b x1z hz1
      have HA0 : Hid (∀ w', Below w7.heap.size w7 w' → Below w.heap.size w w' ∧ w'.cell? ⟨w.heap.size, 0, none⟩ = some (.slice va h.cells.length cap) ∧ w'.cell? ⟨w.heap.size, 1, none⟩ = some (.slice vb h.trail.length tap) ∧ w'.cell? ⟨w2.heap.size, 0, none⟩ = some (.slice ca h.cells.length cc) ∧ w'.cell? ⟨w2.heap.size, 1, none⟩ = some (.slice ta h.trail.length tc)) := hid fun w' hb => by
        obtain ⟨z0a, z0b, -⟩ := box2 (blk_below HXn1c2a3c4c5c6c7.out hb)
        obtain ⟨z1a, z1b, -⟩ := box2 (blk_below HXn3c4c5c6c7.out hb)
        exact ⟨HBc7.out.trans (hb.mono HBc7.out.size), z0a, z0b, z1a, z1b⟩
      refine wp_region_front2 14 (fun i => i == 9 || i == 10 || i == 11 || i == 12) (Inv := fun w' => Below w7.heap.size w7 w') (Po := posts [IsV (.agg #[.slice ca h.cells.length cc, .slice ta h.trail.length tc]), IsV ov, IsV (.slice ra tops.length rc), IsON w7.heap.size tops, IsV (.slice sa mks.length sc), IsON w7.heap.size mks, IsCl ⟨ch, cr, ct, cm, ce⟩, IsCl ⟨ch, cr, ct, cm, ce⟩, IsHp ch, IsNs cr, IsNs ct, IsNs cm, IsV (.int .i64 ce), IsBox w7.heap.size 38 #[.slice none 0 0, .slice none 0 0]]) (Rl := fun w w' => Below w.heap.size w w') (by kernel_rfl) (by kernel_rfl) (by kernel_rfl) (fun _ _ _ _ h => h) (by kernel_rfl) (by kernel_rfl) ((Below.refl _ _).drew) ?_ ?_ ?_ ?_ ?_
      · refine posts_stay fun R hR => ?_
        simp only [List.mem_cons, List.not_mem_nil, or_false] at hR
        rcases hR with rfl | rfl | rfl | rfl | rfl | rfl | rfl | rfl | rfl | rfl | rfl | rfl | rfl | rfl <;> first | exact stays_V _ | exact stays_any | exact stays_B _ | exact stays_Tm _ | exact stays_Tms _ | exact stays_Cs _ | exact stays_Ns _ | exact stays_Bs _ | exact stays_Hp _ | exact stays_OC _ _ | exact stays_ON _ _ | exact stays_Box _ _ _ | exact stays_Cl _
      · exact fun w1 w2 h h' => h.trans (h'.mono h.size)
      · intro i o ho hps f ac ww hinv hpo hdst hold
        match i, ho, hps with
          | 0, ho, hps =>
            exact absurd hps (by decide)
          | 1, ho, hps =>
            exact absurd hps (by decide)
          | 2, ho, hps =>
            exact absurd hps (by decide)
          | 3, ho, hps =>
            exact absurd hps (by decide)
          | 4, ho, hps =>
            exact absurd hps (by decide)
          | 5, ho, hps =>
            exact absurd hps (by decide)
          | 6, ho, hps =>
            exact absurd hps (by decide)
          | 7, ho, hps =>
            exact absurd hps (by decide)
          | 8, ho, hps =>
            exact absurd hps (by decide)
          | 9, ho, hps =>
            obtain rfl : _ = o := Option.some.inj ho
            have t65 : ac.tmps[65]? = some (f 7) := hdst 7 65 (by kernel_rfl) (by kernel_rfl)
            have p7 : (IsCl ⟨ch, cr, ct, cm, ce⟩) (f 7) ww := hpo 7 (by kernel_rfl)
            clear hdst hpo hold ho
            obtain ⟨us, a0, b0, c0, e4, hr, hr2, hr3, hr4⟩ := p7
            rw [e4] at t65
            clear hinv
            exact ⟨_, Or.inl ⟨want0 rfl, fun w' => by go_simp⟩, hr2⟩
          | 10, ho, hps =>
            obtain rfl : _ = o := Option.some.inj ho
            have t65 : ac.tmps[65]? = some (f 7) := hdst 7 65 (by kernel_rfl) (by kernel_rfl)
            have p7 : (IsCl ⟨ch, cr, ct, cm, ce⟩) (f 7) ww := hpo 7 (by kernel_rfl)
            clear hdst hpo hold ho
            obtain ⟨us, a0, b0, c0, e4, hr, hr2, hr3, hr4⟩ := p7
            rw [e4] at t65
            clear hinv
            exact ⟨_, Or.inl ⟨want0 rfl, fun w' => by go_simp⟩, hr3⟩
          | 11, ho, hps =>
            obtain rfl : _ = o := Option.some.inj ho
            have t65 : ac.tmps[65]? = some (f 7) := hdst 7 65 (by kernel_rfl) (by kernel_rfl)
            have p7 : (IsCl ⟨ch, cr, ct, cm, ce⟩) (f 7) ww := hpo 7 (by kernel_rfl)
            clear hdst hpo hold ho
            obtain ⟨us, a0, b0, c0, e4, hr, hr2, hr3, hr4⟩ := p7
            rw [e4] at t65
            clear hinv
            exact ⟨_, Or.inl ⟨want0 rfl, fun w' => by go_simp⟩, hr4⟩
          | 12, ho, hps =>
            obtain rfl : _ = o := Option.some.inj ho
            have t65 : ac.tmps[65]? = some (f 7) := hdst 7 65 (by kernel_rfl) (by kernel_rfl)
            have p7 : (IsCl ⟨ch, cr, ct, cm, ce⟩) (f 7) ww := hpo 7 (by kernel_rfl)
            clear hdst hpo hold ho
            obtain ⟨us, a0, b0, c0, e4, hr, hr2, hr3, hr4⟩ := p7
            rw [e4] at t65
            clear hinv
            exact ⟨_, Or.inl ⟨want0 rfl, fun w' => by go_simp⟩, rfl⟩
          | 13, ho, hps =>
            exact absurd hps (by decide)
          | i + 14, ho, hps => simp at ho
      · intro i o ho hps f ac ww hinv hpo hdst hold
        match i, ho, hps with
          | 0, ho, hps =>
            obtain rfl : _ = o := Option.some.inj ho
            have t9 := hold 9 (by kernel_rfl)
            refine Or.inl ⟨want0 rfl, ?_⟩
            clear hdst hpo hold ho
            obtain ⟨-, x0a, x0b, x1a, x1b⟩ := HA0.out ww hinv
            unfold Ans
            go_simp
            exact ⟨rfl, Below.refl _ _⟩
          | 1, ho, hps =>
            obtain rfl : _ = o := Option.some.inj ho
            have t10 := hold 10 (by kernel_rfl)
            refine Or.inl ⟨want0 rfl, ?_⟩
            clear hdst hpo hold ho
            clear hinv
            unfold Ans
            go_simp
            exact ⟨rfl, Below.refl _ _⟩
          | 2, ho, hps =>
            obtain rfl : _ = o := Option.some.inj ho
            have t2 := hold 2 (by kernel_rfl)
            refine Or.inl ⟨want0 rfl, ?_⟩
            clear hdst hpo hold ho
            clear hinv
            unfold Ans
            go_simp
            exact ⟨rfl, Below.refl _ _⟩
          | 3, ho, hps =>
            obtain rfl : _ = o := Option.some.inj ho
            have t68 : ac.tmps[68]? = some (f 2) := hdst 2 68 (by kernel_rfl) (by kernel_rfl)
            have p2 : (IsV (.slice ra tops.length rc)) (f 2) ww := hpo 2 (by kernel_rfl)
            refine Or.inl ⟨want0 rfl, ?_⟩
            clear hdst hpo hold ho
            rw [show f 2 = _ from p2] at t68
            have hB := hinv
            refine ans_app (.const (.slice none 0 0)) (.tmp 68) 36 rfl w7.heap.size 3 1 8 tyNums numR_lasts (A := fun _ => True) (.slice none 0 0) [] rfl (OwnR.nil ..) (.slice ra tops.length rc) (by clear hB; go_simp) tops ?_ (by simp; omega) hB.size ?_
            · exact SlR.mono numR_lasts (by omega) (SlR.keeps numR_lasts HTa1c2a3c4c5c6c7.out (Keeps.of_below hB)) (fun _ _ _ => ⟨trivial, by simp [ownB]⟩)
            · intro v2 w2 k1 k2
              exact ⟨OwnF.of_ownR (A := fun _ => True) (by rw [List.nil_append] at k1; exact k1), k2.below (Below.refl _ _) (Nat.le_refl _) (fun k hk => by simp [ownB] at hk)⟩
          | 4, ho, hps =>
            obtain rfl : _ = o := Option.some.inj ho
            have t3 := hold 3 (by kernel_rfl)
            refine Or.inl ⟨want0 rfl, ?_⟩
            clear hdst hpo hold ho
            clear hinv
            unfold Ans
            go_simp
            exact ⟨rfl, Below.refl _ _⟩
          | 5, ho, hps =>
            obtain rfl : _ = o := Option.some.inj ho
            have t70 : ac.tmps[70]? = some (f 4) := hdst 4 70 (by kernel_rfl) (by kernel_rfl)
            have p4 : (IsV (.slice sa mks.length sc)) (f 4) ww := hpo 4 (by kernel_rfl)
            refine Or.inl ⟨want0 rfl, ?_⟩
            clear hdst hpo hold ho
            rw [show f 4 = _ from p4] at t70
            have hB := hinv
            refine ans_app (.const (.slice none 0 0)) (.tmp 70) 36 rfl w7.heap.size 3 1 8 tyNums numR_lasts (A := fun _ => True) (.slice none 0 0) [] rfl (OwnR.nil ..) (.slice sa mks.length sc) (by clear hB; go_simp) mks ?_ (by simp; omega) hB.size ?_
            · exact SlR.mono numR_lasts (by omega) (SlR.keeps numR_lasts HMa1c2a3c4c5c6c7.out (Keeps.of_below hB)) (fun _ _ _ => ⟨trivial, by simp [ownB]⟩)
            · intro v2 w2 k1 k2
              exact ⟨OwnF.of_ownR (A := fun _ => True) (by rw [List.nil_append] at k1; exact k1), k2.below (Below.refl _ _) (Nat.le_refl _) (fun k hk => by simp [ownB] at hk)⟩
          | 6, ho, hps =>
            obtain rfl : _ = o := Option.some.inj ho
            have t66 : ac.tmps[66]? = some (f 0) := hdst 0 66 (by kernel_rfl) (by kernel_rfl)
            have p0 : (IsV (.agg #[.slice ca h.cells.length cc, .slice ta h.trail.length tc])) (f 0) ww := hpo 0 (by kernel_rfl)
            have t67 : ac.tmps[67]? = some (f 1) := hdst 1 67 (by kernel_rfl) (by kernel_rfl)
            have p1 : (IsV ov) (f 1) ww := hpo 1 (by kernel_rfl)
            have t69 : ac.tmps[69]? = some (f 3) := hdst 3 69 (by kernel_rfl) (by kernel_rfl)
            have p3 : (IsON w7.heap.size tops) (f 3) ww := hpo 3 (by kernel_rfl)
            have t71 : ac.tmps[71]? = some (f 5) := hdst 5 71 (by kernel_rfl) (by kernel_rfl)
            have p5 : (IsON w7.heap.size mks) (f 5) ww := hpo 5 (by kernel_rfl)
            refine Or.inl ⟨want0 rfl, ?_⟩
            clear hdst hpo hold ho
            rw [show f 0 = _ from p0] at t66
            rw [show f 1 = _ from p1] at t67
            unfold Ans
            go_simp
            refine (HCO.out ww [_, _] _ _ _ (Hp.rep.below HRCa3c4c5c6c7.out hinv) (SlR.keeps numR_lasts HOc5c6c7.out (Keeps.of_below hinv)) (OwnF.sl numV_len numV_one p3 (by omega) (fun _ _ => trivial)) (OwnF.sl numV_len numV_one p5 (by omega) (fun _ _ => trivial))).mono ?_
            rintro e w1 ⟨r, rfl, hb, hr⟩
            exact ⟨_, rfl, hr.mono, hb⟩
          | 7, ho, hps =>
            obtain rfl : _ = o := Option.some.inj ho
            have t72 : ac.tmps[72]? = some (f 6) := hdst 6 72 (by kernel_rfl) (by kernel_rfl)
            have p6 : (IsCl ⟨ch, cr, ct, cm, ce⟩) (f 6) ww := hpo 6 (by kernel_rfl)
            refine Or.inl ⟨want0 rfl, ?_⟩
            clear hdst hpo hold ho
            clear hinv
            unfold Ans
            go_simp
            exact ⟨p6, Below.refl _ _⟩
          | 8, ho, hps =>
            obtain rfl : _ = o := Option.some.inj ho
            have t65 : ac.tmps[65]? = some (f 7) := hdst 7 65 (by kernel_rfl) (by kernel_rfl)
            have p7 : (IsCl ⟨ch, cr, ct, cm, ce⟩) (f 7) ww := hpo 7 (by kernel_rfl)
            refine Or.inl ⟨want0 rfl, ?_⟩
            clear hdst hpo hold ho
            obtain ⟨us, a0, b0, c0, e4, hr, hr2, hr3, hr4⟩ := p7
            rw [e4] at t65
            clear hinv
            unfold Ans
            go_simp
            exact ⟨⟨us, rfl, hr⟩, Below.refl _ _⟩
          | 9, ho, hps =>
            exact absurd hps (by decide)
          | 10, ho, hps =>
            exact absurd hps (by decide)
          | 11, ho, hps =>
            exact absurd hps (by decide)
          | 12, ho, hps =>
            exact absurd hps (by decide)
          | 13, ho, hps =>
            obtain rfl : _ = o := Option.some.inj ho
            refine Or.inl ⟨want0 rfl, ?_⟩
            clear hdst hpo hold ho
            unfold Ans
            go_simp
            exact ⟨⟨_, rfl, hinv.size, blk_new _ _⟩, (Below.refl _ _).alloc (Nat.le_refl _) _⟩
          | i + 14, ho, hps => simp at ho
      · intro f ww hinv hpo
        have p8 : (IsHp ch) (f 8) ww := hpo 8 (by decide)
        have p9 : (IsNs cr) (f 9) ww := hpo 9 (by decide)
        have p10 : (IsNs ct) (f 10) ww := hpo 10 (by decide)
        have p11 : (IsNs cm) (f 11) ww := hpo 11 (by decide)
        have p12 : (IsV (.int .i64 ce)) (f 12) ww := hpo 12 (by decide)
        have p13 : (IsBox w7.heap.size 38 #[.slice none 0 0, .slice none 0 0]) (f 13) ww := hpo 13 (by decide)
        obtain ⟨us6, e8, hr6⟩ := p8
        obtain ⟨g6, e13, hg6, hx6⟩ := p13
        simp only [fillT, List.take_succ_cons, List.take_zero, List.setIfInBounds_toArray, List.set_cons_succ, List.set_cons_zero]
        rw [e8, show f 12 = _ from p12, e13]
        obtain ⟨a6, c6, b6, d6, rfl, -⟩ := Hp.rep2 hr6
        have HXB := hid hx6
        have HR6 := hid (Hp.off hr6 hx6 (box_no_int))
        have Hx9 := hid (NumsR.off p9 hx6 box_no_int)
        have Hx10 := hid (NumsR.off p10 hx6 box_no_int)
        have Hx11 := hid (NumsR.off p11 hx6 box_no_int)
        have HIV := hid hinv
        obtain ⟨y0, y1, yf⟩ := box2 hx6
        have hcs := cell_set
        generalize f 9 = v9 at *
        generalize f 10 = v10 at *
        generalize f 11 = v11 at *
        clear hpo hr6 hx6 p9 p10 p11 p12 e8 e13 hinv
        refine wpAny_only (i := 14) (by kernel_rfl) (wpOp_run rfl (by rfl) ?_)
        go_simp
        refine wpAny_only (i := 15) (by kernel_rfl) (wpOp_run rfl (by rfl) ?_)
        go_simp
        refine wpAny_only (i := 16) (by kernel_rfl) (wpOp_run rfl (by rfl) ?_)
        go_simp
        refine wpAny_only (i := 17) (by kernel_rfl) (wpOp_run rfl (by rfl) ?_)
        go_simp
        refine wpAny_only (i := 18) (by kernel_rfl) (wpOp_run rfl (by rfl) ?_)
        go_simp
        refine wpAny_all (by kernel_rfl) ?_ _
        have hB6 : Below w7.heap.size w7 ((ww.setCell ⟨g6, 0, none⟩ (.slice a6 ch.cells.length c6)).setCell ⟨g6, 1, none⟩ (.slice b6 ch.trail.length d6)) := Below.setCell (Below.setCell HIV.out (by simp only; omega) _) (by simp only; omega) _
        have hK : Keeps (fun b => True ∧ b ≠ g6) ww ((ww.setCell ⟨g6, 0, none⟩ (.slice a6 ch.cells.length c6)).setCell ⟨g6, 1, none⟩ (.slice b6 ch.trail.length d6)) := (Keeps.setCell _ _ ⟨g6, 0, none⟩ _ (fun h => h.2 rfl)).trans (Keeps.setCell _ _ ⟨g6, 1, none⟩ _ (fun h => h.2 rfl))
        have HXn6 := hid (show ((ww.setCell ⟨g6, 0, none⟩ (.slice a6 ch.cells.length c6)).setCell ⟨g6, 1, none⟩ (.slice b6 ch.trail.length d6)).heap[g6]? = some (.cells #[.slice a6 ch.cells.length c6, .slice b6 ch.trail.length d6] 38 (0, 0)) from (blk_set (blk_set HXB.out 0 _) 1 _).trans rfl)
        have HY6 := hid (Hp.rep.mono (Hp.rep.keeps HR6.out hK) (fun _ _ _ => trivial) : Hp.rep (fun _ => True) _ ch _)
        have HN9 := hid (SlR.mono numR_lasts (by omega) (SlR.keeps numR_lasts Hx9.out hK) (fun _ _ _ => trivial) : NumsR (fun _ => True) _ cr v9)
        have HN10 := hid (SlR.mono numR_lasts (by omega) (SlR.keeps numR_lasts Hx10.out hK) (fun _ _ _ => trivial) : NumsR (fun _ => True) _ ct v10)
        have HN11 := hid (SlR.mono numR_lasts (by omega) (SlR.keeps numR_lasts Hx11.out hK) (fun _ _ _ => trivial) : NumsR (fun _ => True) _ cm v11)
        clear y0 y1 yf HR6 Hx9 Hx10 Hx11 HXB HIV hK
        have HXn1c2a3c4c5c6c7r := hid (blk_below HXn1c2a3c4c5c6c7.out hB6)
        have HXn3c4c5c6c7r := hid (blk_below HXn3c4c5c6c7.out hB6)
        have HHa1c2a3c4c5c6c7r := hid (Hp.rep.keeps HHa1c2a3c4c5c6c7.out (Keeps.of_below hB6))
        have HRa1c2a3c4c5c6c7r := hid (SlR.keeps numR_lasts HRa1c2a3c4c5c6c7.out (Keeps.of_below hB6))
        have HTa1c2a3c4c5c6c7r := hid (SlR.keeps numR_lasts HTa1c2a3c4c5c6c7.out (Keeps.of_below hB6))
        have HMa1c2a3c4c5c6c7r := hid (SlR.keeps numR_lasts HMa1c2a3c4c5c6c7.out (Keeps.of_below hB6))
        have HRCa3c4c5c6c7r := hid (Hp.rep.keeps HRCa3c4c5c6c7.out (Keeps.of_below hB6))
        have HOc5c6c7r := hid (SlR.keeps numR_lasts HOc5c6c7.out (Keeps.of_below hB6))
        have HBMc6c7r := hid (SlR.keeps boolR_lasts HBMc6c7.out (Keeps.of_below hB6))
        have HBNc7r := hid (SlR.keeps boolR_lasts HBNc7.out (Keeps.of_below hB6))
        have HBr := hid (HBc7.out.trans (hB6.mono HBc7.out.size))
        clear hB6
        generalize (ww.setCell ⟨g6, 0, none⟩ (.slice a6 ch.cells.length c6)).setCell ⟨g6, 1, none⟩ (.slice b6 ch.trail.length d6) = WS at HXn1c2a3c4c5c6c7r HXn3c4c5c6c7r HXn6 HHa1c2a3c4c5c6c7r HRa1c2a3c4c5c6c7r HTa1c2a3c4c5c6c7r HMa1c2a3c4c5c6c7r HRCa3c4c5c6c7r HOc5c6c7r HBMc6c7r HBNc7r HY6 HN9 HN10 HN11 HBr ⊢
        obtain ⟨x0a, x0b, x0z⟩ := box2 HXn1c2a3c4c5c6c7r.out
        have hz0 := blk_lt HXn1c2a3c4c5c6c7r.out
        obtain ⟨x1a, x1b, x1z⟩ := box2 HXn3c4c5c6c7r.out
        have hz1 := blk_lt HXn3c4c5c6c7r.out
        obtain ⟨x2a, x2b, x2z⟩ := box2 HXn6.out
        have hz2 := blk_lt HXn6.out
        go_wp2_with fail
        refine (HCA.out _ [_, _] _ _ _ HHa1c2a3c4c5c6c7r.out HRa1c2a3c4c5c6c7r.out HTa1c2a3c4c5c6c7r.out HMa1c2a3c4c5c6c7r.out).mono ?_
        rintro e w8 ⟨v, rfl, hb8, us7, a7, b7, c7, rfl, hr, hr2, hr3, hr4⟩
        obtain ⟨xa, xc, xb, xd, rfl, -⟩ := Hp.rep2 hr
        clear x0a x0b x0z hz0 x1a x1b x1z hz1 x2a x2b x2z hz2
        have HXn1c2a3c4c5c6c7rc8 := hid (blk_below HXn1c2a3c4c5c6c7r.out hb8)
        have HXn3c4c5c6c7rc8 := hid (blk_below HXn3c4c5c6c7r.out hb8)
        have HXn6c8 := hid (blk_below HXn6.out hb8)
        have HHa1c2a3c4c5c6c7rc8 := hid (Hp.rep.keeps HHa1c2a3c4c5c6c7r.out (Keeps.of_below hb8))
        have HRa1c2a3c4c5c6c7rc8 := hid (SlR.keeps numR_lasts HRa1c2a3c4c5c6c7r.out (Keeps.of_below hb8))
        have HTa1c2a3c4c5c6c7rc8 := hid (SlR.keeps numR_lasts HTa1c2a3c4c5c6c7r.out (Keeps.of_below hb8))
        have HMa1c2a3c4c5c6c7rc8 := hid (SlR.keeps numR_lasts HMa1c2a3c4c5c6c7r.out (Keeps.of_below hb8))
        have HRCa3c4c5c6c7rc8 := hid (Hp.rep.keeps HRCa3c4c5c6c7r.out (Keeps.of_below hb8))
        have HOc5c6c7rc8 := hid (SlR.keeps numR_lasts HOc5c6c7r.out (Keeps.of_below hb8))
        have HBMc6c7rc8 := hid (SlR.keeps boolR_lasts HBMc6c7r.out (Keeps.of_below hb8))
        have HBNc7rc8 := hid (SlR.keeps boolR_lasts HBNc7r.out (Keeps.of_below hb8))
        have HY6c8 := hid (Hp.rep.keeps HY6.out (Keeps.of_below hb8))
        have HN9c8 := hid (SlR.keeps numR_lasts HN9.out (Keeps.of_below hb8))
        have HN10c8 := hid (SlR.keeps numR_lasts HN10.out (Keeps.of_below hb8))
        have HN11c8 := hid (SlR.keeps numR_lasts HN11.out (Keeps.of_below hb8))
        have HBc8 := hid (HBr.out.trans (hb8.mono HBr.out.size))
        have hzz8 := hb8.size
        clear hb8
        obtain ⟨x0a, x0b, x0z⟩ := box2 HXn1c2a3c4c5c6c7rc8.out
        have hz0 := blk_lt HXn1c2a3c4c5c6c7rc8.out
        obtain ⟨x1a, x1b, x1z⟩ := box2 HXn3c4c5c6c7rc8.out
        have hz1 := blk_lt HXn3c4c5c6c7rc8.out
        obtain ⟨x2a, x2b, x2z⟩ := box2 HXn6c8.out
        have hz2 := blk_lt HXn6c8.out
        have HZ := hid (show Hp.rep (fun _ => True) _ ch _ from Hp.rep.mono hr (fun _ _ _ => trivial))
        have HZ1 := hid (show NumsR (fun _ => True) _ cr _ from SlR.mono numR_lasts (by omega) hr2 (fun _ _ _ => trivial))
        have HZ2 := hid (show NumsR (fun _ => True) _ ct _ from SlR.mono numR_lasts (by omega) hr3 (fun _ _ _ => trivial))
        have HZ3 := hid (show NumsR (fun _ => True) _ cm _ from SlR.mono numR_lasts (by omega) hr4 (fun _ _ _ => trivial))
        clear hr hr2 hr3 hr4
        go_wp2_with fail
        clear x0a x0b x0z hz0 x1a x1b x1z hz1 x2a x2b x2z hz2
        have HXn1c2a3c4c5c6c7rc8a9 := hid (blk_alloc HXn1c2a3c4c5c6c7rc8.out (.cells #[.slice xa ch.cells.length xc, .slice xb ch.trail.length xd] 38))
        have HXn3c4c5c6c7rc8a9 := hid (blk_alloc HXn3c4c5c6c7rc8.out (.cells #[.slice xa ch.cells.length xc, .slice xb ch.trail.length xd] 38))
        have HXn6c8a9 := hid (blk_alloc HXn6c8.out (.cells #[.slice xa ch.cells.length xc, .slice xb ch.trail.length xd] 38))
        have HHa1c2a3c4c5c6c7rc8a9 := hid (Hp.rep.keeps HHa1c2a3c4c5c6c7rc8.out (Keeps.alloc _ _ (.cells #[.slice xa ch.cells.length xc, .slice xb ch.trail.length xd] 38)))
        have HRa1c2a3c4c5c6c7rc8a9 := hid (SlR.keeps numR_lasts HRa1c2a3c4c5c6c7rc8.out (Keeps.alloc _ _ (.cells #[.slice xa ch.cells.length xc, .slice xb ch.trail.length xd] 38)))
        have HTa1c2a3c4c5c6c7rc8a9 := hid (SlR.keeps numR_lasts HTa1c2a3c4c5c6c7rc8.out (Keeps.alloc _ _ (.cells #[.slice xa ch.cells.length xc, .slice xb ch.trail.length xd] 38)))
        have HMa1c2a3c4c5c6c7rc8a9 := hid (SlR.keeps numR_lasts HMa1c2a3c4c5c6c7rc8.out (Keeps.alloc _ _ (.cells #[.slice xa ch.cells.length xc, .slice xb ch.trail.length xd] 38)))
        have HRCa3c4c5c6c7rc8a9 := hid (Hp.rep.keeps HRCa3c4c5c6c7rc8.out (Keeps.alloc _ _ (.cells #[.slice xa ch.cells.length xc, .slice xb ch.trail.length xd] 38)))
        have HOc5c6c7rc8a9 := hid (SlR.keeps numR_lasts HOc5c6c7rc8.out (Keeps.alloc _ _ (.cells #[.slice xa ch.cells.length xc, .slice xb ch.trail.length xd] 38)))
        have HBMc6c7rc8a9 := hid (SlR.keeps boolR_lasts HBMc6c7rc8.out (Keeps.alloc _ _ (.cells #[.slice xa ch.cells.length xc, .slice xb ch.trail.length xd] 38)))
        have HBNc7rc8a9 := hid (SlR.keeps boolR_lasts HBNc7rc8.out (Keeps.alloc _ _ (.cells #[.slice xa ch.cells.length xc, .slice xb ch.trail.length xd] 38)))
        have HY6c8a9 := hid (Hp.rep.keeps HY6c8.out (Keeps.alloc _ _ (.cells #[.slice xa ch.cells.length xc, .slice xb ch.trail.length xd] 38)))
        have HN9c8a9 := hid (SlR.keeps numR_lasts HN9c8.out (Keeps.alloc _ _ (.cells #[.slice xa ch.cells.length xc, .slice xb ch.trail.length xd] 38)))
        have HN10c8a9 := hid (SlR.keeps numR_lasts HN10c8.out (Keeps.alloc _ _ (.cells #[.slice xa ch.cells.length xc, .slice xb ch.trail.length xd] 38)))
        have HN11c8a9 := hid (SlR.keeps numR_lasts HN11c8.out (Keeps.alloc _ _ (.cells #[.slice xa ch.cells.length xc, .slice xb ch.trail.length xd] 38)))
        have HZa9 := hid (Hp.rep.keeps HZ.out (Keeps.alloc _ _ (.cells #[.slice xa ch.cells.length xc, .slice xb ch.trail.length xd] 38)))
        have HZ1a9 := hid (SlR.keeps numR_lasts HZ1.out (Keeps.alloc _ _ (.cells #[.slice xa ch.cells.length xc, .slice xb ch.trail.length xd] 38)))
        have HZ2a9 := hid (SlR.keeps numR_lasts HZ2.out (Keeps.alloc _ _ (.cells #[.slice xa ch.cells.length xc, .slice xb ch.trail.length xd] 38)))
        have HZ3a9 := hid (SlR.keeps numR_lasts HZ3.out (Keeps.alloc _ _ (.cells #[.slice xa ch.cells.length xc, .slice xb ch.trail.length xd] 38)))
        have HXn9 := hid (blk_new w8 (.cells #[.slice xa ch.cells.length xc, .slice xb ch.trail.length xd] 38))
        have HBa9 := hid (HBc8.out.alloc HBc8.out.size (.cells #[.slice xa ch.cells.length xc, .slice xb ch.trail.length xd] 38))
        have hsz9 : w8.heap.size < (w8.alloc (.cells #[.slice xa ch.cells.length xc, .slice xb ch.trail.length xd] 38)).heap.size := by simp
        generalize w8.alloc (.cells #[.slice xa ch.cells.length xc, .slice xb ch.trail.length xd] 38) = w9 at HXn1c2a3c4c5c6c7rc8a9 HXn3c4c5c6c7rc8a9 HXn6c8a9 HXn9 HHa1c2a3c4c5c6c7rc8a9 HRa1c2a3c4c5c6c7rc8a9 HTa1c2a3c4c5c6c7rc8a9 HMa1c2a3c4c5c6c7rc8a9 HRCa3c4c5c6c7rc8a9 HOc5c6c7rc8a9 HBMc6c7rc8a9 HBNc7rc8a9 HY6c8a9 HN9c8a9 HN10c8a9 HN11c8a9 HZa9 HZ1a9 HZ2a9 HZ3a9 HBa9 hsz9 ⊢
        obtain ⟨x0a, x0b, x0z⟩ := box2 HXn1c2a3c4c5c6c7rc8a9.out
        have hz0 := blk_lt HXn1c2a3c4c5c6c7rc8a9.out
        obtain ⟨x1a, x1b, x1z⟩ := box2 HXn3c4c5c6c7rc8a9.out
        have hz1 := blk_lt HXn3c4c5c6c7rc8a9.out
        obtain ⟨x2a, x2b, x2z⟩ := box2 HXn6c8a9.out
        have hz2 := blk_lt HXn6c8a9.out
        obtain ⟨x3a, x3b, x3z⟩ := box2 HXn9.out
        have hz3 := blk_lt HXn9.out
        have hce : (ce == ce) = true := by simp
        go_wp2_with fail
        refine (sameHeap_ok ch ch (fun _ => True) _ [_, _] [_, _] HY6c8a9.out HZa9.out).mono ?_
        rintro e w10 ⟨v, rfl, hb10, b, rfl, ht⟩
        obtain rfl : b = true := ht.2 rfl
        clear ht
        clear x0a x0b x0z hz0 x1a x1b x1z hz1 x2a x2b x2z hz2 x3a x3b x3z hz3
        have HXn1c2a3c4c5c6c7rc8a9c10 := hid (blk_below HXn1c2a3c4c5c6c7rc8a9.out hb10)
        have HXn3c4c5c6c7rc8a9c10 := hid (blk_below HXn3c4c5c6c7rc8a9.out hb10)
        have HXn6c8a9c10 := hid (blk_below HXn6c8a9.out hb10)
        have HXn9c10 := hid (blk_below HXn9.out hb10)
        have HHa1c2a3c4c5c6c7rc8a9c10 := hid (Hp.rep.keeps HHa1c2a3c4c5c6c7rc8a9.out (Keeps.of_below hb10))
        have HRa1c2a3c4c5c6c7rc8a9c10 := hid (SlR.keeps numR_lasts HRa1c2a3c4c5c6c7rc8a9.out (Keeps.of_below hb10))
        have HTa1c2a3c4c5c6c7rc8a9c10 := hid (SlR.keeps numR_lasts HTa1c2a3c4c5c6c7rc8a9.out (Keeps.of_below hb10))
        have HMa1c2a3c4c5c6c7rc8a9c10 := hid (SlR.keeps numR_lasts HMa1c2a3c4c5c6c7rc8a9.out (Keeps.of_below hb10))
        have HRCa3c4c5c6c7rc8a9c10 := hid (Hp.rep.keeps HRCa3c4c5c6c7rc8a9.out (Keeps.of_below hb10))
        have HOc5c6c7rc8a9c10 := hid (SlR.keeps numR_lasts HOc5c6c7rc8a9.out (Keeps.of_below hb10))
        have HBMc6c7rc8a9c10 := hid (SlR.keeps boolR_lasts HBMc6c7rc8a9.out (Keeps.of_below hb10))
        have HBNc7rc8a9c10 := hid (SlR.keeps boolR_lasts HBNc7rc8a9.out (Keeps.of_below hb10))
        have HY6c8a9c10 := hid (Hp.rep.keeps HY6c8a9.out (Keeps.of_below hb10))
        have HN9c8a9c10 := hid (SlR.keeps numR_lasts HN9c8a9.out (Keeps.of_below hb10))
        have HN10c8a9c10 := hid (SlR.keeps numR_lasts HN10c8a9.out (Keeps.of_below hb10))
        have HN11c8a9c10 := hid (SlR.keeps numR_lasts HN11c8a9.out (Keeps.of_below hb10))
        have HZa9c10 := hid (Hp.rep.keeps HZa9.out (Keeps.of_below hb10))
        have HZ1a9c10 := hid (SlR.keeps numR_lasts HZ1a9.out (Keeps.of_below hb10))
        have HZ2a9c10 := hid (SlR.keeps numR_lasts HZ2a9.out (Keeps.of_below hb10))
        have HZ3a9c10 := hid (SlR.keeps numR_lasts HZ3a9.out (Keeps.of_below hb10))
        have HBc10 := hid (HBa9.out.trans (hb10.mono HBa9.out.size))
        have hzz10 := hb10.size
        clear hb10
        obtain ⟨x0a, x0b, x0z⟩ := box2 HXn1c2a3c4c5c6c7rc8a9c10.out
        have hz0 := blk_lt HXn1c2a3c4c5c6c7rc8a9c10.out
        obtain ⟨x1a, x1b, x1z⟩ := box2 HXn3c4c5c6c7rc8a9c10.out
        have hz1 := blk_lt HXn3c4c5c6c7rc8a9c10.out
        obtain ⟨x2a, x2b, x2z⟩ := box2 HXn6c8a9c10.out
        have hz2 := blk_lt HXn6c8a9c10.out
        obtain ⟨x3a, x3b, x3z⟩ := box2 HXn9c10.out
        have hz3 := blk_lt HXn9c10.out
        go_wp2_with fail
        refine (sameNumbers_ok cr cr (fun _ => True) _ _ _ HN9c8a9c10.out HZ1a9c10.out).mono ?_
        rintro e w11 ⟨v, rfl, hb11, b, rfl, ht⟩
        obtain rfl : b = true := ht.2 rfl
        clear ht
        clear x0a x0b x0z hz0 x1a x1b x1z hz1 x2a x2b x2z hz2 x3a x3b x3z hz3
        have HXn1c2a3c4c5c6c7rc8a9c10c11 := hid (blk_below HXn1c2a3c4c5c6c7rc8a9c10.out hb11)
        have HXn3c4c5c6c7rc8a9c10c11 := hid (blk_below HXn3c4c5c6c7rc8a9c10.out hb11)
        have HXn6c8a9c10c11 := hid (blk_below HXn6c8a9c10.out hb11)
        have HXn9c10c11 := hid (blk_below HXn9c10.out hb11)
        have HHa1c2a3c4c5c6c7rc8a9c10c11 := hid (Hp.rep.keeps HHa1c2a3c4c5c6c7rc8a9c10.out (Keeps.of_below hb11))
        have HRa1c2a3c4c5c6c7rc8a9c10c11 := hid (SlR.keeps numR_lasts HRa1c2a3c4c5c6c7rc8a9c10.out (Keeps.of_below hb11))
        have HTa1c2a3c4c5c6c7rc8a9c10c11 := hid (SlR.keeps numR_lasts HTa1c2a3c4c5c6c7rc8a9c10.out (Keeps.of_below hb11))
        have HMa1c2a3c4c5c6c7rc8a9c10c11 := hid (SlR.keeps numR_lasts HMa1c2a3c4c5c6c7rc8a9c10.out (Keeps.of_below hb11))
        have HRCa3c4c5c6c7rc8a9c10c11 := hid (Hp.rep.keeps HRCa3c4c5c6c7rc8a9c10.out (Keeps.of_below hb11))
        have HOc5c6c7rc8a9c10c11 := hid (SlR.keeps numR_lasts HOc5c6c7rc8a9c10.out (Keeps.of_below hb11))
        have HBMc6c7rc8a9c10c11 := hid (SlR.keeps boolR_lasts HBMc6c7rc8a9c10.out (Keeps.of_below hb11))
        have HBNc7rc8a9c10c11 := hid (SlR.keeps boolR_lasts HBNc7rc8a9c10.out (Keeps.of_below hb11))
        have HY6c8a9c10c11 := hid (Hp.rep.keeps HY6c8a9c10.out (Keeps.of_below hb11))
        have HN9c8a9c10c11 := hid (SlR.keeps numR_lasts HN9c8a9c10.out (Keeps.of_below hb11))
        have HN10c8a9c10c11 := hid (SlR.keeps numR_lasts HN10c8a9c10.out (Keeps.of_below hb11))
        have HN11c8a9c10c11 := hid (SlR.keeps numR_lasts HN11c8a9c10.out (Keeps.of_below hb11))
        have HZa9c10c11 := hid (Hp.rep.keeps HZa9c10.out (Keeps.of_below hb11))
        have HZ1a9c10c11 := hid (SlR.keeps numR_lasts HZ1a9c10.out (Keeps.of_below hb11))
        have HZ2a9c10c11 := hid (SlR.keeps numR_lasts HZ2a9c10.out (Keeps.of_below hb11))
        have HZ3a9c10c11 := hid (SlR.keeps numR_lasts HZ3a9c10.out (Keeps.of_below hb11))
        have HBc11 := hid (HBc10.out.trans (hb11.mono HBc10.out.size))
        have hzz11 := hb11.size
        clear hb11
        obtain ⟨x0a, x0b, x0z⟩ := box2 HXn1c2a3c4c5c6c7rc8a9c10c11.out
        have hz0 := blk_lt HXn1c2a3c4c5c6c7rc8a9c10c11.out
        obtain ⟨x1a, x1b, x1z⟩ := box2 HXn3c4c5c6c7rc8a9c10c11.out
        have hz1 := blk_lt HXn3c4c5c6c7rc8a9c10c11.out
        obtain ⟨x2a, x2b, x2z⟩ := box2 HXn6c8a9c10c11.out
        have hz2 := blk_lt HXn6c8a9c10c11.out
        obtain ⟨x3a, x3b, x3z⟩ := box2 HXn9c10c11.out
        have hz3 := blk_lt HXn9c10c11.out
        go_wp2_with fail
        refine (sameNumbers_ok ct ct (fun _ => True) _ _ _ HN10c8a9c10c11.out HZ2a9c10c11.out).mono ?_
        rintro e w12 ⟨v, rfl, hb12, b, rfl, ht⟩
        obtain rfl : b = true := ht.2 rfl
        clear ht
        clear x0a x0b x0z hz0 x1a x1b x1z hz1 x2a x2b x2z hz2 x3a x3b x3z hz3
        have HXn1c2a3c4c5c6c7rc8a9c10c11c12 := hid (blk_below HXn1c2a3c4c5c6c7rc8a9c10c11.out hb12)
        have HXn3c4c5c6c7rc8a9c10c11c12 := hid (blk_below HXn3c4c5c6c7rc8a9c10c11.out hb12)
        have HXn6c8a9c10c11c12 := hid (blk_below HXn6c8a9c10c11.out hb12)
        have HXn9c10c11c12 := hid (blk_below HXn9c10c11.out hb12)
        have HHa1c2a3c4c5c6c7rc8a9c10c11c12 := hid (Hp.rep.keeps HHa1c2a3c4c5c6c7rc8a9c10c11.out (Keeps.of_below hb12))
        have HRa1c2a3c4c5c6c7rc8a9c10c11c12 := hid (SlR.keeps numR_lasts HRa1c2a3c4c5c6c7rc8a9c10c11.out (Keeps.of_below hb12))
        have HTa1c2a3c4c5c6c7rc8a9c10c11c12 := hid (SlR.keeps numR_lasts HTa1c2a3c4c5c6c7rc8a9c10c11.out (Keeps.of_below hb12))
        have HMa1c2a3c4c5c6c7rc8a9c10c11c12 := hid (SlR.keeps numR_lasts HMa1c2a3c4c5c6c7rc8a9c10c11.out (Keeps.of_below hb12))
        have HRCa3c4c5c6c7rc8a9c10c11c12 := hid (Hp.rep.keeps HRCa3c4c5c6c7rc8a9c10c11.out (Keeps.of_below hb12))
        have HOc5c6c7rc8a9c10c11c12 := hid (SlR.keeps numR_lasts HOc5c6c7rc8a9c10c11.out (Keeps.of_below hb12))
        have HBMc6c7rc8a9c10c11c12 := hid (SlR.keeps boolR_lasts HBMc6c7rc8a9c10c11.out (Keeps.of_below hb12))
        have HBNc7rc8a9c10c11c12 := hid (SlR.keeps boolR_lasts HBNc7rc8a9c10c11.out (Keeps.of_below hb12))
        have HY6c8a9c10c11c12 := hid (Hp.rep.keeps HY6c8a9c10c11.out (Keeps.of_below hb12))
        have HN9c8a9c10c11c12 := hid (SlR.keeps numR_lasts HN9c8a9c10c11.out (Keeps.of_below hb12))
        have HN10c8a9c10c11c12 := hid (SlR.keeps numR_lasts HN10c8a9c10c11.out (Keeps.of_below hb12))
        have HN11c8a9c10c11c12 := hid (SlR.keeps numR_lasts HN11c8a9c10c11.out (Keeps.of_below hb12))
        have HZa9c10c11c12 := hid (Hp.rep.keeps HZa9c10c11.out (Keeps.of_below hb12))
        have HZ1a9c10c11c12 := hid (SlR.keeps numR_lasts HZ1a9c10c11.out (Keeps.of_below hb12))
        have HZ2a9c10c11c12 := hid (SlR.keeps numR_lasts HZ2a9c10c11.out (Keeps.of_below hb12))
        have HZ3a9c10c11c12 := hid (SlR.keeps numR_lasts HZ3a9c10c11.out (Keeps.of_below hb12))
        have HBc12 := hid (HBc11.out.trans (hb12.mono HBc11.out.size))
        have hzz12 := hb12.size
        clear hb12
        obtain ⟨x0a, x0b, x0z⟩ := box2 HXn1c2a3c4c5c6c7rc8a9c10c11c12.out
        have hz0 := blk_lt HXn1c2a3c4c5c6c7rc8a9c10c11c12.out
        obtain ⟨x1a, x1b, x1z⟩ := box2 HXn3c4c5c6c7rc8a9c10c11c12.out
        have hz1 := blk_lt HXn3c4c5c6c7rc8a9c10c11c12.out
        obtain ⟨x2a, x2b, x2z⟩ := box2 HXn6c8a9c10c11c12.out
        have hz2 := blk_lt HXn6c8a9c10c11c12.out
        obtain ⟨x3a, x3b, x3z⟩ := box2 HXn9c10c11c12.out
        have hz3 := blk_lt HXn9c10c11c12.out
        go_wp2_with fail
        refine (sameNumbers_ok cm cm (fun _ => True) _ _ _ HN11c8a9c10c11c12.out HZ3a9c10c11c12.out).mono ?_
        rintro e w13 ⟨v, rfl, hb13, b, rfl, ht⟩
        obtain rfl : b = true := ht.2 rfl
        clear ht
        clear x0a x0b x0z hz0 x1a x1b x1z hz1 x2a x2b x2z hz2 x3a x3b x3z hz3
        have HXn1c2a3c4c5c6c7rc8a9c10c11c12c13 := hid (blk_below HXn1c2a3c4c5c6c7rc8a9c10c11c12.out hb13)
        have HXn3c4c5c6c7rc8a9c10c11c12c13 := hid (blk_below HXn3c4c5c6c7rc8a9c10c11c12.out hb13)
        have HXn6c8a9c10c11c12c13 := hid (blk_below HXn6c8a9c10c11c12.out hb13)
        have HXn9c10c11c12c13 := hid (blk_below HXn9c10c11c12.out hb13)
        have HHa1c2a3c4c5c6c7rc8a9c10c11c12c13 := hid (Hp.rep.keeps HHa1c2a3c4c5c6c7rc8a9c10c11c12.out (Keeps.of_below hb13))
        have HRa1c2a3c4c5c6c7rc8a9c10c11c12c13 := hid (SlR.keeps numR_lasts HRa1c2a3c4c5c6c7rc8a9c10c11c12.out (Keeps.of_below hb13))
        have HTa1c2a3c4c5c6c7rc8a9c10c11c12c13 := hid (SlR.keeps numR_lasts HTa1c2a3c4c5c6c7rc8a9c10c11c12.out (Keeps.of_below hb13))
        have HMa1c2a3c4c5c6c7rc8a9c10c11c12c13 := hid (SlR.keeps numR_lasts HMa1c2a3c4c5c6c7rc8a9c10c11c12.out (Keeps.of_below hb13))
        have HRCa3c4c5c6c7rc8a9c10c11c12c13 := hid (Hp.rep.keeps HRCa3c4c5c6c7rc8a9c10c11c12.out (Keeps.of_below hb13))
        have HOc5c6c7rc8a9c10c11c12c13 := hid (SlR.keeps numR_lasts HOc5c6c7rc8a9c10c11c12.out (Keeps.of_below hb13))
        have HBMc6c7rc8a9c10c11c12c13 := hid (SlR.keeps boolR_lasts HBMc6c7rc8a9c10c11c12.out (Keeps.of_below hb13))
        have HBNc7rc8a9c10c11c12c13 := hid (SlR.keeps boolR_lasts HBNc7rc8a9c10c11c12.out (Keeps.of_below hb13))
        have HY6c8a9c10c11c12c13 := hid (Hp.rep.keeps HY6c8a9c10c11c12.out (Keeps.of_below hb13))
        have HN9c8a9c10c11c12c13 := hid (SlR.keeps numR_lasts HN9c8a9c10c11c12.out (Keeps.of_below hb13))
        have HN10c8a9c10c11c12c13 := hid (SlR.keeps numR_lasts HN10c8a9c10c11c12.out (Keeps.of_below hb13))
        have HN11c8a9c10c11c12c13 := hid (SlR.keeps numR_lasts HN11c8a9c10c11c12.out (Keeps.of_below hb13))
        have HZa9c10c11c12c13 := hid (Hp.rep.keeps HZa9c10c11c12.out (Keeps.of_below hb13))
        have HZ1a9c10c11c12c13 := hid (SlR.keeps numR_lasts HZ1a9c10c11c12.out (Keeps.of_below hb13))
        have HZ2a9c10c11c12c13 := hid (SlR.keeps numR_lasts HZ2a9c10c11c12.out (Keeps.of_below hb13))
        have HZ3a9c10c11c12c13 := hid (SlR.keeps numR_lasts HZ3a9c10c11c12.out (Keeps.of_below hb13))
        have HBc13 := hid (HBc12.out.trans (hb13.mono HBc12.out.size))
        have hzz13 := hb13.size
        clear hb13
        obtain ⟨x0a, x0b, x0z⟩ := box2 HXn1c2a3c4c5c6c7rc8a9c10c11c12c13.out
        have hz0 := blk_lt HXn1c2a3c4c5c6c7rc8a9c10c11c12c13.out
        obtain ⟨x1a, x1b, x1z⟩ := box2 HXn3c4c5c6c7rc8a9c10c11c12c13.out
        have hz1 := blk_lt HXn3c4c5c6c7rc8a9c10c11c12c13.out
        obtain ⟨x2a, x2b, x2z⟩ := box2 HXn6c8a9c10c11c12c13.out
        have hz2 := blk_lt HXn6c8a9c10c11c12c13.out
        obtain ⟨x3a, x3b, x3z⟩ := box2 HXn9c10c11c12c13.out
        have hz3 := blk_lt HXn9c10c11c12c13.out
        go_wp2_with fail
        refine (sameHeap_ok h h (fun _ => True) _ [_, _] [_, _] HRCa3c4c5c6c7rc8a9c10c11c12c13.out HHa1c2a3c4c5c6c7rc8a9c10c11c12c13.out).mono ?_
        rintro e w14 ⟨v, rfl, hb14, b, rfl, ht⟩
        obtain rfl : b = true := ht.2 rfl
        clear ht
        clear x0a x0b x0z hz0 x1a x1b x1z hz1 x2a x2b x2z hz2 x3a x3b x3z hz3
        have HXn1c2a3c4c5c6c7rc8a9c10c11c12c13c14 := hid (blk_below HXn1c2a3c4c5c6c7rc8a9c10c11c12c13.out hb14)
        have HXn3c4c5c6c7rc8a9c10c11c12c13c14 := hid (blk_below HXn3c4c5c6c7rc8a9c10c11c12c13.out hb14)
        have HXn6c8a9c10c11c12c13c14 := hid (blk_below HXn6c8a9c10c11c12c13.out hb14)
        have HXn9c10c11c12c13c14 := hid (blk_below HXn9c10c11c12c13.out hb14)
        have HHa1c2a3c4c5c6c7rc8a9c10c11c12c13c14 := hid (Hp.rep.keeps HHa1c2a3c4c5c6c7rc8a9c10c11c12c13.out (Keeps.of_below hb14))
        have HRa1c2a3c4c5c6c7rc8a9c10c11c12c13c14 := hid (SlR.keeps numR_lasts HRa1c2a3c4c5c6c7rc8a9c10c11c12c13.out (Keeps.of_below hb14))
        have HTa1c2a3c4c5c6c7rc8a9c10c11c12c13c14 := hid (SlR.keeps numR_lasts HTa1c2a3c4c5c6c7rc8a9c10c11c12c13.out (Keeps.of_below hb14))
        have HMa1c2a3c4c5c6c7rc8a9c10c11c12c13c14 := hid (SlR.keeps numR_lasts HMa1c2a3c4c5c6c7rc8a9c10c11c12c13.out (Keeps.of_below hb14))
        have HRCa3c4c5c6c7rc8a9c10c11c12c13c14 := hid (Hp.rep.keeps HRCa3c4c5c6c7rc8a9c10c11c12c13.out (Keeps.of_below hb14))
        have HOc5c6c7rc8a9c10c11c12c13c14 := hid (SlR.keeps numR_lasts HOc5c6c7rc8a9c10c11c12c13.out (Keeps.of_below hb14))
        have HBMc6c7rc8a9c10c11c12c13c14 := hid (SlR.keeps boolR_lasts HBMc6c7rc8a9c10c11c12c13.out (Keeps.of_below hb14))
        have HBNc7rc8a9c10c11c12c13c14 := hid (SlR.keeps boolR_lasts HBNc7rc8a9c10c11c12c13.out (Keeps.of_below hb14))
        have HY6c8a9c10c11c12c13c14 := hid (Hp.rep.keeps HY6c8a9c10c11c12c13.out (Keeps.of_below hb14))
        have HN9c8a9c10c11c12c13c14 := hid (SlR.keeps numR_lasts HN9c8a9c10c11c12c13.out (Keeps.of_below hb14))
        have HN10c8a9c10c11c12c13c14 := hid (SlR.keeps numR_lasts HN10c8a9c10c11c12c13.out (Keeps.of_below hb14))
        have HN11c8a9c10c11c12c13c14 := hid (SlR.keeps numR_lasts HN11c8a9c10c11c12c13.out (Keeps.of_below hb14))
        have HZa9c10c11c12c13c14 := hid (Hp.rep.keeps HZa9c10c11c12c13.out (Keeps.of_below hb14))
        have HZ1a9c10c11c12c13c14 := hid (SlR.keeps numR_lasts HZ1a9c10c11c12c13.out (Keeps.of_below hb14))
        have HZ2a9c10c11c12c13c14 := hid (SlR.keeps numR_lasts HZ2a9c10c11c12c13.out (Keeps.of_below hb14))
        have HZ3a9c10c11c12c13c14 := hid (SlR.keeps numR_lasts HZ3a9c10c11c12c13.out (Keeps.of_below hb14))
        have HBc14 := hid (HBc13.out.trans (hb14.mono HBc13.out.size))
        have hzz14 := hb14.size
        clear hb14
        obtain ⟨x0a, x0b, x0z⟩ := box2 HXn1c2a3c4c5c6c7rc8a9c10c11c12c13c14.out
        have hz0 := blk_lt HXn1c2a3c4c5c6c7rc8a9c10c11c12c13c14.out
        obtain ⟨x1a, x1b, x1z⟩ := box2 HXn3c4c5c6c7rc8a9c10c11c12c13c14.out
        have hz1 := blk_lt HXn3c4c5c6c7rc8a9c10c11c12c13c14.out
        obtain ⟨x2a, x2b, x2z⟩ := box2 HXn6c8a9c10c11c12c13c14.out
        have hz2 := blk_lt HXn6c8a9c10c11c12c13c14.out
        obtain ⟨x3a, x3b, x3z⟩ := box2 HXn9c10c11c12c13c14.out
        have hz3 := blk_lt HXn9c10c11c12c13c14.out
        go_wp2_with fail
        refine (sameNumbers_ok roots roots (fun _ => True) _ _ _ HOc5c6c7rc8a9c10c11c12c13c14.out HRa1c2a3c4c5c6c7rc8a9c10c11c12c13c14.out).mono ?_
        rintro e w15 ⟨v, rfl, hb15, b, rfl, ht⟩
        obtain rfl : b = true := ht.2 rfl
        clear ht
        clear x0a x0b x0z hz0 x1a x1b x1z hz1 x2a x2b x2z hz2 x3a x3b x3z hz3
        have HXn1c2a3c4c5c6c7rc8a9c10c11c12c13c14c15 := hid (blk_below HXn1c2a3c4c5c6c7rc8a9c10c11c12c13c14.out hb15)
        have HXn3c4c5c6c7rc8a9c10c11c12c13c14c15 := hid (blk_below HXn3c4c5c6c7rc8a9c10c11c12c13c14.out hb15)
        have HXn6c8a9c10c11c12c13c14c15 := hid (blk_below HXn6c8a9c10c11c12c13c14.out hb15)
        have HXn9c10c11c12c13c14c15 := hid (blk_below HXn9c10c11c12c13c14.out hb15)
        have HHa1c2a3c4c5c6c7rc8a9c10c11c12c13c14c15 := hid (Hp.rep.keeps HHa1c2a3c4c5c6c7rc8a9c10c11c12c13c14.out (Keeps.of_below hb15))
        have HRa1c2a3c4c5c6c7rc8a9c10c11c12c13c14c15 := hid (SlR.keeps numR_lasts HRa1c2a3c4c5c6c7rc8a9c10c11c12c13c14.out (Keeps.of_below hb15))
        have HTa1c2a3c4c5c6c7rc8a9c10c11c12c13c14c15 := hid (SlR.keeps numR_lasts HTa1c2a3c4c5c6c7rc8a9c10c11c12c13c14.out (Keeps.of_below hb15))
        have HMa1c2a3c4c5c6c7rc8a9c10c11c12c13c14c15 := hid (SlR.keeps numR_lasts HMa1c2a3c4c5c6c7rc8a9c10c11c12c13c14.out (Keeps.of_below hb15))
        have HRCa3c4c5c6c7rc8a9c10c11c12c13c14c15 := hid (Hp.rep.keeps HRCa3c4c5c6c7rc8a9c10c11c12c13c14.out (Keeps.of_below hb15))
        have HOc5c6c7rc8a9c10c11c12c13c14c15 := hid (SlR.keeps numR_lasts HOc5c6c7rc8a9c10c11c12c13c14.out (Keeps.of_below hb15))
        have HBMc6c7rc8a9c10c11c12c13c14c15 := hid (SlR.keeps boolR_lasts HBMc6c7rc8a9c10c11c12c13c14.out (Keeps.of_below hb15))
        have HBNc7rc8a9c10c11c12c13c14c15 := hid (SlR.keeps boolR_lasts HBNc7rc8a9c10c11c12c13c14.out (Keeps.of_below hb15))
        have HY6c8a9c10c11c12c13c14c15 := hid (Hp.rep.keeps HY6c8a9c10c11c12c13c14.out (Keeps.of_below hb15))
        have HN9c8a9c10c11c12c13c14c15 := hid (SlR.keeps numR_lasts HN9c8a9c10c11c12c13c14.out (Keeps.of_below hb15))
        have HN10c8a9c10c11c12c13c14c15 := hid (SlR.keeps numR_lasts HN10c8a9c10c11c12c13c14.out (Keeps.of_below hb15))
        have HN11c8a9c10c11c12c13c14c15 := hid (SlR.keeps numR_lasts HN11c8a9c10c11c12c13c14.out (Keeps.of_below hb15))
        have HZa9c10c11c12c13c14c15 := hid (Hp.rep.keeps HZa9c10c11c12c13c14.out (Keeps.of_below hb15))
        have HZ1a9c10c11c12c13c14c15 := hid (SlR.keeps numR_lasts HZ1a9c10c11c12c13c14.out (Keeps.of_below hb15))
        have HZ2a9c10c11c12c13c14c15 := hid (SlR.keeps numR_lasts HZ2a9c10c11c12c13c14.out (Keeps.of_below hb15))
        have HZ3a9c10c11c12c13c14c15 := hid (SlR.keeps numR_lasts HZ3a9c10c11c12c13c14.out (Keeps.of_below hb15))
        have HBc15 := hid (HBc14.out.trans (hb15.mono HBc14.out.size))
        have hzz15 := hb15.size
        clear hb15
        obtain ⟨x0a, x0b, x0z⟩ := box2 HXn1c2a3c4c5c6c7rc8a9c10c11c12c13c14c15.out
        have hz0 := blk_lt HXn1c2a3c4c5c6c7rc8a9c10c11c12c13c14c15.out
        obtain ⟨x1a, x1b, x1z⟩ := box2 HXn3c4c5c6c7rc8a9c10c11c12c13c14c15.out
        have hz1 := blk_lt HXn3c4c5c6c7rc8a9c10c11c12c13c14c15.out
        obtain ⟨x2a, x2b, x2z⟩ := box2 HXn6c8a9c10c11c12c13c14c15.out
        have hz2 := blk_lt HXn6c8a9c10c11c12c13c14c15.out
        obtain ⟨x3a, x3b, x3z⟩ := box2 HXn9c10c11c12c13c14c15.out
        have hz3 := blk_lt HXn9c10c11c12c13c14c15.out
        go_wp2_with fail
        refine (heapsL_ok _).mono ?_
        rintro e w16 ⟨v, rfl, hb16, rfl⟩
        clear x0a x0b x0z hz0 x1a x1b x1z hz1 x2a x2b x2z hz2 x3a x3b x3z hz3
        have HXn1c2a3c4c5c6c7rc8a9c10c11c12c13c14c15c16 := hid (blk_below HXn1c2a3c4c5c6c7rc8a9c10c11c12c13c14c15.out hb16)
        have HXn3c4c5c6c7rc8a9c10c11c12c13c14c15c16 := hid (blk_below HXn3c4c5c6c7rc8a9c10c11c12c13c14c15.out hb16)
        have HXn6c8a9c10c11c12c13c14c15c16 := hid (blk_below HXn6c8a9c10c11c12c13c14c15.out hb16)
        have HXn9c10c11c12c13c14c15c16 := hid (blk_below HXn9c10c11c12c13c14c15.out hb16)
        have HHa1c2a3c4c5c6c7rc8a9c10c11c12c13c14c15c16 := hid (Hp.rep.keeps HHa1c2a3c4c5c6c7rc8a9c10c11c12c13c14c15.out (Keeps.of_below hb16))
        have HRa1c2a3c4c5c6c7rc8a9c10c11c12c13c14c15c16 := hid (SlR.keeps numR_lasts HRa1c2a3c4c5c6c7rc8a9c10c11c12c13c14c15.out (Keeps.of_below hb16))
        have HTa1c2a3c4c5c6c7rc8a9c10c11c12c13c14c15c16 := hid (SlR.keeps numR_lasts HTa1c2a3c4c5c6c7rc8a9c10c11c12c13c14c15.out (Keeps.of_below hb16))
        have HMa1c2a3c4c5c6c7rc8a9c10c11c12c13c14c15c16 := hid (SlR.keeps numR_lasts HMa1c2a3c4c5c6c7rc8a9c10c11c12c13c14c15.out (Keeps.of_below hb16))
        have HRCa3c4c5c6c7rc8a9c10c11c12c13c14c15c16 := hid (Hp.rep.keeps HRCa3c4c5c6c7rc8a9c10c11c12c13c14c15.out (Keeps.of_below hb16))
        have HOc5c6c7rc8a9c10c11c12c13c14c15c16 := hid (SlR.keeps numR_lasts HOc5c6c7rc8a9c10c11c12c13c14c15.out (Keeps.of_below hb16))
        have HBMc6c7rc8a9c10c11c12c13c14c15c16 := hid (SlR.keeps boolR_lasts HBMc6c7rc8a9c10c11c12c13c14c15.out (Keeps.of_below hb16))
        have HBNc7rc8a9c10c11c12c13c14c15c16 := hid (SlR.keeps boolR_lasts HBNc7rc8a9c10c11c12c13c14c15.out (Keeps.of_below hb16))
        have HY6c8a9c10c11c12c13c14c15c16 := hid (Hp.rep.keeps HY6c8a9c10c11c12c13c14c15.out (Keeps.of_below hb16))
        have HN9c8a9c10c11c12c13c14c15c16 := hid (SlR.keeps numR_lasts HN9c8a9c10c11c12c13c14c15.out (Keeps.of_below hb16))
        have HN10c8a9c10c11c12c13c14c15c16 := hid (SlR.keeps numR_lasts HN10c8a9c10c11c12c13c14c15.out (Keeps.of_below hb16))
        have HN11c8a9c10c11c12c13c14c15c16 := hid (SlR.keeps numR_lasts HN11c8a9c10c11c12c13c14c15.out (Keeps.of_below hb16))
        have HZa9c10c11c12c13c14c15c16 := hid (Hp.rep.keeps HZa9c10c11c12c13c14c15.out (Keeps.of_below hb16))
        have HZ1a9c10c11c12c13c14c15c16 := hid (SlR.keeps numR_lasts HZ1a9c10c11c12c13c14c15.out (Keeps.of_below hb16))
        have HZ2a9c10c11c12c13c14c15c16 := hid (SlR.keeps numR_lasts HZ2a9c10c11c12c13c14c15.out (Keeps.of_below hb16))
        have HZ3a9c10c11c12c13c14c15c16 := hid (SlR.keeps numR_lasts HZ3a9c10c11c12c13c14c15.out (Keeps.of_below hb16))
        have HBc16 := hid (HBc15.out.trans (hb16.mono HBc15.out.size))
        have hzz16 := hb16.size
        clear hb16
        obtain ⟨x0a, x0b, x0z⟩ := box2 HXn1c2a3c4c5c6c7rc8a9c10c11c12c13c14c15c16.out
        have hz0 := blk_lt HXn1c2a3c4c5c6c7rc8a9c10c11c12c13c14c15c16.out
        obtain ⟨x1a, x1b, x1z⟩ := box2 HXn3c4c5c6c7rc8a9c10c11c12c13c14c15c16.out
        have hz1 := blk_lt HXn3c4c5c6c7rc8a9c10c11c12c13c14c15c16.out
        obtain ⟨x2a, x2b, x2z⟩ := box2 HXn6c8a9c10c11c12c13c14c15c16.out
        have hz2 := blk_lt HXn6c8a9c10c11c12c13c14c15c16.out
        obtain ⟨x3a, x3b, x3z⟩ := box2 HXn9c10c11c12c13c14c15c16.out
        have hz3 := blk_lt HXn9c10c11c12c13c14c15c16.out
        go_wp2_with fail
        go_ret
        exact ⟨_, rfl, HBc16.out, rfl⟩
end Go.Proofs.Ytlpmfkpefoegeaa
