/-
  A clause and a program, as the document's own answer has them.
-/
import Derived.Test.YtlpmfkpefoegeabDoorQIsQuery
import Derived.Test.YtlpmfkpefoegeabDoorQEverybody
import Derived.Test.YtlpmfkpefoegeabDoorQClause2
namespace Go.Proofs.YtlpmfkpefoegeabDoor
set_option linter.unusedVariables false
set_option linter.unusedSimpArgs false
open Go.RowKit

set_option maxHeartbeats 2000000 in
theorem isClause_ok (c : Cl) (hnd : c.nodes ≤ 4194304) (A : Nat → Prop) (w : World) (vs : List Value) (hc : Cl.rep A w c vs) :
    Calls Tryd.prog 24 #[.agg vs.toArray] w (Pure w (BoolP c.Good)) := by
  obtain ⟨h, l, v⟩ := c
  obtain ⟨a, ac, b, bc, rfl, hh, hb, hi⟩ := hc
  simp only [Cl.nodes] at hnd
  simp only at hh hb hi
  obtain ⟨_, _, -, -, e, -, -, hbl, -⟩ := hb.at
  have HH := hid hh
  have HBD := hid hb
  have HI := hid hi
  have HN1 := hid (show h.nodes ≤ 4194304 by omega)
  have HN2 := hid (show Tm.nodesL l ≤ 4194304 by omega)
  clear hh hb hi e hnd
  have HX := hid (blk_new w (.cells #[.int .i64 h.kind, .int .i64 h.n, .string h.s, .slice a h.args.length ac, .slice b l.length bc, .int .i64 v] 39))
  have HB := hid ((Below.refl _ w).alloc (Nat.le_refl _) (.cells #[.int .i64 h.kind, .int .i64 h.n, .string h.s, .slice a h.args.length ac, .slice b l.length bc, .int .i64 v] 39))
  have HK := hid (Keeps.alloc A w (.cells #[.int .i64 h.kind, .int .i64 h.n, .string h.s, .slice a h.args.length ac, .slice b l.length bc, .int .i64 v] 39))
  go_enter Tryd.func24, Tryd.ntmps24
  go_wp2_with fail
  have HC1 := hid (isQuery_ok l v HN2.out HI.out A _ _ (SlR.keeps Tm.rep_lasts HBD.out HK.out))
  generalize w.alloc (.cells #[.int .i64 h.kind, .int .i64 h.n, .string h.s, .slice a h.args.length ac, .slice b l.length bc, .int .i64 v] 39) = w0 at HX HB HK HC1 ⊢
  refine (HC1.out).mono ?_
  rintro e w1 ⟨r, rfl, hb1, g, rfl, hg⟩
  have HX1 := hid (blk_below HX.out hb1)
  have HB1 := hid (HB.out.trans (hb1.mono HB.out.size))
  have HK1 := hid (HK.out.trans (Keeps.of_below hb1))
  clear hb1 HC1
  obtain ⟨x0, x1, x2, x3, x4, x5, xf⟩ := blk6 HX1.out
  cases g with
  | false =>
    have HNG := hid (show ¬ GoodQ l v from fun k => by have := hg.2 k; cases this)
    clear hg
    go_wp2_with fail
    go_ret
    exact ⟨_, rfl, HB1.out, _, rfl, ⟨(fun h => by cases h), fun k => absurd k.1 HNG.out⟩⟩
  | true =>
    have HGD := hid (hg.1 rfl)
    clear hg
    go_wp2_with fail
    refine (small_ok h v HN1.out HI.out A _ _ (Tm.rep_lasts.1 _ _ _ _ _ HH.out HK1.out)).mono ?_
    rintro e w2 ⟨r, rfl, hb2, g, rfl, hg⟩
    clear x0 x1 x2 x3 x4 x5 xf
    have HX2 := hid (blk_below HX1.out hb2)
    have HB2 := hid (HB1.out.trans (hb2.mono HB1.out.size))
    have HK2 := hid (HK1.out.trans (Keeps.of_below hb2))
    clear hb2
    obtain ⟨x0, x1, x2, x3, x4, x5, xf⟩ := blk6 HX2.out
    cases g with
    | false =>
      have HNG := hid (show ¬ SmallP h v from fun k => by have := hg.2 k; cases this)
      clear hg
      go_wp2_with fail
      go_ret
      exact ⟨_, rfl, HB2.out, _, rfl, ⟨(fun h => by cases h), fun k => absurd ⟨k.2.1, k.2.2.1⟩ HNG.out⟩⟩
    | true =>
      have HFT := hid (hg.1 rfl)
      clear hg
      go_wp2_with fail
      refine (everybody_ok h A _ _ (Tm.rep_lasts.1 _ _ _ _ _ HH.out HK2.out)).mono ?_
      rintro e w3 ⟨r, rfl, hb3, g, rfl, hg⟩
      clear x0 x1 x2 x3 x4 x5 xf
      have HB3 := hid (HB2.out.trans (hb3.mono HB2.out.size))
      clear hb3
      cases g with
      | true =>
        have HKN := hid (hg.1 rfl)
        clear hg
        go_wp2_with fail
        go_ret
        exact ⟨_, rfl, HB3.out, _, rfl, ⟨(fun h => by cases h), fun k => absurd HKN.out k.2.2.2⟩⟩
      | false =>
        have HNK := hid (show ¬ h.Known from fun k => by have := hg.2 k; cases this)
        clear hg
        go_wp2_with fail
        go_ret
        exact ⟨_, rfl, HB3.out, _, rfl, ⟨fun _ => ⟨HGD.out, HFT.out.1, HFT.out.2, HNK.out⟩, fun _ => rfl⟩⟩

set_option maxHeartbeats 2000000 in
theorem isProgram_ok (l : List Cl) (hnd : clsNodes l ≤ 4194304) (A : Nat → Prop) (w : World) (u : Value) (hu : ClsR A w l u) :
    Calls Tryd.prog 30 #[u] w (Pure w (BoolP (GoodP l))) := by
  obtain ⟨a, cap, b, off, rfl, hlc, hcm, hlb, ha, he⟩ := hu.at
  have HE := hid he
  have HA := hid ha
  have HND := hid hnd
  clear hu he ha hnd
  go_enter Tryd.func30, Tryd.ntmps30
  go_upto_region 1 with fail
  go_cut [3] (fun o W => (∃ g, o = .bool g ∧ (g = true ↔ l.length ≤ 24)) ∧ W = w)
  case first =>
    by_cases h3 : l.length ≤ 24
    · have h3' : decide ((l.length : Int) ≤ 24) = true := by simp; omega
      go_wp2_with fail
      go_meet
      exact ⟨⟨_, rfl, by simp [h3]⟩, rfl⟩
    · have h3' : decide ((l.length : Int) ≤ 24) = false := by simp; omega
      go_wp2_with fail
      go_meet
      exact ⟨⟨_, rfl, ⟨(fun h => by first | (cases h; done) | (simp at h; omega)), fun h => absurd h (by omega)⟩⟩, rfl⟩
  case rest =>
    obtain ⟨⟨g0, rfl, hg0⟩, hW⟩ := hcut
    have hW := hW.symm
    subst hW
    have HG0 := hid hg0
    clear hg0
    go_wp2_with fail
    go_loopw [11, 3] (fun i o W => ∃ (j : Nat) (g : Bool), j ≤ l.length ∧ i = .int .i64 (j : Int) ∧ o = .bool g ∧ Below w.heap.size w W ∧ (g = true ↔ g0 = true ∧ ∀ q (hq : q < l.length), q < j → l[q].Good)) (fun i _ _ => l.length - (intOf i).toNat)
    case atStart => exact ⟨0, g0, Nat.zero_le _, rfl, rfl, Below.refl _ _, ⟨fun h => ⟨h, fun q _ h => absurd h (Nat.not_lt_zero _)⟩, fun h => h.1⟩⟩
    case round =>
      obtain ⟨j, g, hj, rfl, rfl, hb, hq⟩ := hrel
      have HB := hid hb
      have HQ := hid hq
      have hz := hb.size
      clear hb hq
      by_cases hlt : j < l.length
      · obtain ⟨rfl, hAb⟩ := HA.out (by omega)
        obtain ⟨a, ac, bd, bc, c0, c1, c2, c3, c4, c5, hr⟩ := cl_cells HE.out hAb (Keeps.of_below HB.out) hlt
        have hlt' : (j : Int) < (l.length : Int) := by omega
        have HLT := hid hlt
        obtain ⟨t, ht⟩ : ∃ t, t = l[j]'hlt := ⟨_, rfl⟩
        have hmem : t ∈ l := by rw [ht]; exact List.getElem_mem _
        rw [← ht] at c0 c1 c2 c3 c4 c5 hr
        have hn := clsNodes_mem hmem
        have hnn := HND.out
        have HT := hid ht
        have HR := hid hr
        have HN := hid (show t.nodes ≤ 4194304 by omega)
        clear hr ht hmem hn hnn
        cases g with
        | false =>
          have HB1 := hid (HB.out.alloc (by omega) (.cells #[.int .i64 t.head.kind, .int .i64 t.head.n, .string t.head.s, .slice a t.head.args.length ac, .slice bd t.body.length bc, .int .i64 t.vars] 39))
          go_wp2_with fail
          go_roundw
          case rel =>
            refine ⟨j + 1, false, by omega, by go_num, rfl, HB1.out, ⟨(fun h => by cases h), fun h => ?_⟩⟩
            have := HQ.out.2 ⟨h.1, fun q hq hqj => h.2 q hq (by omega)⟩
            cases this
          case measure => first | (simp [intOf]; done) | (simp [intOf]; omega)
        | true =>
          go_wp2_with fail
          refine (isClause_ok t HN.out A _ _ (Cl.rep_lasts.1 _ _ _ _ _ HR.out (Keeps.alloc _ _ _))).mono ?_
          rintro e w1 ⟨r, rfl, hb, g, rfl, hg⟩
          have HB1 := hid ((HB.out.alloc (by omega) (.cells #[.int .i64 t.head.kind, .int .i64 t.head.n, .string t.head.s, .slice a t.head.args.length ac, .slice bd t.body.length bc, .int .i64 t.vars] 39)).trans (hb.mono (by simp; omega)))
          have HGG := hid hg
          clear hb c0 c1 c2 c3 c4 c5 hg
          go_wp2_with fail
          go_roundw
          case rel =>
            refine ⟨j + 1, g, by omega, by go_num, rfl, HB1.out, ⟨fun h => ⟨(HQ.out.1 (by first | trivial | rfl)).1, fun q hq hqj => ?_⟩, fun h => HGG.out.2 (by rw [HT.out]; exact h.2 j HLT.out (by omega))⟩⟩
            by_cases e : q = j
            · subst e; rw [← HT.out]; exact HGG.out.1 h
            · exact (HQ.out.1 (by first | trivial | rfl)).2 q hq (by omega)
          case measure => first | (simp [intOf]; done) | (simp [intOf]; omega)
      · have hlt' : ¬ (j : Int) < (l.length : Int) := by omega
        have HFIN := hid (show g = true ↔ GoodP l from by
          rw [HQ.out, HG0.out]
          constructor
          · rintro ⟨h1, h4⟩
            refine ⟨h1, fun x hx => ?_⟩
            obtain ⟨q, hq, rfl⟩ := List.mem_iff_getElem.1 hx
            exact h4 q hq (by omega)
          · rintro ⟨h1, h4⟩
            exact ⟨h1, fun q hq _ => h4 _ (List.getElem_mem hq)⟩)
        go_wp2_with fail
        go_ret
        exact ⟨_, rfl, HB.out, _, rfl, HFIN.out⟩
end Go.Proofs.YtlpmfkpefoegeabDoor
