/-
  A clause and a program, as the document's own answer has them.
  The document's prover: Solved.
-/
import Derived.Test.YtlpmfkpefoegeabDoorQIsQuery
import Derived.Test.YtlpmfkpefoegeabDoorQEverybody
import Derived.Test.YtlpmfkpefoegeabDoorROpenC
import Derived.Test.YtlpmfkpefoegeabDoorQProvP
import Derived.Test.YtlpmfkpefoegeabDoorQSolveZ
namespace Go.Proofs.YtlpmfkpefoegeabDoor
set_option linter.unusedVariables false
set_option linter.unusedSimpArgs false
open Go.RowKit
set_option maxHeartbeats 2000000 in
theorem isClause_ok (c : Cl) (hnd : c.nodes ≤ 4194304) (A : Nat → Prop) (w : World) (vs : List Value) (hc : Cl.rep A w c vs) :
    Calls Tryd.prog 24 #[.agg vs.toArray] w (Pure w (BoolP c.Good)) := by
  obtain ⟨h, l, v⟩ := c
  obtain ⟨a, ac, b, bc, rfl, hh, hb, hi⟩ := hc
  simp only [Cl.nodes] at hnd
  simp only at hh hb hi
  obtain ⟨_, _, -, -, e, -, -, hbl, -⟩ := hb.at
  have HH := hid hh
  have HBD := hid hb
  have HI := hid hi
  have HN1 := hid (show h.nodes ≤ 4194304 by omega)
  have HN2 := hid (show Tm.nodesL l ≤ 4194304 by omega)
  clear hh hb hi e hnd
  have HX := hid (blk_new w (.cells #[.int .i64 h.kind, .int .i64 h.n, .string h.s, .slice a h.args.length ac, .slice b l.length bc, .int .i64 v] 39))
  have HB := hid ((Below.refl _ w).alloc (Nat.le_refl _) (.cells #[.int .i64 h.kind, .int .i64 h.n, .string h.s, .slice a h.args.length ac, .slice b l.length bc, .int .i64 v] 39))
  have HK := hid (Keeps.alloc A w (.cells #[.int .i64 h.kind, .int .i64 h.n, .string h.s, .slice a h.args.length ac, .slice b l.length bc, .int .i64 v] 39))
  go_enter Tryd.func24, Tryd.ntmps24
  go_wp2_with fail
  have HC1 := hid (isQuery_ok l v HN2.out HI.out A _ _ (SlR.keeps Tm.rep_lasts HBD.out HK.out))
  generalize w.alloc (.cells #[.int .i64 h.kind, .int .i64 h.n, .string h.s, .slice a h.args.length ac, .slice b l.length bc, .int .i64 v] 39) = w0 at HX HB HK HC1 ⊢
  refine (HC1.out).mono ?_
  rintro e w1 ⟨r, rfl, hb1, g, rfl, hg⟩
  have HX1 := hid (blk_below HX.out hb1)
  have HB1 := hid (HB.out.trans (hb1.mono HB.out.size))
  have HK1 := hid (HK.out.trans (Keeps.of_below hb1))
  clear hb1 HC1
  obtain ⟨x0, x1, x2, x3, x4, x5, xf⟩ := blk6 HX1.out
  cases g with
  | false =>
    have HNG := hid (show ¬ GoodQ l v from fun k => by have := hg.2 k; cases this)
    clear hg
    go_wp2_with fail
    go_ret
    exact ⟨_, rfl, HB1.out, _, rfl, ⟨(fun h => by cases h), fun k => absurd k.1 HNG.out⟩⟩
  | true =>
    have HGD := hid (hg.1 rfl)
    clear hg
    go_wp2_with fail
    refine (small_ok h v HN1.out HI.out A _ _ (Tm.rep_lasts.1 _ _ _ _ _ HH.out HK1.out)).mono ?_
    rintro e w2 ⟨r, rfl, hb2, g, rfl, hg⟩
    clear x0 x1 x2 x3 x4 x5 xf
    have HX2 := hid (blk_below HX1.out hb2)
    have HB2 := hid (HB1.out.trans (hb2.mono HB1.out.size))
    have HK2 := hid (HK1.out.trans (Keeps.of_below hb2))
    clear hb2
    obtain ⟨x0, x1, x2, x3, x4, x5, xf⟩ := blk6 HX2.out
    cases g with
    | false =>
      have HNG := hid (show ¬ SmallP h v from fun k => by have := hg.2 k; cases this)
      clear hg
      go_wp2_with fail
      go_ret
      exact ⟨_, rfl, HB2.out, _, rfl, ⟨(fun h => by cases h), fun k => absurd ⟨k.2.1, k.2.2.1⟩ HNG.out⟩⟩
    | true =>
      have HFT := hid (hg.1 rfl)
      clear hg
      go_wp2_with fail
      refine (everybody_ok h A _ _ (Tm.rep_lasts.1 _ _ _ _ _ HH.out HK2.out)).mono ?_
      rintro e w3 ⟨r, rfl, hb3, g, rfl, hg⟩
      clear x0 x1 x2 x3 x4 x5 xf
      have HB3 := hid (HB2.out.trans (hb3.mono HB2.out.size))
      clear hb3
      cases g with
      | true =>
        have HKN := hid (hg.1 rfl)
        clear hg
        go_wp2_with fail
        go_ret
        exact ⟨_, rfl, HB3.out, _, rfl, ⟨(fun h => by cases h), fun k => absurd HKN.out k.2.2.2⟩⟩
      | false =>
        have HNK := hid (show ¬ h.Known from fun k => by have := hg.2 k; cases this)
        clear hg
        go_wp2_with fail
        go_ret
        exact ⟨_, rfl, HB3.out, _, rfl, ⟨fun _ => ⟨HGD.out, HFT.out.1, HFT.out.2, HNK.out⟩, fun _ => rfl⟩⟩
set_option maxHeartbeats 2000000 in
theorem isProgram_ok (l : List Cl) (hnd : clsNodes l ≤ 4194304) (A : Nat → Prop) (w : World) (u : Value) (hu : ClsR A w l u) :
    Calls Tryd.prog 30 #[u] w (Pure w (BoolP (GoodP l))) := by
  obtain ⟨a, cap, b, off, rfl, hlc, hcm, hlb, ha, he⟩ := hu.at
  have HE := hid he
  have HA := hid ha
  have HND := hid hnd
  clear hu he ha hnd
  go_enter Tryd.func30, Tryd.ntmps30
  go_upto_region 1 with fail
  go_cut [3] (fun o W => (∃ g, o = .bool g ∧ (g = true ↔ l.length ≤ 24)) ∧ W = w)
  case first =>
    by_cases h3 : l.length ≤ 24
    · have h3' : decide ((l.length : Int) ≤ 24) = true := by simp; omega
      go_wp2_with fail
      go_meet
      exact ⟨⟨_, rfl, by simp [h3]⟩, rfl⟩
    · have h3' : decide ((l.length : Int) ≤ 24) = false := by simp; omega
      go_wp2_with fail
      go_meet
      exact ⟨⟨_, rfl, ⟨(fun h => by first | (cases h; done) | (simp at h; omega)), fun h => absurd h (by omega)⟩⟩, rfl⟩
  case rest =>
    obtain ⟨⟨g0, rfl, hg0⟩, hW⟩ := hcut
    have hW := hW.symm
    subst hW
    have HG0 := hid hg0
    clear hg0
    go_wp2_with fail
    go_loopw [11, 3] (fun i o W => ∃ (j : Nat) (g : Bool), j ≤ l.length ∧ i = .int .i64 (j : Int) ∧ o = .bool g ∧ Below w.heap.size w W ∧ (g = true ↔ g0 = true ∧ ∀ q (hq : q < l.length), q < j → l[q].Good)) (fun i _ _ => l.length - (intOf i).toNat)
    case atStart => exact ⟨0, g0, Nat.zero_le _, rfl, rfl, Below.refl _ _, ⟨fun h => ⟨h, fun q _ h => absurd h (Nat.not_lt_zero _)⟩, fun h => h.1⟩⟩
    case round =>
      obtain ⟨j, g, hj, rfl, rfl, hb, hq⟩ := hrel
      have HB := hid hb
      have HQ := hid hq
      have hz := hb.size
      clear hb hq
      by_cases hlt : j < l.length
      · obtain ⟨rfl, hAb⟩ := HA.out (by omega)
        obtain ⟨a, ac, bd, bc, c0, c1, c2, c3, c4, c5, hr⟩ := cl_cells HE.out hAb (Keeps.of_below HB.out) hlt
        have hlt' : (j : Int) < (l.length : Int) := by omega
        have HLT := hid hlt
        obtain ⟨t, ht⟩ : ∃ t, t = l[j]'hlt := ⟨_, rfl⟩
        have hmem : t ∈ l := by rw [ht]; exact List.getElem_mem _
        rw [← ht] at c0 c1 c2 c3 c4 c5 hr
        have hn := clsNodes_mem hmem
        have hnn := HND.out
        have HT := hid ht
        have HR := hid hr
        have HN := hid (show t.nodes ≤ 4194304 by omega)
        clear hr ht hmem hn hnn
        cases g with
        | false =>
          have HB1 := hid (HB.out.alloc (by omega) (.cells #[.int .i64 t.head.kind, .int .i64 t.head.n, .string t.head.s, .slice a t.head.args.length ac, .slice bd t.body.length bc, .int .i64 t.vars] 39))
          go_wp2_with fail
          go_roundw
          case rel =>
            refine ⟨j + 1, false, by omega, by go_num, rfl, HB1.out, ⟨(fun h => by cases h), fun h => ?_⟩⟩
            have := HQ.out.2 ⟨h.1, fun q hq hqj => h.2 q hq (by omega)⟩
            cases this
          case measure => first | (simp [intOf]; done) | (simp [intOf]; omega)
        | true =>
          go_wp2_with fail
          refine (isClause_ok t HN.out A _ _ (Cl.rep_lasts.1 _ _ _ _ _ HR.out (Keeps.alloc _ _ _))).mono ?_
          rintro e w1 ⟨r, rfl, hb, g, rfl, hg⟩
          have HB1 := hid ((HB.out.alloc (by omega) (.cells #[.int .i64 t.head.kind, .int .i64 t.head.n, .string t.head.s, .slice a t.head.args.length ac, .slice bd t.body.length bc, .int .i64 t.vars] 39)).trans (hb.mono (by simp; omega)))
          have HGG := hid hg
          clear hb c0 c1 c2 c3 c4 c5 hg
          go_wp2_with fail
          go_roundw
          case rel =>
            refine ⟨j + 1, g, by omega, by go_num, rfl, HB1.out, ⟨fun h => ⟨(HQ.out.1 (by first | trivial | rfl)).1, fun q hq hqj => ?_⟩, fun h => HGG.out.2 (by rw [HT.out]; exact h.2 j HLT.out (by omega))⟩⟩
            by_cases e : q = j
            · subst e; rw [← HT.out]; exact HGG.out.1 h
            · exact (HQ.out.1 (by first | trivial | rfl)).2 q hq (by omega)
          case measure => first | (simp [intOf]; done) | (simp [intOf]; omega)
      · have hlt' : ¬ (j : Int) < (l.length : Int) := by omega
        have HFIN := hid (show g = true ↔ GoodP l from by
          rw [HQ.out, HG0.out]
          constructor
          · rintro ⟨h1, h4⟩
            refine ⟨h1, fun x hx => ?_⟩
            obtain ⟨q, hq, rfl⟩ := List.mem_iff_getElem.1 hx
            exact h4 q hq (by omega)
          · rintro ⟨h1, h4⟩
            exact ⟨h1, fun q hq _ => h4 _ (List.getElem_mem hq)⟩)
        go_wp2_with fail
        go_ret
        exact ⟨_, rfl, HB.out, _, rfl, HFIN.out⟩
end Go.Proofs.YtlpmfkpefoegeabDoor

namespace Go.Proofs.YtlpmfkpefoegeabDoor
set_option linter.unusedVariables false
set_option linter.unusedSimpArgs false
open Go.RowKit
theorem prove_ok {base : Nat} {P : List Cl} {q g : Nat} {pv : Value} (hP : GoodP P) : ∀ k, ProveAt base P q g pv k
  | 0 => fun _ _ p _ _ _ _ h => absurd h (Nat.not_lt_zero _)
  | k + 1 => prove_step hP k (prove_ok hP k)
theorem provedR_cases (P : List Cl) (Q : List Tm) (vars fuel : Int) :
    (¬ (GoodP P ∧ GoodQ Q vars) ∧ provedR P Q vars fuel = ([], 1)) ∨ ((GoodP P ∧ GoodQ Q vars) ∧ (fuel < 0 ∨ fuel > 150) ∧ provedR P Q vars fuel = ([], 2)) ∨
    ((GoodP P ∧ GoodQ Q vars) ∧ 0 ≤ fuel ∧ fuel ≤ 150 ∧ provedR P Q vars fuel = ((if (proveR P vars.toNat (fuel.toNat + 1) (Q.map fun t => ⟨t, 0⟩) [] ⟨fuel.toNat, vars, [], false, 0⟩).2.ended = true then (proveR P vars.toNat (fuel.toNat + 1) (Q.map fun t => ⟨t, 0⟩) [] ⟨fuel.toNat, vars, [], false, 0⟩).2 else (proveR P vars.toNat (fuel.toNat + 1) (Q.map fun t => ⟨t, 0⟩) [] ⟨fuel.toNat, vars, [], false, 0⟩).2.put 2).out, 0)) := by
  unfold provedR
  by_cases h1 : GoodP P ∧ GoodQ Q vars
  · by_cases h2 : fuel < 0 ∨ fuel > 150
    · exact .inr (.inl ⟨h1, h2, by rw [if_neg (not_not_intro h1), if_pos h2]⟩)
    · exact .inr (.inr ⟨h1, by omega, by omega, by rw [if_neg (not_not_intro h1), if_neg h2]⟩)
  · exact .inl ⟨h1, by rw [if_pos h1]⟩
section
variable {P : List Cl} {Q : List Tm} {vars fuel : Int}
set_option maxHeartbeats 2000000 in
theorem psolved_bad (h0 : ¬ (GoodP P ∧ GoodQ Q vars) ∨ (fuel < 0 ∨ fuel > 150)) (hnp : clsNodes P ≤ 4194304) (hnq : Tm.nodesL Q ≤ 4194304) (hv : I64 vars) (hf : I64 fuel) (w : World) (pv qv : Value) (hpv : ClsR (fun b => b < w.heap.size) w P pv) (hqv : TmsR (fun b => b < w.heap.size) w Q qv) :
    Calls Tryd.prog 39 #[pv, qv, .int .i64 vars, .int .i64 fuel] w (SAllPost w (provedR P Q vars fuel)) := by
  have HGP := hid (isProgram_ok P hnp _ w pv hpv)
  have HGQ := hid (fun (w' : World) (hb : Below w.heap.size w w') => isQuery_ok Q vars hnq hv _ w' qv (SlR.keeps Tm.rep_lasts hqv (Keeps.of_below hb)))
  have HV := hid hv
  have HS := hid (provedR_cases P Q vars fuel)
  have H0 := hid h0
  obtain ⟨pa, pc, -, -, rfl, -⟩ := SlR.at hpv
  obtain ⟨qa, qc, -, -, rfl, -⟩ := SlR.at hqv
  clear hpv hqv h0 hv
  go_enter Tryd.func39, Tryd.ntmps39
  go_wp2_with fail
  refine (HGP.out).mono ?_
  rintro e w1 ⟨v, rfl, hb1, b1, rfl, hgb1⟩
  have HB1 := hid hb1
  have HG1 := hid hgb1
  clear hb1 hgb1
  cases b1 with
  | false =>
    have hres : provedR P Q vars fuel = ([], 1) := by
      rcases HS.out with ⟨_, h⟩ | ⟨h, _⟩ | ⟨h, _⟩
      · exact h
      · have := HG1.out.2 h.1; cases this
      · have := HG1.out.2 h.1; cases this
    have HR := hid hres
    clear hres
    go_wp2_with fail
    go_ret2
    rw [HR.out]
    exact ⟨_, rfl, HB1.out, SlR.nil ..⟩
  | true =>
    go_wp2_with fail
    refine (HGQ.out w1 HB1.out).mono ?_
    rintro e w2 ⟨v, rfl, hb2, b2, rfl, hgb2⟩
    have HB2 := hid (HB1.out.trans (hb2.mono HB1.out.size))
    have HG2 := hid hgb2
    clear hb2 hgb2
    cases b2 with
    | false =>
      have hres : provedR P Q vars fuel = ([], 1) := by
        rcases HS.out with ⟨_, h⟩ | ⟨h, _⟩ | ⟨h, _⟩
        · exact h
        · have := HG2.out.2 h.2; cases this
        · have := HG2.out.2 h.2; cases this
      have HR := hid hres
      clear hres
      go_wp2_with fail
      go_ret2
      rw [HR.out]
      exact ⟨_, rfl, HB2.out, SlR.nil ..⟩
    | true =>
      have hfb : fuel < 0 ∨ fuel > 150 := by
        rcases H0.out with h | h
        · exact absurd ⟨HG1.out.1 (by simp), HG2.out.1 (by simp)⟩ h
        · exact h
      have hres : provedR P Q vars fuel = ([], 2) := by
        rcases HS.out with ⟨h, _⟩ | ⟨_, _, h⟩ | ⟨_, h1, h2, _⟩
        · exact absurd ⟨HG1.out.1 (by simp), HG2.out.1 (by simp)⟩ h
        · exact h
        · omega
      have HR := hid hres
      clear hres
      by_cases h1 : fuel < 0
      · have hd : decide (fuel < 0) = true := by simpa using h1
        go_wp2_with fail
        go_ret2
        rw [HR.out]
        exact ⟨_, rfl, HB2.out, SlR.nil ..⟩
      · have hd : decide (fuel < 0) = false := by simpa using h1
        have hd2 : (150 : Int) < fuel := by omega
        have hd3 : decide (150 < fuel) = true := by simpa using hd2
        go_wp2_with fail
        go_ret2
        rw [HR.out]
        exact ⟨_, rfl, HB2.out, SlR.nil ..⟩
set_option maxRecDepth 100000 in
set_option maxHeartbeats 8000000 in
theorem psolved_good (hgp : GoodP P) (hgq : GoodQ Q vars) (hf0 : 0 ≤ fuel) (hf1 : fuel ≤ 150) (hnp : clsNodes P ≤ 4194304) (hnq : Tm.nodesL Q ≤ 4194304) (w : World) (pv qv : Value) (hpv : ClsR (fun b => b < w.heap.size) w P pv) (hqv : TmsR (fun b => b < w.heap.size) w Q qv) :
    Calls Tryd.prog 39 #[pv, qv, .int .i64 vars, .int .i64 fuel] w (SAllPost w (provedR P Q vars fuel)) := by
  have hv0 := hgq.1
  have hv8 := hgq.2.1
  have hq5 := hgq.2.2.1
  have HGP := hid (isProgram_ok P hnp _ w pv hpv)
  have HGQ := hid (fun (w' : World) (hb : Below w.heap.size w w') => isQuery_ok Q vars hnq (by unfold I64; omega) _ w' qv (SlR.keeps Tm.rep_lasts hqv (Keeps.of_below hb)))
  have HPR := hid hpv
  have HQR := hid hqv
  obtain ⟨vn, rfl⟩ := Int.eq_ofNat_of_zero_le hv0
  obtain ⟨fn, rfl⟩ := Int.eq_ofNat_of_zero_le hf0
  have HS := hid (show provedR P Q (vn : Int) (fn : Int) = ((if (proveR P vn (fn + 1) (Q.map fun t => ⟨t, 0⟩) [] ⟨fn, (vn : Int), [], false, 0⟩).2.ended = true then (proveR P vn (fn + 1) (Q.map fun t => ⟨t, 0⟩) [] ⟨fn, (vn : Int), [], false, 0⟩).2 else (proveR P vn (fn + 1) (Q.map fun t => ⟨t, 0⟩) [] ⟨fn, (vn : Int), [], false, 0⟩).2.put 2).out, 0) by
    rcases provedR_cases P Q (vn : Int) (fn : Int) with ⟨h, _⟩ | ⟨_, h, _⟩ | ⟨_, _, _, h⟩
    · exact absurd ⟨hgp, hgq⟩ h
    · omega
    · exact h)
  have HBN := hid (proveR_bnd (P := P) (q := vn) (fun c hc => ⟨(hgp.2 c hc).1.1, (hgp.2 c hc).1.2.1⟩) (fn + 1) fn (Nat.lt_succ_self _) (Q.map fun t => ⟨t, 0⟩) [] ⟨fn, (vn : Int), [], false, 0⟩ rfl (by simp) (Nat.le_refl _))
  have HIP := hid hgp
  have HIQ := hid hgq
  obtain ⟨pa, pc, -, -, rfl, hpl1, hpl2, hpl3, -⟩ := SlR.at hpv
  obtain ⟨qa, qc, qb, qoff, rfl, hql1, hql2, hql3, hqa, hqe⟩ := SlR.at hqv
  have HQA := hid hqa
  have HQE := hid hqe
  unfold maxLen at hpl2 hql2
  clear hpv hqv hgp hgq hqa hqe
  go_enter Tryd.func39, Tryd.ntmps39
  go_wp2_with fail
  refine (HGP.out).mono ?_
  rintro e w1 ⟨v, rfl, hb1, b1, rfl, hgb1⟩
  obtain rfl : b1 = true := hgb1.2 HIP.out
  have HB1 := hid hb1
  clear hb1 hgb1
  go_wp2_with fail
  refine (HGQ.out w1 HB1.out).mono ?_
  rintro e w2 ⟨v, rfl, hb2, b2, rfl, hgb2⟩
  obtain rfl : b2 = true := hgb2.2 HIQ.out
  have HB2 := hid (HB1.out.trans (hb2.mono HB1.out.size))
  clear hb2 hgb2
  have hd : decide ((fn : Int) < 0) = false := by simp
  have hd3 : decide (150 < (fn : Int)) = false := by simp; omega
  have hz2 := HB2.out.size
  go_wp2_with fail
  obtain ⟨W5, hW5⟩ : ∃ W5, W5 = w2.alloc (.cells #[.slice pa P.length pc, .int .i64 (vn : Int), .int .i64 (fn : Int), .int .i64 (vn : Int), .slice none 0 0, .bool false, .int .i64 0] 94) := ⟨_, rfl⟩
  have HB5 := hid (show Below w.heap.size w W5 by rw [hW5]; exact HB2.out.alloc hz2 _)
  have HX5 := hid (show W5.heap[w2.heap.size]? = some (.cells #[.slice pa P.length pc, .int .i64 (vn : Int), .int .i64 (fn : Int), .int .i64 (vn : Int), .slice none 0 0, .bool false, .int .i64 0] 94 (0, 0)) by rw [hW5]; exact blk_new _ _)
  have hs5 : W5.heap.size = w2.heap.size + 1 := by rw [hW5]; simp
  obtain ⟨g, hg⟩ : ∃ g, g = w2.heap.size := ⟨_, rfl⟩
  rw [← hW5]
  rw [← hg] at HX5
  rw [← hg]
  have hgw : w.heap.size ≤ g := by omega
  have hg5 : g < W5.heap.size := by omega
  have HU5 := hid (show PvI w.heap.size P vn g (.slice pa P.length pc) (.slice none 0 0) ⟨fn, (vn : Int), [], false, 0⟩ W5 from
    { box := HX5.out
      prog := SlR.keeps Cl.rep_lasts HPR.out (Keeps.of_below HB5.out)
      out := OwnR.nil ..
      bg := hgw
      v0 := Int.natCast_nonneg _, v1 := by show (vn : Int) ≤ 1000000; omega
      fu := by show fn ≤ 150; omega
      qq := by omega
      cl := by simp, out13 := by simp })
  clear hW5 hg hs5
  go_loopw [12, 11] (fun i v wr => ∃ j : Nat, j ≤ Q.length ∧ i = .int .i64 ((j : Int) - 1) ∧ Below W5.heap.size W5 wr ∧ TdQ (PA g (.slice none 0 0)) wr ((Q.drop j).map fun t => (⟨t, 0⟩ : Td)) v) (fun i _ _ => (intOf i + 1).toNat)
  case atStart => exact ⟨Q.length, Nat.le_refl _, by go_num, Below.refl _ _, by rw [List.drop_length]; rfl⟩
  case round =>
    obtain ⟨j, hj, rfl, hb, hgl⟩ := hrel
    have HB := hid hb
    have HGL := hid hgl
    have hzr := hb.size
    obtain ⟨gp, rfl⟩ := hgl.ptr
    clear hb hgl
    have hpan : ∀ b, b ≠ g → PA g (.slice none 0 0) b := fun b hb hp => by
      rcases hp with e | e
      · exact hb e
      · simp [ownB] at e
    have HPN := hid hpan
    clear hpan
    cases j with
    | succ j =>
      rw [show ((j + 1 : Nat) : Int) - 1 = (j : Int) by omega]
      have hj0 : (0 : Int) ≤ (j : Int) := Int.natCast_nonneg _
      have hj1 : (j : Int) < (Q.length : Int) := by omega
      have hjl : j < Q.length := by omega
      obtain ⟨rfl, hqb⟩ := HQA.out (by omega)
      obtain ⟨sa, sc, c0, c1, c2, c3, hr⟩ := tm_cells HQE.out hqb (Keeps.of_below (HB5.out.trans (HB.out.mono HB5.out.size))) hjl
      have hqbl : qb < wr.heap.size := World.block_lt_of_cell? wr _ c0
      have HR := hid (Tm.rep_lasts.2.1 _ (PA g (.slice none 0 0)) _ _ _ hr fun b _ hb => HPN.out b (by omega))
      clear hr
      go_wp2_with fail
      go_roundw
      case rel =>
        refine ⟨j, by omega, by go_num, HB.out.alloc hzr _, ?_⟩
        rw [List.drop_eq_getElem_cons hjl, List.map_cons]
        exact ⟨wr.heap.size, sa, sc, _, rfl, HPN.out _ (by omega), blk_new _ _, Tm.rep_lasts.1 _ _ _ _ _ HR.out (Keeps.alloc _ _ _), HGL.out.keeps (Keeps.alloc _ _ _)⟩
      case measure => simp [intOf]
    | zero =>
      rw [show ((0 : Nat) : Int) - 1 = -1 by omega]
      have HTD := hid (show TdQ (PA g (.slice none 0 0)) wr (Q.map fun t => (⟨t, 0⟩ : Td)) (.pointer gp) by have := HGL.out; rwa [List.drop_zero] at this)
      have HU6 := hid (HU5.out.below HB.out)
      have HBw6 := hid (HB5.out.trans (HB.out.mono HB5.out.size))
      clear HGL
      go_wp2_with fail
      refine (prove_ok HIP.out (fn + 1) (Q.map fun t => (⟨t, 0⟩ : Td)) [] ⟨fn, (vn : Int), [], false, 0⟩ wr (.slice none 0 0) _ _ (Nat.lt_succ_self _) ⟨rfl, by simp, Int.le_refl _, by simp only; omega, by simp only [Pv.pot, List.length_nil]; omega, fun a ha => by
        obtain ⟨t, ht, rfl⟩ := List.mem_map.1 ha
        exact ⟨(HIQ.out.2.2.2 t ht).2.1, by simp⟩⟩ (EnvOk.nil _) HU6.out HTD.out rfl).mono ?_
      rintro e W7 ⟨rfl, hst⟩
      generalize proveR P vn (fn + 1) (Q.map fun t => ⟨t, 0⟩) [] ⟨fn, (vn : Int), [], false, 0⟩ = r at *
      obtain ⟨ri, rp⟩ := r
      obtain ⟨ov7, hpv7, hch7, hot7⟩ := hst
      have HU7 := hid hpv7
      have hfin : ∀ (rp' : Pv) (ov' : Value) (W8 : World), PvI w.heap.size P vn g (.slice pa P.length pc) ov' rp' W8 → Ch (PM g ov7) W7 W8 → Below w.heap.size w W8 ∧ EvsR (fun _ => True) W8 rp'.out ov' := fun rp' ov' W8 hp hc => by
        refine ⟨?_, (hp.out.mono' (A' := fun _ => True) evR_lasts fun _ _ _ _ => trivial).sl evR_lasts (show rp'.out.length ≤ 1048576 by have := hp.out13; omega) (fun _ _ => trivial)⟩
        have h1 : Ch (fun b => w.heap.size ≤ b) w W8 := ((Ch.of_below HBw6.out).trans hch7 (fun b h => .inl (by
          rcases h with e | e
          · omega
          · simp [ownB] at e))).trans hc (fun b h => .inl ((HU7.out.pm_lt b h).1))
        exact h1.below fun k hk e => by omega
      have HFIN := hid hfin
      obtain ⟨_, _, oa7, oc7, -, hov7, -, -, hol1, hol2⟩ := hpv7.vals
      subst hov7
      unfold maxLen at hol2
      obtain ⟨b0, b1, b2, b3, b4, b5, b6, bf⟩ := box7 hpv7.box
      have hgl7 := hpv7.lt.1
      have HS2 := hid HS.out
      simp only at HS2
      have HBN2 := hid HBN.out
      simp only at HBN2
      clear hpv7 hch7 hot7 hfin HS HBN
      obtain ⟨re, hre⟩ : ∃ re, re = rp.ended := ⟨_, rfl⟩
      rw [← hre] at b5 HS2
      cases re with
      | true =>
        clear hre
        have hr9 := hid (HS2.out.trans (by rw [if_pos rfl]))
        go_wp2_with fail
        go_ret2
        rw [hr9.out]
        obtain ⟨z1, z2⟩ := HFIN.out _ _ _ HU7.out (Ch.refl _ _)
        exact ⟨_, rfl, z1, z2⟩
      | false =>
        have hon := (HBN2.out.on hre.symm).1
        clear hre
        have hr9 := hid (HS2.out.trans (by rw [if_neg (by simp)]))
        go_wp2_with fail
        refine (pend_ok 2 (by unfold I64; omega) HU7.out (by omega)).mono ?_
        rintro e W8 ⟨rfl, hst⟩
        obtain ⟨ov8, hpv8, hch8, -⟩ := hst
        have HU8 := hid hpv8
        obtain ⟨z1, z2⟩ := HFIN.out _ _ _ hpv8 hch8
        have HZ1 := hid z1
        have HZ2 := hid z2
        clear b0 b1 b2 b3 b4 b5 b6 bf z1 z2
        obtain ⟨b0, b1, b2, b3, b4, b5, b6, bf⟩ := box7 hpv8.box
        have hgl8 := hpv8.lt.1
        obtain ⟨_, _, oa8, oc8, -, hov8, -, -, -⟩ := hpv8.vals
        subst hov8
        clear hpv8 hch8
        go_wp2_with fail
        go_ret2
        rw [hr9.out]
        exact ⟨_, rfl, HZ1.out, HZ2.out⟩
theorem psolved_ok (hnp : clsNodes P ≤ 4194304) (hnq : Tm.nodesL Q ≤ 4194304) (hv : I64 vars) (hf : I64 fuel) (w : World) (pv qv : Value) (hpv : ClsR (fun b => b < w.heap.size) w P pv) (hqv : TmsR (fun b => b < w.heap.size) w Q qv) :
    Calls Tryd.prog 39 #[pv, qv, .int .i64 vars, .int .i64 fuel] w (SAllPost w (provedR P Q vars fuel)) := by
  by_cases h : GoodP P ∧ GoodQ Q vars
  · by_cases hfb : fuel < 0 ∨ fuel > 150
    · exact psolved_bad (.inr hfb) hnp hnq hv hf w pv qv hpv hqv
    · exact psolved_good h.1 h.2 (by omega) (by omega) hnp hnq w pv qv hpv hqv
  · exact psolved_bad (.inl h) hnp hnq hv hf w pv qv hpv hqv
end
end Go.Proofs.YtlpmfkpefoegeabDoor
