/-
  The machine: call.
-/
import Derived.Test.YtlpmfkpefoegeabQMach6
import Derived.Test.YtlpmfkpefoegeabPMCall
import Derived.Test.YtlpmfkpefoegeabQFront2
namespace Go.Proofs.Ytlpmfkpefoegeab
set_option linter.unusedVariables false
set_option linter.unusedSimpArgs false
open Go.RowKit
def resV : RM → Value
  | .next => .tuple #[.bool true, .bool true]
  | .no => .tuple #[.bool false, .bool true]
  | .off => .tuple #[.bool false, .bool false]
def MResPost (base : Nat) (P : List Cl) (q g : Nat) (pv : Value) (o : Mo) (r : RM × Mv) (w : World) (e : Ending) (w' : World) : Prop := e = .returned (resV r.1) ∧ MaStep base P q g pv o r.2 w w'
theorem Hp.rep.off_box {A : Nat → Prop} {w : World} {h : Hp} {vs : List Value} (hh : Hp.rep A w h vs) {xb : Nat} {E : TypeId} {a b : Option Addr} {l1 l2 c1 c2 : Nat} (hx : w.heap[xb]? = some (.cells #[.slice a l1 c1, .slice b l2 c2] E (0, 0))) : Hp.rep (fun k => A k ∧ k ≠ xb) w h vs := by
  obtain ⟨c, t, rfl, hc, ht⟩ := hh
  have key : ∀ (off : Nat) (v : Value), w.cell? ⟨xb, off, none⟩ = some v → ∃ a l c, v = .slice a l c := fun off v hv => by
    rw [blk_cell hx] at hv
    match off, hv with
    | 0, hv => simp at hv; exact ⟨_, _, _, hv.symm⟩
    | 1, hv => simp at hv; exact ⟨_, _, _, hv.symm⟩
    | off + 2, hv => simp at hv
  refine ⟨c, t, rfl, ?_, ?_⟩
  · obtain ⟨gb, off, hs, he⟩ := hc
    refine ⟨gb, off, ?_, fun i x hxi => ?_⟩
    · obtain ⟨h1, h2 | ⟨h2, h3, h4⟩⟩ := hs
      · exact ⟨h1, .inl h2⟩
      · refine ⟨h1, .inr ⟨h2, ⟨h3, fun e => ?_⟩, h4⟩⟩
        obtain ⟨vs, hl, ⟨hok, rfl⟩, hrow⟩ := he 0 _ (List.getElem?_eq_getElem h2)
        have := hrow 0 _ rfl
        rw [e] at this
        obtain ⟨_, _, _, h9⟩ := key _ _ this
        cases h9
    · obtain ⟨vs, hl, hr, hrow⟩ := he i x hxi
      exact ⟨vs, hl, hr, hrow⟩
  · obtain ⟨gb, off, hs, he⟩ := ht
    refine ⟨gb, off, ?_, fun i x hxi => ?_⟩
    · obtain ⟨h1, h2 | ⟨h2, h3, h4⟩⟩ := hs
      · exact ⟨h1, .inl h2⟩
      · refine ⟨h1, .inr ⟨h2, ⟨h3, fun e => ?_⟩, h4⟩⟩
        obtain ⟨vs, hl, ⟨hok, rfl⟩, hrow⟩ := he 0 _ (List.getElem?_eq_getElem h2)
        have := hrow 0 _ rfl
        rw [e] at this
        obtain ⟨_, _, _, h9⟩ := key _ _ this
        cases h9
    · obtain ⟨vs, hl, hr, hrow⟩ := he i x hxi
      exact ⟨vs, hl, hr, hrow⟩
theorem clause_goals {c : Cl} (h : c.Good) : (clauseB c).goals.length ≤ 5 ∧ (∀ a ∈ (clauseB c).goals, 0 ≤ a ∧ a ≤ 1000000) ∧ 0 ≤ (clauseB c).head ∧ (clauseB c).head ≤ 8 := by
  obtain ⟨head, body, vars⟩ := c
  obtain ⟨v, rfl⟩ := Int.eq_ofNat_of_zero_le (show 0 ≤ vars from h.1.1)
  obtain ⟨F, hF⟩ : ∃ F, F = (goalsF (goalF (begF v) head) body).1 := ⟨_, rfl⟩
  obtain ⟨b1, b2, b3, b4⟩ := code_block h F hF
  have hgoals : (clauseB ⟨head, body, (v : Int)⟩).goals = (goalsF (goalF (begF v) head) body).2 := by simp [clauseB]
  have hhd : (clauseB ⟨head, body, (v : Int)⟩).head = (v : Int) := by simp [clauseB]
  have hbody : ∀ t ∈ body, t.IsGoal ∧ t.Good (v : Int) := fun t ht => ⟨(h.1.2.2.2 t ht).1, (h.1.2.2.2 t ht).2.1⟩
  have hv8 : (v : Int) ≤ 8 := h.1.2.1
  obtain ⟨n1, n2⟩ := goal_nf v head (begF v) h.2.2.1.1 h.2.1 (begF_nf v) (by rw [begF_len]; exact Nat.le_refl _)
  have n3 := (goals_nf v body (goalF (begF v) head) hbody n1 (by have := goalF_pos head (begF v); rw [begF_len] at this; omega)).2
  have hl := goalsF_len2 body (goalF (begF v) head)
  have hb5 : body.length ≤ 5 := h.1.2.2.1
  rw [← hF] at n3
  rw [hgoals, hhd]
  refine ⟨by omega, fun a ha => ?_, by omega, by omega⟩
  obtain ⟨i, hi, rfl⟩ := List.mem_iff_getElem.1 ha
  obtain ⟨a', e1, e2⟩ := n3 i (by omega)
  rw [List.getElem?_eq_getElem hi] at e1
  have := (List.getElem?_eq_some_iff.1 e2).1
  rw [Option.some.inj e1]
  omega
theorem loadF_base (h : Hp) (bl : List Ce) : (loadF h bl).2.2 = 0 → h.Good ∧ (loadF h bl).2.1 = (h.cells.length : Int) := fun e => by
  unfold loadF at e ⊢
  split at e
  · simp at e
  · rename_i hg
    rw [if_neg hg]
    split at e
    · simp at e
    · rename_i hl
      rw [if_neg hl]
      exact ⟨(Classical.not_not.1 hg).1, rfl⟩
def MB (base g : Nat) (o : Mo) (b : Nat) : Prop := MA g o b ∨ (b < base ∧ b ≠ g)
def IsLdM (base : Nat) (A : Nat → Prop) (x : Hp × Int × Int) : Value → World → Prop := fun v w => ∃ us, v = .tuple #[.agg us.toArray, .int .i64 x.2.1, .int .i64 x.2.2] ∧ Hp.rep (fun b => A b ∨ base ≤ b) w x.1 us
theorem stays_LdM (base : Nat) (A : Nat → Prop) (x : Hp × Int × Int) : Stays (IsLdM base A x) := fun v w w' ⟨us, e, h⟩ hb => ⟨us, e, Hp.rep.below h hb⟩
def IsLdH (base : Nat) (A : Nat → Prop) (x : Hp × Int × Int) : Value → World → Prop := fun v w => ∃ us, v = .agg us.toArray ∧ Hp.rep (fun b => A b ∨ base ≤ b) w x.1 us
theorem stays_LdH (base : Nat) (A : Nat → Prop) (x : Hp × Int × Int) : Stays (IsLdH base A x) := fun v w w' ⟨us, e, h⟩ hb => ⟨us, e, Hp.rep.below h hb⟩
section
variable {base : Nat} {P : List Cl} {q g : Nat} {pv hc ht : Value} {o : Mo} {m : Mv} {w : World}
theorem callM_skip {P : List Cl} {n : Nat} {gm : Gm} {m : Mv} : ∀ (j k : Nat), j = P.length - k → k ≤ P.length → callM P n gm j k m = callM P n gm (P.length - nextM P (cellAt m.h.cells gm.at_) j k) (nextM P (cellAt m.h.cells gm.at_) j k) m
  | 0, k, hj, hk => by
    rw [nextM, show P.length - k = 0 by omega]
  | j + 1, k, hj, hk => by
    have hkl : k < P.length := by omega
    have ih := callM_skip (P := P) (n := n) (gm := gm) (m := m) j (k + 1) (by omega) (by omega)
    by_cases hl : likeM P[k] (cellAt m.h.cells gm.at_)
    · have hn : nextM P (cellAt m.h.cells gm.at_) (j + 1) k = k := by rw [nextM, List.getElem?_eq_getElem hkl]; simp only; rw [if_pos hl]
      rw [hn, ← hj]
    · have hn : nextM P (cellAt m.h.cells gm.at_) (j + 1) k = nextM P (cellAt m.h.cells gm.at_) j (k + 1) := by rw [nextM, List.getElem?_eq_getElem hkl]; simp only; rw [if_neg hl]
      rw [hn, ← ih]
      conv => lhs; rw [callM, List.getElem?_eq_getElem hkl]
      simp only
      rw [if_pos hl]
theorem nextM_like {P : List Cl} {x : Ce} : ∀ (j k : Nat), j = P.length - k → (h : nextM P x j k < P.length) → likeM (P[nextM P x j k]'h) x
  | 0, k, hj, h => by rw [nextM] at h; omega
  | j + 1, k, hj, h => by
    have hkl : k < P.length := by omega
    have ih := nextM_like (P := P) (x := x) j (k + 1) (by omega)
    by_cases hl : likeM P[k] x
    · have hn : nextM P x (j + 1) k = k := by rw [nextM, List.getElem?_eq_getElem hkl]; simp only; rw [if_pos hl]
      simp only [hn]; exact hl
    · have hn : nextM P x (j + 1) k = nextM P x j (k + 1) := by rw [nextM, List.getElem?_eq_getElem hkl]; simp only; rw [if_neg hl]
      simp only [hn] at h ⊢
      exact ih h
theorem nextM_le {P : List Cl} {x : Ce} : ∀ (j k : Nat), j = P.length - k → k ≤ P.length → nextM P x j k ≤ P.length := fun j k hj hk => by have := (nextM_bd P x j k).2; omega
theorem callM_at {P : List Cl} {n : Nat} {gm : Gm} {m : Mv} {k : Nat} (h : k < P.length) (hl : likeM P[k] (cellAt m.h.cells gm.at_)) : callM P n gm (P.length - k) k m = (
    let L := loadF m.h (clauseB P[k]).cells
    if L.2.2 ≠ 0 then (.off, m.put 4)
    else
      let u := unifyF L.1 (L.2.1 + (clauseB P[k]).head) gm.at_
      if u.2.2 ≠ 0 then (.off, m.put 4)
      else if u.2.1 = false then callM P n gm (P.length - (k + 1)) (k + 1) m
      else (.next, { m with
        h := u.1
        choices := if nextM P (cellAt m.h.cells gm.at_) (P.length - (k + 1)) (k + 1) < P.length then ⟨n, nextM P (cellAt m.h.cells gm.at_) (P.length - (k + 1)) (k + 1), m.h.cells.length, m.h.trail.length⟩ :: m.choices else m.choices
        goals := (pushM L.2.1 m.choices.length (clauseB P[k]).goals m.goals gm.next).1
        now := (pushM L.2.1 m.choices.length (clauseB P[k]).goals m.goals gm.next).2 })) := by
  conv => lhs; rw [show P.length - k = (P.length - (k + 1)) + 1 by omega, callM, List.getElem?_eq_getElem h]
  simp only
  rw [if_neg (not_not_intro hl)]
def mcMu (n : Nat) (v : Value) : Nat := if intOf v < 0 then 0 else ((n : Int) - intOf v).toNat
theorem mcMu_nat (n k : Nat) : mcMu n (.int .i64 (k : Int)) = n - k := by
  unfold mcMu
  rw [show intOf (.int .i64 (k : Int)) = (k : Int) from rfl, if_neg (by omega)]
  omega
theorem mcMu_neg (n : Nat) : mcMu n (.int .i64 (-1)) = 0 := rfl
theorem tyCm : ElemTy Try.prog 105 133 4 32 := .mk' (z := .agg #[.int .i64 0, .int .i64 0, .int .i64 0, .int .i64 0]) Try.underlying105 (by kernel_rfl) rfl (by omega) (by omega)
set_option maxRecDepth 100000 in
set_option maxHeartbeats 8000000 in
theorem mcall_ok (n k : Nat) (h : MvI base P q g pv hc ht o m w) (hP : GoodP P) (hg : m.h.Good) (hn : n < m.goals.length) (hat : Inb m.h.cells (goalM m n).at_) (hk : k ≤ P.length) (hfew : m.choices.length < 900) (hfit : m.goals.length ≤ 5900) (hout : m.out.length + 1 ≤ 20) :
    Calls Try.prog 73 #[.pointer (some ⟨g, 0, none⟩), .int .i64 (n : Int), .int .i64 (k : Int)] w (MResPost base P q g pv o (callM P n (goalM m n) (P.length - k) k m) w) := by
  have HU := hid h
  have HP := hid hP
  have HG := hid hg
  have HFEW := hid hfew
  have HFIT := hid hfit
  have HOUT := hid hout
  have HN := hid hn
  have HAT := hid hat
  obtain ⟨hl1, hl2⟩ := h.lt
  obtain ⟨gv, cv, ov⟩ := o
  obtain ⟨pa, pc, ga, gc, ca, cc, oa, oc, ha, hac, hb, hbc, rfl, rfl, rfl, rfl, rfl, rfl, p1, p2, g1, g2, c1, c2, -⟩ := h.vals
  obtain ⟨b0, b1, b2, b3, b4, b5, b6, b7, b8, b9, bf⟩ := box10 h.box
  obtain ⟨gbl, rfl, -, hgbl, -, -, d0, d1, d2, gok⟩ := OwnG.cells h.goals hn
  obtain ⟨gm, hgm⟩ : ∃ gm, gm = goalM m n := ⟨_, rfl⟩
  have hge : m.goals[n] = gm := by rw [hgm]; unfold goalM; rw [List.getElem?_eq_getElem hn]; rfl
  replace d0 : w.cell? ⟨gbl, n * 3, none⟩ = some (.int .i64 gm.at_) := by rw [← hge]; exact d0
  replace d1 : w.cell? ⟨gbl, n * 3 + 1, none⟩ = some (.int .i64 (gm.bar : Int)) := by rw [← hge]; exact d1
  replace d2 : w.cell? ⟨gbl, n * 3 + 2, none⟩ = some (.int .i64 gm.next) := by rw [← hge]; exact d2
  replace gok : gmOk gm := by rw [← hge]; exact gok
  simp only at b3 b4 b9
  rw [← hgm] at HAT ⊢
  have HGM := hid hgm
  have HGK := hid gok
  have hP24 := hP.1
  obtain ⟨x, hx⟩ : ∃ x, x = cellAt m.h.cells gm.at_ := ⟨_, rfl⟩
  have HX := hid hx
  have hn0 : (0 : Int) ≤ (n : Int) := Int.natCast_nonneg _
  have hn1 : (n : Int) < (m.goals.length : Int) := by omega
  unfold maxLen at p2 g2 c2
  clear h hP hg hn hat hge hgm gok hx hout
  go_enter Try.func73, Try.ntmps73
  go_wp2_with fail
  obtain ⟨W1, hW1⟩ : ∃ W1, W1 = w.alloc (.cells #[.int .i64 gm.at_, .int .i64 (gm.bar : Int), .int .i64 gm.next] 130) := ⟨_, rfl⟩
  have HB1 := hid (show Below w.heap.size w W1 by rw [hW1]; exact (Below.refl _ _).alloc (Nat.le_refl _) _)
  have HX1 := hid (show W1.heap[w.heap.size]? = some (.cells #[.int .i64 gm.at_, .int .i64 (gm.bar : Int), .int .i64 gm.next] 130 (0, 0)) by rw [hW1]; exact blk_new _ _)
  rw [← hW1]
  have HU1 := hid (HU.out.below HB1.out)
  clear hW1 b0 b1 b2 b3 b4 b5 b6 b7 b8 b9 bf d0 d1 d2
  have hz1 := HB1.out.size
  refine (mhead_ok gm HAT.out HU1.out).mono ?_
  rintro e w2 ⟨rfl, hb2⟩
  rw [← HX.out]
  have HB2 := hid (HB1.out.trans (hb2.mono HB1.out.size))
  have HX2 := hid (blk_below HX1.out hb2)
  have HU2 := hid (HU.out.below HB2.out)
  have hz2 := HB2.out.size
  obtain ⟨b0, b1, b2, b3, b4, b5, b6, b7, b8, b9, bf⟩ := box10 HU2.out.box
  simp only at b3 b4 b9
  clear hb2
  go_wp2_with fail
  refine (mfind_ok x k (by omega) HU2.out).mono ?_
  rintro e w3 ⟨rfl, hb3⟩
  have HB3 := hid (HB2.out.trans (hb3.mono HB2.out.size))
  have HX3 := hid (blk_below HX2.out hb3)
  clear hb3 b0 b1 b2 b3 b4 b5 b6 b7 b8 b9 bf
  have HKN := hid (nextM_like (P := P) (x := x) (P.length - k) k rfl)
  have hkn := nextM_le (P := P) (x := x) (P.length - k) k rfl hk
  have HCS := hid (show callM P n gm (P.length - k) k m = callM P n gm (P.length - nextM P x (P.length - k) k) (nextM P x (P.length - k) k) m by
    have := callM_skip (P := P) (n := n) (gm := gm) (m := m) (P.length - k) k rfl hk
    rw [← HX.out] at this; exact this)
  generalize nextM P x (P.length - k) k = k1 at *
  go_wp2_with fail
  go_loopw [12] (fun i12 wr => ∃ kk : Nat, kk ≤ P.length ∧ i12 = .int .i64 (findV P kk) ∧ Below w.heap.size w wr ∧ wr.heap[w.heap.size]? = some (.cells #[.int .i64 gm.at_, .int .i64 (gm.bar : Int), .int .i64 gm.next] 130 (0, 0)) ∧ (∀ hkk : kk < P.length, likeM P[kk] x) ∧ callM P n gm (P.length - k) k m = callM P n gm (P.length - kk) kk m) (fun i12 _ => mcMu P.length i12)
  case atStart => exact ⟨k1, hkn, rfl, HB3.out, HX3.out, HKN.out, HCS.out⟩
  case round =>
    obtain ⟨kk, hkk, rfl, hbr, hxr, hlk, hcr⟩ := hrel
    have HBR := hid hbr
    have HXR := hid hxr
    have HCR := hid hcr
    have HUR := hid (HU.out.below hbr)
    have hzr := hbr.size
    obtain ⟨b0, b1, b2, b3, b4, b5, b6, b7, b8, b9, bf⟩ := box10 HUR.out.box
    simp only at b3 b4 b9
    obtain ⟨x0, x1, x2, xf⟩ := box3 hxr
    have hkk0 : (0 : Int) ≤ (kk : Int) := Int.natCast_nonneg _
    clear hbr hxr hcr HCS HKN HB3 HX3 HB2 HX2 HU2 HB1 HX1 HU1 hz1 hz2
    by_cases hlt : kk < P.length
    rotate_left
    · have hres := hid (show callM P n gm (P.length - k) k m = (.no, m) by
        rw [HCR.out, show P.length - kk = 0 by omega]; rfl)
      rw [show findV P kk = -1 by unfold findV; rw [if_neg hlt]]
      clear hlk
      go_wp2_with fail
      go_ret2
      rw [hres.out]
      exact ⟨rfl, _, _, _, HUR.out, Ch.of_below HBR.out, MGrow.refl _ _⟩
    rw [show findV P kk = (kk : Int) by unfold findV; rw [if_pos hlt]]
    have hkk1 : (kk : Int) < (P.length : Int) := by omega
    have HCA := hid (HCR.out.trans (callM_at hlt (by rw [← HX.out]; exact hlk hlt)))
    have hcg : (P[kk]).Good := HP.out.2 _ (List.getElem_mem hlt)
    obtain ⟨pb0, pc0, pb, poff, e9, hpl1, hpl2, hpl3, hpA, hpE⟩ := SlR.at HU.out.prog
    simp only [Value.slice.injEq, true_and] at e9
    obtain ⟨rfl, rfl⟩ := e9
    obtain ⟨rfl, hpb⟩ := hpA (by omega)
    obtain ⟨bcv, bgv, q0, q1, q2, q3, q4, q5, hcv, hgv⟩ := mc_cells hpE hpb (Keeps.of_below HBR.out) hlt
    generalize P[kk] = c at *
    have HCG := hid hcg
    obtain ⟨cg1, cg2, cg3, cg4⟩ := clause_goals hcg
    have HCG2 := hid cg2
    have HCV := hid hcv
    have HGV := hid hgv
    have hpbl : pb < wr.heap.size := by have := hpb.1; omega
    clear hlk hcg hpA hpE hcv hgv cg2
    go_wp2_with fail
    go_quiet (fail)
    have HBq := hid (show Below wr.heap.size wr (wr.drewN nq) from ⟨rfl, rfl, rfl, Nat.le_refl _, fun _ _ => rfl⟩)
    have HB4 := hid (HBR.out.trans (HBq.out.mono hzr))
    have HX4 := hid (blk_below HXR.out HBq.out)
    have q0' := bc HBq.out q0
    have q1' := bc HBq.out q1
    have q2' := bc HBq.out q2
    have q3' := bc HBq.out q3
    have q4' := bc HBq.out q4
    have q5' := bc HBq.out q5
    have HCV4 := hid (SlR.keeps Ce.rep_lasts HCV.out (Keeps.of_below HBq.out))
    have HGV4 := hid (SlR.keeps numR_lasts HGV.out (Keeps.of_below HBq.out))
    have hpbl4 : pb < (wr.drewN nq).heap.size := Nat.lt_of_lt_of_le hpbl HBq.out.size
    generalize wr.drewN nq = W4 at *
    clear b0 b1 b2 b3 b4 b5 b6 b7 b8 b9 bf x0 x1 x2 xf q0 q1 q2 q3 q4 q5 HBq
    have HU4 := hid (HU.out.below HB4.out)
    have hz4 := HB4.out.size
    obtain ⟨b0, b1, b2, b3, b4, b5, b6, b7, b8, b9, bf⟩ := box10 HU4.out.box
    simp only at b3 b4 b9
    have hpcl : P.length ≤ pc := p1
    obtain ⟨ca0, cac, cb0, coff0, rfl, -⟩ := SlR.at HCV4.out
    obtain ⟨ga0, gac, gb0, goff0, rfl, -⟩ := SlR.at HGV4.out
    go_wp2_with fail
    obtain ⟨W5, hW5⟩ : ∃ W5, W5 = W4.alloc (.cells #[.slice ca0 (clauseB c).cells.length cac, .int .i64 (clauseB c).vars, .int .i64 (clauseB c).head, .slice ga0 (clauseB c).goals.length gac] 32) := ⟨_, rfl⟩
    have HBa := hid (show Below W4.heap.size W4 W5 by rw [hW5]; exact (Below.refl _ _).alloc (Nat.le_refl _) _)
    have HX15 := hid (show W5.heap[W4.heap.size]? = some (.cells #[.slice ca0 (clauseB c).cells.length cac, .int .i64 (clauseB c).vars, .int .i64 (clauseB c).head, .slice ga0 (clauseB c).goals.length gac] 32 (0, 0)) by rw [hW5]; exact blk_new _ _)
    rw [← hW5]
    have HB5 := hid (HB4.out.trans (HBa.out.mono hz4))
    have HX5 := hid (blk_below HX4.out HBa.out)
    have HU5 := hid (HU.out.below HB5.out)
    have HCV5 := hid (SlR.keeps Ce.rep_lasts HCV4.out (Keeps.of_below HBa.out))
    have HGV5 := hid (SlR.keeps numR_lasts HGV4.out (Keeps.of_below HBa.out))
    clear hW5 b0 b1 b2 b3 b4 b5 b6 b7 b8 b9 bf q0' q1' q2' q3' q4' q5' HX4 HU4 HCV4 HGV4 HB4 HBR HXR HUR HCV HGV
    have hz5 := HB5.out.size
    obtain ⟨b0, b1, b2, b3, b4, b5, b6, b7, b8, b9, bf⟩ := box10 HU5.out.box
    simp only at b3 b4 b9
    have HA0 := hid (fun (W : World) (hbw : Below W5.heap.size W5 W) => (show W.cell? ⟨g, 1, none⟩ = some (.slice ha m.h.cells.length hac) ∧ W.cell? ⟨g, 2, none⟩ = some (.slice hb m.h.trail.length hbc) ∧ W.cell? ⟨W4.heap.size, 0, none⟩ = some (.slice ca0 (clauseB c).cells.length cac) ∧ W.cell? ⟨W4.heap.size, 1, none⟩ = some (.int .i64 (clauseB c).vars) from
      ⟨bc hbw b1, bc hbw b2, (blk_cell (blk_below HX15.out hbw) 0).trans rfl, (blk_cell (blk_below HX15.out hbw) 1).trans rfl⟩))
    obtain ⟨o0, ho0⟩ : ∃ o0 : Mo, o0 = ⟨.slice (some ⟨gbl, 0, none⟩) m.goals.length gc, .slice ca m.choices.length cc, .slice oa m.out.length oc⟩ := ⟨_, rfl⟩
    have HO0 := hid ho0
    rw [← ho0] at HU5
    clear b0 b1 b2 b3 b4 b5 b6 b7 b8 b9 bf ho0
    refine wp_region_front2 12 (fun i => i == 9 || i == 10) (Inv := fun w' => Below W5.heap.size W5 w') (Po := posts [IsV (.pointer (some ⟨g, 0, none⟩)), IsV (.pointer (some ⟨g, 0, none⟩)), IsV (.pointer (some ⟨g, 1, none⟩)), IsV (.agg #[.slice ha m.h.cells.length hac, .slice hb m.h.trail.length hbc]), IsV (.pointer (some ⟨W4.heap.size, 0, none⟩)), IsV (.slice ca0 (clauseB c).cells.length cac), IsLdM W5.heap.size (MB base g o0) (loadF m.h (clauseB c).cells), IsLdM W5.heap.size (MB base g o0) (loadF m.h (clauseB c).cells), IsLdH W5.heap.size (MB base g o0) (loadF m.h (clauseB c).cells), IsV (.int .i64 (loadF m.h (clauseB c).cells).2.1), IsV (.int .i64 (loadF m.h (clauseB c).cells).2.2), IsBox W5.heap.size 30 #[.slice none 0 0, .slice none 0 0]]) (Rl := fun w w' => Below w.heap.size w w') (by kernel_rfl) (by kernel_rfl) (by kernel_rfl) (fun _ _ _ _ h => h) (by kernel_rfl) (by kernel_rfl) ((Below.refl _ _).drew) ?_ ?_ ?_ ?_ ?_
    · refine posts_stay fun R hR => ?_
      simp only [List.mem_cons, List.not_mem_nil, or_false] at hR
      rcases hR with rfl | rfl | rfl | rfl | rfl | rfl | rfl | rfl | rfl | rfl | rfl | rfl <;> first | exact stays_V _ | exact stays_any | exact stays_B _ | exact stays_Tm _ | exact stays_Tms _ | exact stays_Cs _ | exact stays_Ns _ | exact stays_Bs _ | exact stays_Hp _ | exact stays_OC _ _ | exact stays_ON _ _ | exact stays_Box _ _ _ | exact stays_LdM _ _ _ | exact stays_LdH _ _ _
    · exact fun w1 w2 h h' => h.trans (h'.mono h.size)
    · intro i o ho hps f ac ww hinv hpo hdst hold
      match i, ho, hps with
        | 0, ho, hps =>
          exact absurd hps (by decide)
        | 1, ho, hps =>
          exact absurd hps (by decide)
        | 2, ho, hps =>
          exact absurd hps (by decide)
        | 3, ho, hps =>
          exact absurd hps (by decide)
        | 4, ho, hps =>
          exact absurd hps (by decide)
        | 5, ho, hps =>
          exact absurd hps (by decide)
        | 6, ho, hps =>
          exact absurd hps (by decide)
        | 7, ho, hps =>
          exact absurd hps (by decide)
        | 8, ho, hps =>
          exact absurd hps (by decide)
        | 9, ho, hps =>
          obtain rfl : _ = o := Option.some.inj ho
          have t73 : ac.tmps[73]? = some (f 7) := hdst 7 73 (by kernel_rfl) (by kernel_rfl)
          have p7 : (IsLdM W5.heap.size (MB base g o0) (loadF m.h (clauseB c).cells)) (f 7) ww := hpo 7 (by kernel_rfl)
          clear hdst hpo hold ho
          obtain ⟨us, e7, hrep⟩ := p7
          rw [e7] at t73
          clear hinv hrep
          exact ⟨_, Or.inl ⟨want0 rfl, fun w' => by go_simp⟩, rfl⟩
        | 10, ho, hps =>
          obtain rfl : _ = o := Option.some.inj ho
          have t73 : ac.tmps[73]? = some (f 7) := hdst 7 73 (by kernel_rfl) (by kernel_rfl)
          have p7 : (IsLdM W5.heap.size (MB base g o0) (loadF m.h (clauseB c).cells)) (f 7) ww := hpo 7 (by kernel_rfl)
          clear hdst hpo hold ho
          obtain ⟨us, e7, hrep⟩ := p7
          rw [e7] at t73
          clear hinv hrep
          exact ⟨_, Or.inl ⟨want0 rfl, fun w' => by go_simp⟩, rfl⟩
        | 11, ho, hps =>
          exact absurd hps (by decide)
        | i + 12, ho, hps => simp at ho
    · intro i o ho hps f ac ww hinv hpo hdst hold
      match i, ho, hps with
        | 0, ho, hps =>
          obtain rfl : _ = o := Option.some.inj ho
          have t0 := hold 0 (by kernel_rfl)
          refine Or.inl ⟨want0 rfl, ?_⟩
          clear hdst hpo hold ho
          clear hinv
          unfold Ans
          go_simp
          exact ⟨rfl, Below.refl _ _⟩
        | 1, ho, hps =>
          obtain rfl : _ = o := Option.some.inj ho
          have t74 : ac.tmps[74]? = some (f 0) := hdst 0 74 (by kernel_rfl) (by kernel_rfl)
          have p0 : (IsV (.pointer (some ⟨g, 0, none⟩))) (f 0) ww := hpo 0 (by kernel_rfl)
          refine Or.inl ⟨want0 rfl, ?_⟩
          clear hdst hpo hold ho
          rw [show f 0 = _ from p0] at t74
          clear hinv
          unfold Ans
          go_simp
          exact ⟨rfl, Below.refl _ _⟩
        | 2, ho, hps =>
          obtain rfl : _ = o := Option.some.inj ho
          have t75 : ac.tmps[75]? = some (f 1) := hdst 1 75 (by kernel_rfl) (by kernel_rfl)
          have p1 : (IsV (.pointer (some ⟨g, 0, none⟩))) (f 1) ww := hpo 1 (by kernel_rfl)
          refine Or.inl ⟨want0 rfl, ?_⟩
          clear hdst hpo hold ho
          rw [show f 1 = _ from p1] at t75
          clear hinv
          unfold Ans
          go_simp
          exact ⟨rfl, Below.refl _ _⟩
        | 3, ho, hps =>
          obtain rfl : _ = o := Option.some.inj ho
          have t76 : ac.tmps[76]? = some (f 2) := hdst 2 76 (by kernel_rfl) (by kernel_rfl)
          have p2 : (IsV (.pointer (some ⟨g, 1, none⟩))) (f 2) ww := hpo 2 (by kernel_rfl)
          refine Or.inl ⟨want0 rfl, ?_⟩
          clear hdst hpo hold ho
          rw [show f 2 = _ from p2] at t76
          obtain ⟨b1, b2, y0, y1⟩ := HA0.out ww hinv
          unfold Ans
          go_simp
          exact ⟨rfl, Below.refl _ _⟩
        | 4, ho, hps =>
          obtain rfl : _ = o := Option.some.inj ho
          have t15 := hold 15 (by kernel_rfl)
          refine Or.inl ⟨want0 rfl, ?_⟩
          clear hdst hpo hold ho
          clear hinv
          unfold Ans
          go_simp
          exact ⟨rfl, Below.refl _ _⟩
        | 5, ho, hps =>
          obtain rfl : _ = o := Option.some.inj ho
          have t78 : ac.tmps[78]? = some (f 4) := hdst 4 78 (by kernel_rfl) (by kernel_rfl)
          have p4 : (IsV (.pointer (some ⟨W4.heap.size, 0, none⟩))) (f 4) ww := hpo 4 (by kernel_rfl)
          refine Or.inl ⟨want0 rfl, ?_⟩
          clear hdst hpo hold ho
          rw [show f 4 = _ from p4] at t78
          obtain ⟨b1, b2, y0, y1⟩ := HA0.out ww hinv
          unfold Ans
          go_simp
          exact ⟨rfl, Below.refl _ _⟩
        | 6, ho, hps =>
          obtain rfl : _ = o := Option.some.inj ho
          have t77 : ac.tmps[77]? = some (f 3) := hdst 3 77 (by kernel_rfl) (by kernel_rfl)
          have p3 : (IsV (.agg #[.slice ha m.h.cells.length hac, .slice hb m.h.trail.length hbc])) (f 3) ww := hpo 3 (by kernel_rfl)
          have t79 : ac.tmps[79]? = some (f 5) := hdst 5 79 (by kernel_rfl) (by kernel_rfl)
          have p5 : (IsV (.slice ca0 (clauseB c).cells.length cac)) (f 5) ww := hpo 5 (by kernel_rfl)
          refine Or.inl ⟨want0 rfl, ?_⟩
          clear hdst hpo hold ho
          rw [show f 3 = _ from p3] at t77
          rw [show f 5 = _ from p5] at t79
          unfold Ans
          go_simp
          refine (load_ok m.h (clauseB c).cells (MB base g o0) ww _ _ ((HU5.out.below hinv).heap.mono fun b _ h => .inl h) (SlR.mono Ce.rep_lasts (by omega) (SlR.keeps Ce.rep_lasts HCV5.out (Keeps.of_below hinv)) fun b _ h => .inr h)).mono ?_
          rintro e w1 ⟨v, rfl, hb1, us, hv, hrep⟩
          subst hv
          exact ⟨_, rfl, ⟨us, rfl, hrep.mono fun b _ h => h.imp id (fun (h : ww.heap.size ≤ b) => Nat.le_trans hinv.size h)⟩, hb1⟩
        | 7, ho, hps =>
          obtain rfl : _ = o := Option.some.inj ho
          have t80 : ac.tmps[80]? = some (f 6) := hdst 6 80 (by kernel_rfl) (by kernel_rfl)
          have p6 : (IsLdM W5.heap.size (MB base g o0) (loadF m.h (clauseB c).cells)) (f 6) ww := hpo 6 (by kernel_rfl)
          refine Or.inl ⟨want0 rfl, ?_⟩
          clear hdst hpo hold ho
          clear hinv
          unfold Ans
          go_simp
          exact ⟨p6, Below.refl _ _⟩
        | 8, ho, hps =>
          obtain rfl : _ = o := Option.some.inj ho
          have t73 : ac.tmps[73]? = some (f 7) := hdst 7 73 (by kernel_rfl) (by kernel_rfl)
          have p7 : (IsLdM W5.heap.size (MB base g o0) (loadF m.h (clauseB c).cells)) (f 7) ww := hpo 7 (by kernel_rfl)
          refine Or.inl ⟨want0 rfl, ?_⟩
          clear hdst hpo hold ho
          obtain ⟨us, e7, hrep⟩ := p7
          rw [e7] at t73
          clear hinv
          unfold Ans
          go_simp
          exact ⟨⟨us, rfl, hrep⟩, Below.refl _ _⟩
        | 9, ho, hps =>
          exact absurd hps (by decide)
        | 10, ho, hps =>
          exact absurd hps (by decide)
        | 11, ho, hps =>
          obtain rfl : _ = o := Option.some.inj ho
          refine Or.inl ⟨want0 rfl, ?_⟩
          clear hdst hpo hold ho
          unfold Ans
          go_simp
          exact ⟨⟨_, rfl, hinv.size, blk_new _ _⟩, (Below.refl _ _).alloc (Nat.le_refl _) _⟩
        | i + 12, ho, hps => simp at ho
    · intro f ww hinv hpo
      have p8 : (IsLdH W5.heap.size (MB base g o0) (loadF m.h (clauseB c).cells)) (f 8) ww := hpo 8 (by decide)
      have p9 : (IsV (.int .i64 (loadF m.h (clauseB c).cells).2.1)) (f 9) ww := hpo 9 (by decide)
      have p10 : (IsV (.int .i64 (loadF m.h (clauseB c).cells).2.2)) (f 10) ww := hpo 10 (by decide)
      have p11 : (IsBox W5.heap.size 30 #[.slice none 0 0, .slice none 0 0]) (f 11) ww := hpo 11 (by decide)
      obtain ⟨us8, e8, hr8⟩ := p8
      obtain ⟨g6, e11, hg6, hx6⟩ := p11
      simp only [fillT, List.take_succ_cons, List.take_zero, List.setIfInBounds_toArray, List.set_cons_succ, List.set_cons_zero]
      rw [e8, show f 9 = _ from p9, show f 10 = _ from p10, e11]
      have HLE := hid (show loadF m.h (clauseB c).cells = loadF m.h (clauseB c).cells from rfl)
      have hLb := hid (loadF_base m.h (clauseB c).cells)
      generalize loadF m.h (clauseB c).cells = L at hr8 hLb HCA ⊢
      obtain ⟨lh, ln, le⟩ := L
      simp only at hr8 hLb HCA ⊢
      have hr8' := hr8.off_box hx6
      obtain ⟨a6, c6, b6, d6, rfl, -⟩ := Hp.rep2 hr8
      have HR8 := hid hr8'
      have HB6 := hid (HB5.out.trans (hinv.mono hz5))
      have HX6 := hid (blk_below HX5.out hinv)
      have HX156 := hid (blk_below HX15.out hinv)
      have HU6 := hid (HU5.out.below hinv)
      have HGV6 := hid (SlR.keeps numR_lasts HGV5.out (Keeps.of_below hinv))
      have hg6l : g6 < ww.heap.size := blk_lt hx6
      have hzw := hinv.size
      obtain ⟨y0, y1, yf⟩ := box2 hx6
      have HXB := hid hx6
      have hx15w := blk_lt HX15.out
      clear hinv hpo p9 p10 e8 e11 hr8 hr8' hx6 HA0 HX5 HX15 HU5 HCV5 HGV5
      refine wpAny_only (i := 12) (by kernel_rfl) (wpOp_run rfl (by rfl) ?_)
      go_simp
      refine wpAny_only (i := 13) (by kernel_rfl) (wpOp_run rfl (by rfl) ?_)
      go_simp
      refine wpAny_only (i := 14) (by kernel_rfl) (wpOp_run rfl (by rfl) ?_)
      go_simp
      refine wpAny_all (by kernel_rfl) ?_ _
      obtain ⟨W7, hW7⟩ : ∃ W7, W7 = (ww.setCell ⟨g6, 0, none⟩ (.slice a6 lh.cells.length c6)).setCell ⟨g6, 1, none⟩ (.slice b6 lh.trail.length d6) := ⟨_, rfl⟩
      have hg6w : w.heap.size ≤ g6 := Nat.le_trans hz5 hg6
      have hne7 : ∀ k, k ≠ g6 → W7.heap[k]? = ww.heap[k]? := fun k hk => by rw [hW7, Below.heap_setCell _ _ _ _ hk, Below.heap_setCell _ _ _ _ hk]
      have hsz7 : W7.heap.size = ww.heap.size := by rw [hW7]; simp
      have HB7 := hid (show Below w.heap.size w W7 by rw [hW7]; exact (HB6.out.setCell hg6w _).setCell hg6w _)
      have hx15 := hx15w
      have HX7 := hid ((hne7 w.heap.size (by omega)).trans HX6.out)
      have HX157 := hid ((hne7 W4.heap.size (by omega)).trans HX156.out)
      have HXG7 := hid (show W7.heap[g6]? = some (.cells #[.slice a6 lh.cells.length c6, .slice b6 lh.trail.length d6] 30 (0, 0)) by rw [hW7]; exact (blk_set (blk_set HXB.out 0 _) 1 _).trans rfl)
      have HK7 := hid (show Keeps (fun b => b ≠ g6) ww W7 from ⟨by omega, fun b _ hb => hne7 b hb⟩)
      have HR7 := hid (HR8.out.keeps (HK7.out.mono fun b _ hb => hb.2))
      have HU7 := hid (HU.out.below HB7.out)
      have HGV7 := hid (SlR.keeps numR_lasts HGV6.out (HK7.out.mono fun b _ (hb : b < base ∧ b ≠ g) e => by have := hb.1; omega))
      rw [← hW7]
      have hz7 := HB7.out.size
      clear y0 y1 yf hW7 hne7 HX6 HX156 HXB HK7 HR8 HU6 HGV6 HB6
      obtain ⟨y0, y1, yf⟩ := box2 HXG7.out
      obtain ⟨x0, x1, x2, xf⟩ := box3 HX7.out
      obtain ⟨z0, z1, z2, z3, zf⟩ := blk4 HX157.out
      have hg6l7 : g6 < W7.heap.size := by omega
      have hx15l7 : W4.heap.size < W7.heap.size := by omega
      have hxl7 : w.heap.size < W7.heap.size := by omega
      by_cases hle : le ≠ 0
      · have hres := hid (show callM P n gm (P.length - k) k m = (.off, m.put 4) by rw [HCA.out]; exact if_pos hle)
        have hled : (le != 0) = true := by simpa using hle
        clear hle HCA hLb
        go_wp2_with fail
        refine (mend_ok 4 (by unfold I64; omega) HU7.out HOUT.out).mono ?_
        rintro e w8 ⟨rfl, hst⟩
        have HST := hid (MaStep.trans (o' := ⟨.slice (some ⟨gbl, 0, none⟩) m.goals.length gc, .slice ca m.choices.length cc, .slice oa m.out.length oc⟩) (Ch.of_below HB7.out) (MGrow.refl _ _) hst)
        clear hst
        go_wp2_with fail
        go_ret2
        rw [hres.out]
        exact ⟨rfl, HST.out⟩
      have hle0 : le = 0 := Classical.not_not.1 hle
      subst hle0
      obtain ⟨hgood, hln⟩ := hLb.out rfl
      subst hln
      have hcl5 : m.h.cells.length ≤ 65536 := hgood.2.2.1
      have htl5 : m.h.trail.length ≤ 65536 := hgood.2.2.2
      have HCA2 := hid (HCA.out.trans (if_neg (by simp)))
      have hcl0 : (0 : Int) ≤ (m.h.cells.length : Int) := Int.natCast_nonneg _
      have hsum : IntKind.i64.wrap ((m.h.cells.length : Int) + (clauseB c).head) = (m.h.cells.length : Int) + (clauseB c).head := IntWalk.i64_in _ (by omega)
      have HUNI := hid (hunify_ok lh ((m.h.cells.length : Int) + (clauseB c).head) gm.at_ (by unfold I64; omega) HGK.out.1 (fun b => (MB base g o0 b ∨ W5.heap.size ≤ b) ∧ b ≠ g6) W7 _ HR7.out)
      clear hle HCA hLb hgood
      go_wp2_with fail
      refine HUNI.out.mono ?_
      rintro e w8 ⟨v8, rfl, hb8, us8, rfl, hr8⟩
      have HCA3 := hid (show callM P n gm (P.length - k) k m = (if (unifyF lh ((m.h.cells.length : Int) + (clauseB c).head) gm.at_).2.2 ≠ 0 then (.off, m.put 4) else if (unifyF lh ((m.h.cells.length : Int) + (clauseB c).head) gm.at_).2.1 = false then callM P n gm (P.length - (kk + 1)) (kk + 1) m else (.next, { m with
              h := (unifyF lh ((m.h.cells.length : Int) + (clauseB c).head) gm.at_).1
              choices := if nextM P (cellAt m.h.cells gm.at_) (P.length - (kk + 1)) (kk + 1) < P.length then ⟨n, nextM P (cellAt m.h.cells gm.at_) (P.length - (kk + 1)) (kk + 1), m.h.cells.length, m.h.trail.length⟩ :: m.choices else m.choices
              goals := (pushM (m.h.cells.length : Int) m.choices.length (clauseB c).goals m.goals gm.next).1
              now := (pushM (m.h.cells.length : Int) m.choices.length (clauseB c).goals m.goals gm.next).2 })) from HCA2.out)
      generalize unifyF lh ((m.h.cells.length : Int) + (clauseB c).head) gm.at_ = u at hr8 HCA3 ⊢
      obtain ⟨ux, uo, ue⟩ := u
      simp only at hr8 HCA3 ⊢
      obtain ⟨xa, xac, xb, xbc, rfl, -⟩ := Hp.rep2 hr8
      have HB8 := hid (HB7.out.trans (hb8.mono hz7))
      have hz8 := hb8.size
      have hz8w := HB8.out.size
      obtain ⟨W9, hW9⟩ : ∃ W9, W9 = w8.alloc (.cells #[.slice xa ux.cells.length xac, .slice xb ux.trail.length xbc] 30) := ⟨_, rfl⟩
      have HB9a := hid (show Below w8.heap.size w8 W9 by rw [hW9]; exact (Below.refl _ _).alloc (Nat.le_refl _) _)
      have HX19 := hid (show W9.heap[w8.heap.size]? = some (.cells #[.slice xa ux.cells.length xac, .slice xb ux.trail.length xbc] 30 (0, 0)) by rw [hW9]; exact blk_new _ _)
      have HB9 := hid (HB8.out.trans (HB9a.out.mono hz8w))
      have HR9 := hid (hr8.keeps (Keeps.of_below HB9a.out))
      have HX8 := hid (blk_below HX7.out hb8)
      have HX158 := hid (blk_below HX157.out hb8)
      have HR8b := hid hr8
      have HGV8 := hid (SlR.keeps numR_lasts HGV7.out (Keeps.of_below hb8))
      have HX9 := hid (blk_below (blk_below HX7.out hb8) HB9a.out)
      have HX159 := hid (blk_below (blk_below HX157.out hb8) HB9a.out)
      have HU9 := hid (HU.out.below HB9.out)
      have HGV9 := hid (SlR.keeps numR_lasts (SlR.keeps numR_lasts HGV7.out (Keeps.of_below hb8)) (Keeps.of_below HB9a.out))
      have hz9 := HB9.out.size
      clear y0 y1 yf x0 x1 x2 xf z0 z1 z2 z3 zf HCA2 HUNI HX7 HX157 HXG7 HR7 HU7 HGV7 hr8 hsum hg6l7 hx15l7 hxl7
      by_cases hue : ue ≠ 0
      · have hres := hid (show callM P n gm (P.length - k) k m = (.off, m.put 4) by rw [HCA3.out]; exact if_pos hue)
        have hued : (ue != 0) = true := by simpa using hue
        clear hue HCA3
        go_wp2_with fail
        rw [← hW9]
        refine (mend_ok 4 (by unfold I64; omega) HU9.out HOUT.out).mono ?_
        rintro e w10 ⟨rfl, hst⟩
        have HST := hid (MaStep.trans (o' := ⟨.slice (some ⟨gbl, 0, none⟩) m.goals.length gc, .slice ca m.choices.length cc, .slice oa m.out.length oc⟩) (Ch.of_below HB9.out) (MGrow.refl _ _) hst)
        clear hst
        go_wp2_with fail
        go_ret2
        rw [hres.out]
        exact ⟨rfl, HST.out⟩
      have hue0 : ue = 0 := Classical.not_not.1 hue
      subst hue0
      have HCA4 := hid (HCA3.out.trans (if_neg (by simp)))
      clear hue HCA3
      cases uo with
      | false =>
        have HCA5 := hid (HCA4.out.trans (if_pos rfl))
        clear HCA4
        go_wp2_with fail
        rw [← hW9]
        refine (mfind_ok x (kk + 1) (by omega) HU9.out).mono ?_
        rintro e w10 ⟨rfl, hb10⟩
        have HB10 := hid (HB9.out.trans (hb10.mono hz9))
        have HX10 := hid (blk_below HX9.out hb10)
        have HLK := hid (nextM_like (P := P) (x := x) (P.length - (kk + 1)) (kk + 1) rfl)
        have hkb := nextM_bd P x (P.length - (kk + 1)) (kk + 1)
        have HCS := hid (show callM P n gm (P.length - k) k m = callM P n gm (P.length - nextM P x (P.length - (kk + 1)) (kk + 1)) (nextM P x (P.length - (kk + 1)) (kk + 1)) m by
          have := callM_skip (P := P) (n := n) (gm := gm) (m := m) (P.length - (kk + 1)) (kk + 1) rfl (by omega)
          rw [← HX.out] at this; rw [HCA5.out, this])
        generalize nextM P x (P.length - (kk + 1)) (kk + 1) = k2 at *
        clear hb10 HCA5
        go_wp2_with fail
        go_roundw
        case rel => exact ⟨k2, by omega, rfl, HB10.out, HX10.out, HLK.out, HCS.out⟩
        case measure =>
          rw [mcMu_nat]
          unfold findV
          split
          · rw [mcMu_nat]; omega
          · rw [mcMu_neg]; omega
      | true =>
        have HCA5 := hid (HCA4.out.trans (if_neg (by simp)))
        clear HCA4
        have HU8 := hid (HU.out.below HB8.out)
        obtain ⟨b0, b1, b2, b3, b4, b5, b6', b7, b8, b9, bf⟩ := box10 HU8.out.box
        simp only at b3 b4 b9
        have hg8 : g < w8.heap.size := by omega
        have hgne8 : g ≠ w8.heap.size := by omega
        have hcs := cell_set
        have hMA : ∀ b, b < w8.heap.size → (((MB base g o0 b ∨ W5.heap.size ≤ b) ∧ b ≠ g6) ∨ New W7 b) → MA g ⟨.slice (some ⟨gbl, 0, none⟩) m.goals.length gc, .slice ca m.choices.length cc, .slice oa m.out.length oc⟩ b := fun b _ hb hm => by
          obtain ⟨h1, h2⟩ := HU.out.mm_lt b hm
          rcases hb with ⟨(hb | hb) | hb, -⟩ | hb
          · rw [HO0.out] at hb; exact hb hm
          · have := hb.1; have := hb.2; omega
          · omega
          · have : W7.heap.size ≤ b := hb; omega
        have HSH := hid (show MaStep base P q g (.slice (some ⟨pb, poff, none⟩) P.length pc) ⟨.slice (some ⟨gbl, 0, none⟩) m.goals.length gc, .slice ca m.choices.length cc, .slice oa m.out.length oc⟩ { m with h := ux } w8 ((w8.setCell ⟨g, 1, none⟩ (.slice xa ux.cells.length xac)).setCell ⟨g, 2, none⟩ (.slice xb ux.trail.length xbc)) from HU8.out.setH (HR8b.out.mono hMA))
        clear hMA
        go_wp2_with fail
        obtain ⟨W10, hW10⟩ : ∃ W10, W10 = ((w8.setCell ⟨g, 1, none⟩ (.slice xa ux.cells.length xac)).setCell ⟨g, 2, none⟩ (.slice xb ux.trail.length xbc)).alloc (.cells #[.slice xa ux.cells.length xac, .slice xb ux.trail.length xbc] 30) := ⟨_, rfl⟩
        have HSH2 := hid (show MaStep base P q g (.slice (some ⟨pb, poff, none⟩) P.length pc) ⟨.slice (some ⟨gbl, 0, none⟩) m.goals.length gc, .slice ca m.choices.length cc, .slice oa m.out.length oc⟩ { m with h := ux } w8 W10 from HSH.out.below (by rw [hW10]; exact (Below.refl _ _).alloc (Nat.le_refl _) _))
        rw [← hW10]
        obtain ⟨hc10, ht10, o10, hmv10, hch10, hgr10⟩ := HSH2.out
        have HUA := hid hmv10
        have HCHA := hid hch10
        have HGRA := hid hgr10
        have hnb1 : ∀ b, w.heap.size ≤ b → b < w8.heap.size → ¬ MM g ⟨.slice (some ⟨gbl, 0, none⟩) m.goals.length gc, .slice ca m.choices.length cc, .slice oa m.out.length oc⟩ b := fun b h1 _ hm => by have := (HU.out.mm_lt b hm).2; omega
        have hx8l := blk_lt HX8.out
        have hx158l := blk_lt HX158.out
        have HXA := hid ((hch10.block w.heap.size hx8l (hnb1 _ (Nat.le_refl _) hx8l)).trans HX8.out)
        have HX15A := hid ((hch10.block W4.heap.size hx158l (hnb1 _ hz4 hx158l)).trans HX158.out)
        have HGVA := hid (SlR.keeps numR_lasts HGV8.out (hch10.keeps (A := fun b => b < base ∧ b ≠ g) fun b _ hb e => by have := (HU.out.mm_lt b e).1; have := hb.1; have := hb.2; omega))
        have HMS := hid (show MaStep base P q g (.slice (some ⟨pb, poff, none⟩) P.length pc) ⟨.slice (some ⟨gbl, 0, none⟩) m.goals.length gc, .slice ca m.choices.length cc, .slice oa m.out.length oc⟩ { m with h := ux } w W10 from MaStep.trans (Ch.of_below HB8.out) (MGrow.refl _ _) HSH2.out)
        have hz10 := hch10.size
        clear hW10 HSH HSH2 hmv10 hch10 hgr10 hnb1 b0 b1 b2 b3 b4 b5 b6' b7 b8 b9 bf HX9 HX159 HU9 HGV9 HR9 HX19 HB9a HB9 hz9 HX8 HX158 HR8b HGV8 HU8 hcs hg8 hgne8 hW9
        have hgrA := HGRA.out
        refine (mfind_ok x (kk + 1) (by omega) HUA.out).mono ?_
        rintro e w11 ⟨rfl, hb11⟩
        have HUB := hid (HUA.out.below hb11)
        have HXB2 := hid (blk_below HXA.out hb11)
        have HX15B := hid (blk_below HX15A.out hb11)
        have HGVB := hid (SlR.keeps numR_lasts HGVA.out (Keeps.of_below hb11))
        have HMB := hid (HMS.out.below hb11)
        have hkb := nextM_bd P x (P.length - (kk + 1)) (kk + 1)
        have HCX := hid (show callM P n gm (P.length - k) k m = (.next, { m with
              h := ux
              choices := if nextM P x (P.length - (kk + 1)) (kk + 1) < P.length then ⟨n, nextM P x (P.length - (kk + 1)) (kk + 1), m.h.cells.length, m.h.trail.length⟩ :: m.choices else m.choices
              goals := (pushM (m.h.cells.length : Int) m.choices.length (clauseB c).goals m.goals gm.next).1
              now := (pushM (m.h.cells.length : Int) m.choices.length (clauseB c).goals m.goals gm.next).2 }) by rw [HCA5.out, HX.out])
        generalize nextM P x (P.length - (kk + 1)) (kk + 1) = k2 at *
        have hz11 := hb11.size
        have HMN := hid (show ∀ b, w.heap.size ≤ b → b < w8.heap.size → ¬ MM g o10 b from fun b h1 h2 hm => by
          rcases hgrA.up b hm with e | e
          · have := (HU.out.mm_lt b e).2; omega
          · omega)
        have HCH11 := hid (((Ch.of_below HB8.out).trans HCHA.out (fun b h => .inl h)).then_below hb11)
        have HGR11 := hid ((MGrow.refl w ⟨.slice (some ⟨gbl, 0, none⟩) m.goals.length gc, .slice ca m.choices.length cc, .slice oa m.out.length oc⟩).trans HGRA.out HB8.out.size)
        clear hb11 HCA5 HUA HCHA HGRA HXA HX15A HGVA HMS HMB hgrA
        by_cases hmore : k2 < P.length
        · have HCY := hid (HCX.out.trans (by rw [if_pos hmore]))
          rw [show findV P k2 = (k2 : Int) by unfold findV; rw [if_pos hmore]]
          have hk20 : (0 : Int) ≤ (k2 : Int) := Int.natCast_nonneg _
          clear HCX
          obtain ⟨pa3, pc3, ga3, gc3, ca3, cc3, oa3, oc3, ha3, hac3, hb3, hbc3, -, ev1, ev2, ev3, rfl, rfl, -, -, -, -, ec1, ec2, -⟩ := HUB.out.vals
          obtain ⟨b0, b1, b2, b3, b4, b5, b6', b7, b8, b9, bf⟩ := box10 HUB.out.box
          rw [ev2] at b4
          rw [ev1] at b3
          rw [ev3] at b9
          have hgB := HUB.out.lt
          obtain ⟨hgB1, hgB2⟩ := hgB
          have HCHC := hid (show OwnM w11 base m.choices.reverse (.slice ca3 m.choices.length cc3) by have := HUB.out.chc; rw [ev2] at this; exact this)
          have HCOR := hid (HCHC.out.ownR cmV_len (fun _ => True))
          have HAPB := hid HUB.out.apart
          have hcsz := HFEW.out
          have hml := HN.out
          have hmf := HFIT.out
          unfold maxLen at ec2
          go_wp2_with (at_builtin; go_must (refine wpList_app1 rfl (.tmp 122) (.tmp 128) 105 rfl base 133 4 32 tyCm (flatR_lasts cmV_one) (A := fun _ => True) (.slice ca3 m.choices.length cc3) m.choices.reverse rfl HCOR.out ⟨n, k2, m.h.cells.length, m.h.trail.length⟩ [.int .i64 (n : Int), .int .i64 (k2 : Int), .int .i64 (m.h.cells.length : Int), .int .i64 (m.h.trail.length : Int)] (by rfl) rfl ⟨⟨by simp only; omega, by simp only; omega, by simp only; omega, by simp only; omega⟩, rfl⟩ ⟨by rw [List.length_reverse]; omega, by omega⟩ ?_); go_must (intro v12 w12 hown12 hgrew; have hB12 := (hgrew.grown.block g (by simp only [World.size_alloc]; omega) (fun e => HAPB.out.cg (by rw [ev2]; exact e.symm))).trans (blk_alloc HUB.out.box _); rw [ev1, ev2, ev3] at hB12; obtain ⟨va12, vc12, hv12, hvl12, hvm12⟩ := OwnF.val (OwnF.of_ownR hown12); rw [show (m.choices.reverse ++ [(⟨n, k2, m.h.cells.length, m.h.trail.length⟩ : Cm)]).length = m.choices.length + 1 by simp] at hv12; subst hv12; have HO12 := hid (OwnF.of_ownR hown12); have HG12 := hid hgrew; have HXN1 := hid (show ownB (.slice ca3 m.choices.length cc3) ≠ some w.heap.size from fun e => (HMN.out _ (Nat.le_refl _) (by omega)) (.inr (.inr (.inl (by rw [ev2]; exact e))))); have HXN2 := hid (show ownB (.slice ca3 m.choices.length cc3) ≠ some W4.heap.size from fun e => (HMN.out W4.heap.size hz4 (by omega)) (.inr (.inr (.inl (by rw [ev2]; exact e))))); have HXC := hid ((hgrew.grown.block w.heap.size (by simp only [World.size_alloc]; omega) (fun e => HXN1.out e.symm)).trans (blk_alloc HXB2.out _)); have HX15C := hid ((hgrew.grown.block W4.heap.size (by simp only [World.size_alloc]; omega) (fun e => HXN2.out e.symm)).trans (blk_alloc HX15B.out _)); obtain ⟨xx0, xx1, xx2, xxf⟩ := box3 HXC.out; obtain ⟨zz0, zz1, zz2, zz3, zzf⟩ := blk4 HX15C.out; have hxne : w.heap.size ≠ g := (fun e => by omega); have hxne2 : W4.heap.size ≠ g := (fun e => by omega); have hxne' : g ≠ w.heap.size := (fun e => by omega); have hxne2' : g ≠ W4.heap.size := (fun e => by omega); obtain ⟨k0, k1x, k2x, k3, k4, k5, k6, k7, k8, k9, kf⟩ := box10 hB12; have hcs := cell_set; have hgl12 := blk_lt hB12; have hxl12 := blk_lt HXC.out; have hx15l12 := blk_lt HX15C.out; clear hown12 hgrew hB12))
          have HPC := hid (HUB.out.pushC (x := ⟨n, k2, m.h.cells.length, m.h.trail.length⟩) (by simp only; omega) HO12.out (by rw [ev2]; exact HG12.out))
          obtain ⟨hcE, htE, oE, hmvE, hchE, hgrE⟩ := HPC.out
          have HUE := hid hmvE
          have HCHE := hid hchE
          have HGRE := hid hgrE
          have HGVE := hid (SlR.keeps numR_lasts HGVB.out (hchE.keeps (A := fun b => b < base ∧ b ≠ g) fun b _ hb e => by have := (HUB.out.mm_lt b e).1; have := hb.1; have := hb.2; omega))
          generalize w12.setCell ⟨g, 4, none⟩ (.slice va12 (m.choices.length + 1) vc12) = WE at *
          clear hmvE hchE hgrE HPC b0 b1 b2 b3 b4 b5 b6' b7 b8 b9 bf k0 k1x k2x k3 k4 k5 k6 k7 k8 k9 kf xx0 xx1 xx2 xxf zz0 zz1 zz2 zz3 zzf HXC HX15C hcs
          have HNXT := hid HGK.out.2.1
          refine (mpush_ok (m := { m with h := ux, choices := ⟨n, k2, m.h.cells.length, m.h.trail.length⟩ :: m.choices }) (.slice ca0 (clauseB c).cells.length cac) (.slice ga0 (clauseB c).goals.length gac) (clauseB c).vars (clauseB c).head (clauseB c).goals (m.h.cells.length : Int) m.choices.length gm.next HGVE.out HCG2.out (by omega) (by omega) (by omega) HNXT.out (by simp only; omega) HUE.out).mono ?_
          rintro e wF ⟨rfl, hstF⟩
          obtain ⟨hcF, htF, oF, hmvF, hchF, hgrF⟩ := hstF
          have HUF := hid hmvF
          have HCHF := hid hchF
          have HGRF := hid hgrF
          obtain ⟨paF, pcF, gaF, gcF, caF, ccF, oaF, ocF, haF, hacF, hbF, hbcF, -, fv1, fv2, fv3, rfl, rfl, -⟩ := hmvF.vals
          obtain ⟨f0, f1, f2, f3, f4, f5, f6, f7, f8, f9, ff⟩ := box10 hmvF.box
          have hgF := hmvF.lt.1
          have hpl := pushM_len (base := (m.h.cells.length : Int)) (bar := m.choices.length) (gs0 := m.goals) (nx := gm.next) (clauseB c).goals
          have HNB := hid (show I64 (pushM (m.h.cells.length : Int) m.choices.length (clauseB c).goals m.goals gm.next).2 by
            rw [pushM_eq]; exact pushL_nx _ _ _ _ HNXT.out (by rw [List.length_reverse]; simp only; omega))
          clear hmvF hchF hgrF hpl
          go_wp2_with fail
          go_ret2
          rw [HCY.out]
          refine ⟨rfl, MaStep.trans HCH11.out HGR11.out (MaStep.trans HCHE.out HGRE.out (MaStep.trans HCHF.out HGRF.out ?_))⟩
          exact HUF.out.setI (m' := { m with
                  h := ux
                  choices := ⟨n, k2, m.h.cells.length, m.h.trail.length⟩ :: m.choices
                  goals := (pushM (m.h.cells.length : Int) m.choices.length (clauseB c).goals m.goals gm.next).1
                  now := (pushM (m.h.cells.length : Int) m.choices.length (clauseB c).goals m.goals gm.next).2 }) 5 _ ⟨rfl, rfl, rfl, rfl⟩ ((blk_set HUF.out.box 5 _).trans rfl) HNB.out HUF.out.qb HUF.out.fu
        · have HCY := hid (HCX.out.trans (by rw [if_neg hmore]))
          rw [show findV P k2 = -1 by unfold findV; rw [if_neg hmore]]
          clear HCX
          have HUE := hid HUB.out
          have HGVE := hid HGVB.out
          obtain ⟨xx0, xx1, xx2, xxf⟩ := box3 HXB2.out
          obtain ⟨zz0, zz1, zz2, zz3, zzf⟩ := blk4 HX15B.out
          obtain ⟨pa3, pc3, ga3, gc3, ca3, cc3, oa3, oc3, ha3, hac3, hb3, hbc3, -, ev1, ev2, ev3, rfl, rfl, -⟩ := HUB.out.vals
          obtain ⟨b0, b1, b2, b3, b4, b5, b6', b7, b8, b9, bf⟩ := box10 HUB.out.box
          obtain ⟨hgB1, hgB2⟩ := HUB.out.lt
          have hxl11 := blk_lt HXB2.out
          have hx15l11 := blk_lt HX15B.out
          have hml := HN.out
          have hmf := HFIT.out
          have hcsz := HFEW.out
          go_wp2_with fail
          clear b0 b1 b2 b3 b4 b5 b6' b7 b8 b9 bf xx0 xx1 xx2 xxf zz0 zz1 zz2 zz3 zzf
          have HNXT := hid HGK.out.2.1
          refine (mpush_ok (m := { m with h := ux }) (.slice ca0 (clauseB c).cells.length cac) (.slice ga0 (clauseB c).goals.length gac) (clauseB c).vars (clauseB c).head (clauseB c).goals (m.h.cells.length : Int) m.choices.length gm.next HGVE.out HCG2.out (by omega) (by omega) (by omega) HNXT.out (by simp only; omega) HUE.out).mono ?_
          rintro e wF ⟨rfl, hstF⟩
          obtain ⟨hcF, htF, oF, hmvF, hchF, hgrF⟩ := hstF
          have HUF := hid hmvF
          have HCHF := hid hchF
          have HGRF := hid hgrF
          obtain ⟨paF, pcF, gaF, gcF, caF, ccF, oaF, ocF, haF, hacF, hbF, hbcF, -, fv1, fv2, fv3, rfl, rfl, -⟩ := hmvF.vals
          obtain ⟨f0, f1, f2, f3, f4, f5, f6, f7, f8, f9, ff⟩ := box10 hmvF.box
          have hgF := hmvF.lt.1
          have hpl := pushM_len (base := (m.h.cells.length : Int)) (bar := m.choices.length) (gs0 := m.goals) (nx := gm.next) (clauseB c).goals
          have HNB := hid (show I64 (pushM (m.h.cells.length : Int) m.choices.length (clauseB c).goals m.goals gm.next).2 by
            rw [pushM_eq]; exact pushL_nx _ _ _ _ HNXT.out (by rw [List.length_reverse]; simp only; omega))
          clear hmvF hchF hgrF hpl
          go_wp2_with fail
          go_ret2
          rw [HCY.out]
          refine ⟨rfl, MaStep.trans HCH11.out HGR11.out (MaStep.trans (Ch.refl _ _) (MGrow.refl _ _) (MaStep.trans HCHF.out HGRF.out ?_))⟩
          exact HUF.out.setI (m' := { m with
                  h := ux
                  choices := m.choices
                  goals := (pushM (m.h.cells.length : Int) m.choices.length (clauseB c).goals m.goals gm.next).1
                  now := (pushM (m.h.cells.length : Int) m.choices.length (clauseB c).goals m.goals gm.next).2 }) 5 _ ⟨rfl, rfl, rfl, rfl⟩ ((blk_set HUF.out.box 5 _).trans rfl) HNB.out HUF.out.qb HUF.out.fu
end
end Go.Proofs.Ytlpmfkpefoegeab
