/-
  read.Program.
-/
import Derived.Test.YtlpmfkpefoegeacDoorQRd9
import Derived.Deep.DeepCutAuto
import Derived.Deep.CutBlock
namespace Go.Proofs.YtlpmfkpefoegeacDoor
set_option linter.unusedVariables false
set_option linter.unusedSimpArgs false
open Go.RowKit
theorem tyClsR : ElemTy Tryd.prog 34 48 6 88 :=
  .mk' (z := .agg #[.int .i64 0, .int .i64 0, .string ByteArray.empty, .slice none 0 0, .slice none 0 0, .int .i64 0]) Tryd.underlying34 (by kernel_rfl) rfl (by omega) (by omega)
structure PLoop (B base g : Nat) (l : List Cl) (rr : Rd) (vr va : Value) (w0 wr : World) : Prop where
  rd : RdI B base g vr rr wr
  bel : Below w0.heap.size w0 wr
  own : OwnR wr w0.heap.size 48 6 Cl.rep (fun b => w0.heap.size ≤ b ∧ ¬ RdM g vr b) l va
  na : ∀ b, ownB va = some b → ¬ RdM g vr b
  gn : w0.heap.size ≤ g
  ll : l.length + rr.s.length ≤ 2001
section
variable {B base g : Nat} {l : List Cl} {rr rr2 : Rd} {vr vr2 va : Value} {w0 wr w5 : World}
theorem PLoop.move (h : PLoop B base g l rr vr va w0 wr) (k1 : RdI B base g vr2 rr2 w5) (k2 : Ch (RdM g vr) wr w5) (k3 : VG wr vr vr2) (hll : l.length + rr2.s.length ≤ 2001) :
    PLoop B base g l rr2 vr2 va w0 w5 := by
  have hn2 : ∀ b, b < wr.heap.size → ¬ RdM g vr b → ¬ RdM g vr2 b := fun b hb hn e => (VG.rm k3 b e).elim hn (fun e => by omega)
  exact ⟨k1, h.rd.below_of h.gn h.bel k2,
    ((h.own.mono (A' := fun b => (w0.heap.size ≤ b ∧ ¬ RdM g vr2 b) ∧ ¬ RdM g vr b) Cl.rep_lasts (fun b hb hA => ⟨⟨hA.1, hn2 b hb hA.2⟩, hA.2⟩)).keeps (B := fun b => ¬ RdM g vr b) Cl.rep_lasts (k2.keeps fun _ _ h => h) (fun _ h => h.2) h.na).mono Cl.rep_lasts (fun b _ hb => hb.1),
    fun b hb => hn2 b (h.own.lt b hb).2 (h.na b hb), h.gn, hll⟩
theorem PLoop.push {c : Cl} {v2 : Value} {w6 : World} {cells : Array Value} (h : PLoop B base g l rr vr va w0 wr) (hB : B ≤ w0.heap.size) (hown : OwnR w6 w0.heap.size 48 6 Cl.rep (fun b => w0.heap.size ≤ b ∧ ¬ RdM g vr b) (l ++ [c]) v2)
    (hg : Grew (wr.alloc (.cells cells 48)) w6 va v2) (hll : l.length + 1 + rr.s.length ≤ 2001) : PLoop B base g (l ++ [c]) rr vr v2 w0 w6 := by
  have hown2 : ∀ b, ownB va = some b → w0.heap.size ≤ b ∧ b < wr.heap.size := h.own.lt
  have hk : Keeps (fun b => ownB va ≠ some b) wr w6 := (Keeps.alloc _ _ _).trans (hg.keeps fun b hb => hb)
  refine ⟨h.rd.keeps (hk.mono fun b hb hA e => ?_), hg.below (h.bel.alloc h.bel.size _) (by simp only [World.size_alloc]; have := h.bel.size; omega) (fun b hb => (hown2 b hb).1), hown, fun b hb => ?_, h.gn, ?_⟩
  · rcases hA with hA | hA
    · have := (hown2 b e).1; omega
    · exact h.na b e hA
  · rcases hg.block with e | e
    · exact h.na b (e ▸ hb)
    · have h1 := e b hb
      simp only [World.size_alloc] at h1
      exact fun hm => by have := h.rd.rm_lt b hm; omega
  · simp only [List.length_append, List.length_singleton]; omega
end
theorem space_idem (r : Rd) : r.space.space = r.space := by unfold Rd.space; simp only; rw [spaceF_idem]
theorem progR_space (k : Nat) (l : List Cl) (r : Rd) : progR k l r.space = progR k l r := by
  cases k with
  | zero => rfl
  | succ k => rw [progR, progR, space_idem]
theorem progR_end {k : Nat} {l : List Cl} {r : Rd} (h : r.space = r) (h0 : r.s = []) : progR (k + 1) l r = some l := by rw [progR, h, if_pos h0]
theorem progR_bad {k : Nat} {l : List Cl} {r : Rd} (h : r.space = r) (h0 : ¬ r.s = []) (hb : (clauseR r).2.bad = true ∨ ¬ (clauseR r).1.Good) : progR (k + 1) l r = none := by rw [progR, h, if_neg h0, if_pos hb]
theorem progR_go {k : Nat} {l : List Cl} {r : Rd} (h : r.space = r) (h0 : ¬ r.s = []) (hb : ¬ ((clauseR r).2.bad = true ∨ ¬ (clauseR r).1.Good)) : progR (k + 1) l r = progR k (l ++ [(clauseR r).1]) (clauseR r).2 := by
  rw [progR, h, if_neg h0, if_neg hb]
theorem clauseR_yes {r : Rd} (ha : ((termR 24 { r with vars := [] }).2.at_ [58, 45]).1 = true) : clauseR r = (⟨(termR 24 { r with vars := [] }).1, (goalsR ((termR 24 { r with vars := [] }).2.at_ [58, 45]).2).1, (((goalsR ((termR 24 { r with vars := [] }).2.at_ [58, 45]).2).2.vars.length : Nat) : Int)⟩, (goalsR ((termR 24 { r with vars := [] }).2.at_ [58, 45]).2).2) := by
  unfold clauseR; simp only; rw [if_pos ha]
theorem clauseR_no {r : Rd} (ha : ((termR 24 { r with vars := [] }).2.at_ [58, 45]).1 = false) : clauseR r = (⟨(termR 24 { r with vars := [] }).1, [], (((((termR 24 { r with vars := [] }).2.at_ [58, 45]).2.must [46]).vars.length : Nat) : Int)⟩, ((termR 24 { r with vars := [] }).2.at_ [58, 45]).2.must [46]) := by
  unfold clauseR; simp only; rw [if_neg (by rw [ha]; simp)]
theorem clauseR_head (r : Rd) : (clauseR r).1.head = (termR 24 { r with vars := [] }).1 ∧ (clauseR r).1.vars = (((clauseR r).2.vars.length : Nat) : Int) := by
  unfold clauseR; simp only; split <;> exact ⟨rfl, rfl⟩
theorem rep_mv {g : Nat} {va vb : Value} {wa wb : World} {D : Nat → Prop} {t : Tm} {us : List Value} (h : Tm.rep (fun b => D b ∧ ¬ RdM g va b) wa t us) (hc : Ch (RdM g va) wa wb) (hv : VG wa va vb) : Tm.rep (fun b => D b ∧ ¬ RdM g vb b) wb t us :=
  Tm.rep_lasts.2.1 _ _ _ _ _ (Tm.rep_lasts.1 _ _ _ _ _ (Tm.rep_lasts.2.1 _ (fun b => (D b ∧ ¬ RdM g vb b) ∧ ¬ RdM g va b) _ _ _ h fun b hb hA => ⟨⟨hA.1, fun e => (VG.rm hv b e).elim hA.2 (fun e => by omega)⟩, hA.2⟩) (hc.keeps fun b _ hb => hb.2)) fun b _ hb => hb.1
def PrgPost (w : World) (q : List Cl × Int) (e : Ending) (w' : World) : Prop :=
  ∃ lv, e = .returned (.tuple #[lv, .int .i64 q.2]) ∧ Below w.heap.size w w' ∧ ClsR (fun b => w.heap.size ≤ b) w' q.1 lv
theorem box6 {w : World} {g : Nat} {E : TypeId} {v0 v1 v2 v3 v4 v5 : Value} (h : w.heap[g]? = some (.cells #[v0, v1, v2, v3, v4, v5] E (0, 0))) :
    w.cell? ⟨g, 0, none⟩ = some v0 ∧ w.cell? ⟨g, 1, none⟩ = some v1 ∧ w.cell? ⟨g, 2, none⟩ = some v2 ∧ w.cell? ⟨g, 3, none⟩ = some v3 ∧ w.cell? ⟨g, 4, none⟩ = some v4 ∧ w.cell? ⟨g, 5, none⟩ = some v5 ∧ ∀ o, w.frozen? ⟨g, o, none⟩ = false :=
  ⟨(blk_cell h 0).trans rfl, (blk_cell h 1).trans rfl, (blk_cell h 2).trans rfl, (blk_cell h 3).trans rfl, (blk_cell h 4).trans rfl, (blk_cell h 5).trans rfl, fun o => by simp [World.frozen?, h]⟩
set_option maxRecDepth 100000 in
set_option maxHeartbeats 8000000 in
theorem rprog_ok (s : Str) (hs : s.length ≤ 1048576) (B : Nat) (w : World) (hB : B ≤ w.heap.size) (ht : TabsK B w) : Calls Tryd.prog 13 #[.string (bs s)] w (PrgPost w (readR s)) := by
  have HT := hid ht
  have hz : (bs s).size ≤ 1048576 := by rw [bs_size]; exact hs
  clear ht hs
  by_cases hl : s.length > 2000
  · have hd : decide (2000 < (bs s).size) = true := by rw [bs_size]; simpa using hl
    have hd' : decide ((2000 : Int) < ((bs s).size : Int)) = true := by rw [bs_size]; simp; omega
    have HQ := hid (show readR s = ([], 3) by unfold readR; rw [if_pos hl])
    clear hl
    go_enter Tryd.func13, Tryd.ntmps13
    go_wp2_with fail
    go_ret2
    rw [HQ.out]
    exact ⟨_, rfl, Below.refl _ _, SlR.nil ..⟩
  · have hd : decide (2000 < (bs s).size) = false := by rw [bs_size]; simpa using hl
    have hd' : decide ((2000 : Int) < ((bs s).size : Int)) = false := by rw [bs_size]; simp; omega
    have HQ := hid (show readR s = progE (progR (s.length + 1) [] ⟨s, [], false⟩) by unfold readR; rw [if_neg hl])
    have HSL := hid (show s.length ≤ 2000 by omega)
    have HI := hid (rd_new s (by omega) hB HT.out)
    have HB1 := hid (show Below w.heap.size w (w.alloc (.cells #[.string (bs s), .slice none 0 0, .bool false] 53)) from (Below.refl _ _).alloc (Nat.le_refl _) _)
    have HSP := hid (rspace_ok HI.out)
    obtain ⟨base, hbase⟩ : ∃ base, base = w.heap.size + 1 := ⟨_, rfl⟩
    rw [← hbase] at HI HSP
    clear hl hbase
    go_enter Tryd.func13, Tryd.ntmps13
    go_wp2_with fail
    refine HSP.out.mono ?_
    rintro e w1 ⟨rfl, v1, k1, k2, k3⟩
    have HL0 := hid (show PLoop B base w.heap.size [] (⟨s, [], false⟩ : Rd).space v1 (.slice none 0 0) w w1 from ⟨k1, HI.out.below_of (Nat.le_refl _) HB1.out k2, OwnR.nil .., fun b hb => by simp [ownB] at hb, Nat.le_refl _, by have : (spaceF s).length ≤ s.length := spaceF_len s; have := HSL.out; show 0 + (spaceF s).length ≤ 2001; omega⟩)
    obtain ⟨K, hK⟩ : ∃ K, K = progR (s.length + 1) [] ⟨s, [], false⟩ := ⟨_, rfl⟩
    rw [← hK] at HQ
    have HK := hid hK
    clear k1 k2 k3 HSP HI hK
    go_wp2_with fail
    go_loopw [4] (fun va wr => ∃ (k : Nat) (l : List Cl) (rr : Rd) (vr : Value), PLoop B base w.heap.size l rr vr va w wr ∧ rr.space = rr ∧ K = progR (k + 1) l rr ∧ rr.s.length ≤ k ∧ l.length + rr.s.length ≤ 2000) (fun _ wr => rdMu w.heap.size wr)
    case atStart =>
      refine ⟨s.length, [], (⟨s, [], false⟩ : Rd).space, v1, HL0.out, space_idem _, by rw [progR_space, HK.out], spaceF_len s, ?_⟩
      have : (spaceF s).length ≤ s.length := spaceF_len s
      have := HSL.out
      show 0 + (spaceF s).length ≤ 2000
      omega
    case round =>
      obtain ⟨k, l, rr, vr, hT, hsp, hpr, hk, hll⟩ := hrel
      have HTL := hid hT
      have HSPR := hid hsp
      have HPR := hid hpr
      have HKL := hid hk
      have HLL := hid hll
      obtain ⟨pa, pc, rfl, hpl, hpm⟩ := OwnR.val' hT.own
      obtain ⟨b0, b1, b2, bf⟩ := hT.rd.cells
      have hgl := hT.rd.lt.1
      clear hT hsp hpr hk hll HL0
      cases hrs : rr.s with
      | nil =>
        rw [hrs] at b0
        obtain ⟨t1, t2⟩ := nil_text
        have HE := hid (show K = some l by rw [HPR.out, progR_end HSPR.out hrs])
        have hl24 : l.length ≤ 2001 := by have := HTL.out.ll; omega
        clear hrs
        by_cases h24 : l.length > 24
        · have hd2 : decide (24 < l.length) = true := by simpa using h24
          have hd3 : decide ((24 : Int) < (l.length : Int)) = true := by simp; omega
          have HR := hid (show readR s = ([], 3) by rw [HQ.out, HE.out]; unfold progE; simp only; rw [if_pos h24])
          clear h24
          go_wp2_with fail
          go_ret2
          rw [HR.out]
          exact ⟨_, rfl, HTL.out.bel, SlR.nil ..⟩
        · have hd2 : decide (24 < l.length) = false := by simpa using h24
          have hd3 : decide ((24 : Int) < (l.length : Int)) = false := by simp; omega
          have HR := hid (show readR s = (l, 0) by rw [HQ.out, HE.out]; unfold progE; simp only; rw [if_neg h24])
          clear h24
          go_wp2_with fail
          go_ret2
          rw [HR.out]
          exact ⟨_, rfl, HTL.out.bel, OwnR.sl' Cl.rep_lasts (HTL.out.own.mono (A' := fun b => w.heap.size ≤ b) Cl.rep_lasts fun b _ hb => hb.1) (show l.length ≤ 1048576 by omega) fun b hb => (HTL.out.own.lt b hb).1⟩
      | cons c0 rest0 =>
        rw [hrs] at b0
        obtain ⟨t1, t2, t3⟩ := cons_text c0 rest0
        have HRS := hid hrs
        have HNE := hid (show ¬ rr.s = [] by rw [hrs]; simp)
        clear hrs
        obtain ⟨X, hX⟩ : ∃ X, X = termR 24 { rr with vars := [] } := ⟨_, rfl⟩
        obtain ⟨v1, k1, k2, k3⟩ := HTL.out.rd.setVars
        have hcall := rterm_ok (B := B) (base := base) (g := w.heap.size) 24 (by omega) 1 (by omega) _ _ _ k1
        rw [← hX] at hcall
        have HCALL := hid hcall
        have HX := hid hX
        have HC1 := hid (And.intro k2 (show VG wr vr v1 from k3))
        have HXL := hid (show X.2.s.length ≤ rr.s.length by rw [hX]; exact term_len 24 { rr with vars := [] })
        clear hcall hX k1 k2 k3
        go_wp2_with fail
        refine HCALL.out.mono ?_
        rintro e w2 ⟨us, v2, rfl, k1, k2, k3, k4⟩
        obtain ⟨ua, uc, rfl, -⟩ := Tm.rep4 k4
        have HI2 := hid k1
        have HC2 := hid (step_chain HC1.out.1 HC1.out.2 k2 k3)
        have HR2 := hid k4
        clear k1 k2 k3 k4 b0 b1 b2 bf hgl t1 t2 t3
        go_wp2_with fail
        obtain ⟨y, hy⟩ : ∃ y, y = w2.heap.size := ⟨_, rfl⟩
        obtain ⟨W3, hW3⟩ : ∃ W3, W3 = w2.alloc (.cells #[.int .i64 X.1.kind, .int .i64 X.1.n, .string X.1.s, .slice ua X.1.args.length uc, .slice none 0 0, .int .i64 0] 48) := ⟨_, rfl⟩
        have HB3 := hid (show Below w2.heap.size w2 W3 by rw [hW3]; exact (Below.refl _ _).alloc (Nat.le_refl _) _)
        have HY3 := hid (show W3.heap[y]? = some (.cells #[.int .i64 X.1.kind, .int .i64 X.1.n, .string X.1.s, .slice ua X.1.args.length uc, .slice none 0 0, .int .i64 0] 48 (0, 0)) by rw [hW3, hy]; exact blk_new _ _)
        have HNY := hid (show ¬ RdM w.heap.size v2 y by rw [hy]; exact fun e => by have := HI2.out.rm_lt _ e; omega)
        have hwy : wr.heap.size ≤ y := by rw [hy]; exact HC2.out.1.size
        have hww : w.heap.size ≤ wr.heap.size := HTL.out.bel.size
        have HI3 := hid (HI2.out.below HB3.out)
        have HC3 := hid (And.intro (HC2.out.1.then_below HB3.out) HC2.out.2)
        have HR3 := hid (show Tm.rep (fun b => (wr.heap.size ≤ b ∧ b ≠ y) ∧ ¬ RdM w.heap.size v2 b) W3 X.1 [.int .i64 X.1.kind, .int .i64 X.1.n, .string X.1.s, .slice ua X.1.args.length uc] from Tm.rep_lasts.1 _ _ _ _ _ (Tm.rep_lasts.2.1 _ _ _ _ _ HR2.out fun b hb hA => ⟨⟨by have := hA.1; have := HC1.out.1.size; omega, by omega⟩, hA.2⟩) (Keeps.of_below HB3.out))
        rw [← hW3, ← hy]
        clear hW3 hy HR2 HI2 HC2 HB3
        have HAT : Hid (Calls Tryd.prog 27 #[.pointer (some ⟨w.heap.size, 0, none⟩), .string ⟨#[58, 45]⟩] W3 _) := hid (rat_ok [58, 45] (by simp) HI3.out)
        refine HAT.out.mono ?_
        rintro e w3 ⟨rfl, hst3⟩
        obtain ⟨v3, k1, k2, k3, k4, k5⟩ := step_x hst3 HY3.out HNY.out
        have HI4 := hid k1
        have HC4 := hid (step_chain HC3.out.1 HC3.out.2 k2 k3)
        have HY4 := hid k4
        have HN4 := hid k5
        have HR4 := hid (rep_mv HR3.out k2 k3)
        have HYES := hid (fun ha => clauseR_yes (r := rr) ha)
        have HNO := hid (fun ha => clauseR_no (r := rr) ha)
        rw [← HX.out] at HYES HNO
        obtain ⟨A, hA⟩ : ∃ A, A = (X.2.at_ [58, 45]).2 := ⟨_, rfl⟩
        rw [← hA] at HI4 HYES HNO
        have hal := (at_len (sg := [58, 45]) X.2).1
        rw [← hA] at hal
        have hyl := blk_lt k4
        clear hst3 k1 k2 k3 k4 k5 HAT HCALL hA
        go_upto_if 29 with fail
        go_cut [] (fun wx => ∃ vr9 la lc, RdI B base w.heap.size vr9 (clauseR rr).2 wx ∧ Ch (RdM w.heap.size vr) wr wx ∧ VG wr vr vr9 ∧ wx.heap[y]? = some (.cells #[.int .i64 X.1.kind, .int .i64 X.1.n, .string X.1.s, .slice ua X.1.args.length uc, .slice la (clauseR rr).1.body.length lc, .int .i64 0] 48 (0, 0)) ∧ ¬ RdM w.heap.size vr9 y ∧ Tm.rep (fun b => (wr.heap.size ≤ b ∧ b ≠ y) ∧ ¬ RdM w.heap.size vr9 b) wx X.1 [.int .i64 X.1.kind, .int .i64 X.1.n, .string X.1.s, .slice ua X.1.args.length uc] ∧ TmsR (fun b => (wr.heap.size ≤ b ∧ b ≠ y) ∧ ¬ RdM w.heap.size vr9 b) wx (clauseR rr).1.body (.slice la (clauseR rr).1.body.length lc))
        case first =>
          obtain ⟨q0, q1, q2, q3, q4, q5, qf⟩ := box6 HY4.out
          cases hat : (X.2.at_ [58, 45]).1 with
          | true =>
            have HCL := hid (HYES.out hat)
            have HGO := hid (rgoals_ok HI4.out)
            clear hat
            go_wp2_with fail
            refine HGO.out.mono ?_
            rintro e w5 ⟨lv, v5, rfl, k1, k2, k3, k4, k5⟩
            obtain ⟨la, lc, lb, lo, rfl, hl1, hl2, hl3, -⟩ := k4.at
            have HI5 := hid k1
            have HC5 := hid (step_chain HC4.out.1 HC4.out.2 k2 k3)
            have hy5 := (k2.block y hyl HN4.out).trans HY4.out
            have HY5 := hid hy5
            have HN5 := hid (show ¬ RdM w.heap.size v5 y from fun e => (VG.rm k3 y e).elim HN4.out (fun e => by omega))
            have HR5 := hid (rep_mv HR4.out k2 k3)
            have HG5 := hid (show TmsR (fun b => (wr.heap.size ≤ b ∧ b ≠ y) ∧ ¬ RdM w.heap.size v5 b) w5 (goalsR A).1 (.slice la (goalsR A).1.length lc) from SlR.mono Tm.rep_lasts (by omega) k4 fun b hb hA => ⟨⟨by have := hA.1; have := HC4.out.1.size; omega, by have := hA.1; omega⟩, hA.2⟩)
            obtain ⟨q0, q1, q2, q3, q4, q5, qf⟩ := box6 hy5
            have hyl5 := blk_lt hy5
            clear k1 k2 k3 k4 k5 hy5 HGO
            go_wp2_with fail
            go_meet
            case rel =>
              rw [HCL.out]
              have hks : Keeps (fun b => (wr.heap.size ≤ b ∧ b ≠ y) ∧ ¬ RdM w.heap.size v5 b) w5 (w5.setCell ⟨y, 4, none⟩ (.slice la (goalsR A).1.length lc)) := Keeps.setCell _ _ _ _ (fun e => e.1.2 rfl)
              exact ⟨v5, la, lc, HI5.out.other HN5.out (by omega), HC5.out.1.setCell (p := ⟨y, 4, none⟩) (.inr (by simp only; omega)) _, HC5.out.2, blk_set HY5.out 4 _, HN5.out, Tm.rep_lasts.1 _ _ _ _ _ HR5.out hks, SlR.keeps Tm.rep_lasts HG5.out hks⟩
          | false =>
            have HCL := hid (HNO.out hat)
            have HAT2 : Hid (Calls Tryd.prog 27 #[.pointer (some ⟨w.heap.size, 0, none⟩), .string ⟨#[46]⟩] w3 _) := hid (rat_ok [46] (by simp) HI4.out)
            clear hat
            go_wp2_with fail
            refine HAT2.out.mono ?_
            rintro e w5 ⟨rfl, hst5⟩
            obtain ⟨v5, k1, k2, k3, k4, k5⟩ := step_x hst5 HY4.out HN4.out
            have HI5 := hid k1
            have HC5 := hid (step_chain HC4.out.1 HC4.out.2 k2 k3)
            have HY5 := hid k4
            have HN5 := hid k5
            have HR5 := hid (rep_mv HR4.out k2 k3)
            obtain ⟨b0, b1, b2, bf⟩ := k1.cells
            have hgl5 := k1.lt.1
            clear hst5 k1 k2 k3 k4 k5 HAT2
            cases hat2 : (A.at_ [46]).1 with
            | true =>
              have HM := hid (show A.must [46] = (A.at_ [46]).2 by unfold Rd.must; rw [if_pos hat2])
              clear hat2
              go_wp2_with fail
              go_meet
              case rel =>
                rw [HCL.out, HM.out]
                exact ⟨v5, none, 0, HI5.out, HC5.out.1, HC5.out.2, HY5.out, HN5.out, HR5.out, SlR.nil ..⟩
            | false =>
              have HM := hid (show A.must [46] = (A.at_ [46]).2.kill by unfold Rd.must; rw [if_neg (by rw [hat2]; simp)])
              obtain ⟨v6, k1, k2, k3, k4, k5⟩ := step_x (HI5.out.setBad true) HY5.out HN5.out
              have HI6 := hid k1
              have HC6 := hid (step_chain HC5.out.1 HC5.out.2 k2 k3)
              have HY6 := hid k4
              have HN6 := hid k5
              have HR6 := hid (rep_mv HR5.out k2 k3)
              clear hat2 k1 k2 k3 k4 k5
              go_wp2_with fail
              go_meet
              case rel =>
                rw [HCL.out, HM.out]
                exact ⟨v6, none, 0, HI6.out, HC6.out.1, HC6.out.2, HY6.out, HN6.out, HR6.out, SlR.nil ..⟩
        case rest =>
          obtain ⟨vr9, la, lc, k1, k2, k3, k4, k5, k6, k7⟩ := hcut
          obtain ⟨C, hC⟩ : ∃ C, C = clauseR rr := ⟨_, rfl⟩
          rw [← hC] at k1 k4 k7
          have hch := clauseR_head rr
          rw [← hC, ← HX.out] at hch
          have hcl := clauseR_len rr
          rw [← hC] at hcl
          have hcn := (clauseR_nodes rr).1
          rw [← hC] at hcn
          have HC := hid hC
          have HH := hid hch
          have HCLN := hid hcl
          have hcn2 : C.1.nodes ≤ 1099511627776 := by have := HLL.out; omega
          have HCN := hid hcn2
          have HI9 := hid k1
          have HC9 := hid (And.intro k2 k3)
          have HN9 := hid k5
          have HR9 := hid k6
          have HB9 := hid k7
          have HY9 := hid k4
          obtain ⟨b0, b1, b2, bf⟩ := k1.cells
          have hgl9 := k1.lt.1
          obtain ⟨va, vc, hv, hvl, hvm⟩ := k1.vars.val
          have hlen := k1.len
          subst hv
          unfold maxLen at hvm
          obtain ⟨q0, q1, q2, q3, q4, q5, qf⟩ := box6 k4
          have hyl9 := blk_lt k4
          have hgy : ¬ w.heap.size = y := fun e => k5 (.inl e.symm)
          have hcs := cell_set
          have hvn : C.1.vars = (C.2.vars.length : Int) := hch.2
          have HVN := hid hvn
          clear hC hch hcl hcn hcn2 k1 k2 k3 k4 k5 k6 k7 HYES HNO HI4 HC4 HY4 HN4 HR4 HI3 HC3 HR3 HY3 HNY hal hyl hvn
          -- the box with the number of variables
          have HY10 := hid (show (wc.setCell ⟨y, 5, none⟩ (.int .i64 (C.2.vars.length : Int))).heap[y]? = some (.cells #[.int .i64 X.1.kind, .int .i64 X.1.n, .string X.1.s, .slice ua X.1.args.length uc, .slice la C.1.body.length lc, .int .i64 (C.2.vars.length : Int)] 48 (0, 0)) from blk_set HY9.out 5 _)
          have HI10 := hid (HI9.out.other (b := y) (o := 5) (u := .int .i64 (C.2.vars.length : Int)) HN9.out (by omega))
          have HC10 := hid (And.intro (HC9.out.1.setCell (p := ⟨y, 5, none⟩) (.inr (by simp only; omega)) (.int .i64 (C.2.vars.length : Int))) HC9.out.2)
          have hks : Keeps (fun b => (wr.heap.size ≤ b ∧ b ≠ y) ∧ ¬ RdM w.heap.size (.slice va C.2.vars.length vc) b) wc (wc.setCell ⟨y, 5, none⟩ (.int .i64 (C.2.vars.length : Int))) := Keeps.setCell _ _ _ _ (fun e => e.1.2 rfl)
          have HCR := hid (show Cl.rep (fun b => (wr.heap.size ≤ b ∧ b ≠ y) ∧ ¬ RdM w.heap.size (.slice va C.2.vars.length vc) b) (wc.setCell ⟨y, 5, none⟩ (.int .i64 (C.2.vars.length : Int))) C.1 [.int .i64 X.1.kind, .int .i64 X.1.n, .string X.1.s, .slice ua X.1.args.length uc, .slice la C.1.body.length lc, .int .i64 (C.2.vars.length : Int)] from
            ⟨ua, uc, la, lc, by rw [HH.out.1, HVN.out], by rw [HH.out.1]; exact Tm.rep_lasts.1 _ _ _ _ _ HR9.out hks, SlR.keeps Tm.rep_lasts HB9.out hks, by rw [HVN.out]; unfold I64; omega⟩)
          clear hks
          cases hbd : C.2.bad with
          | true =>
            have HB := hid (show K = none by rw [HPR.out]; exact progR_bad HSPR.out HNE.out (.inl (by rw [← HC.out]; exact hbd)))
            have HR := hid (show readR s = ([], 1) by rw [HQ.out, HB.out]; rfl)
            have HBW := hid (HTL.out.rd.below_of HTL.out.gn HTL.out.bel HC10.out.1)
            rw [hbd] at b2
            clear hbd
            go_wp2_with fail
            go_ret2
            rw [HR.out]
            exact ⟨_, rfl, HBW.out, SlR.nil ..⟩
          | false =>
            have HBD := hid hbd
            rw [hbd] at b2
            clear hbd
            go_wp2_with fail
            refine (goodClause_ok C.1 HCN.out _ _ _ HCR.out).mono ?_
            rintro e w11 ⟨v, rfl, hb11, t, rfl, hgt⟩
            have HI11 := hid (HI10.out.below hb11)
            have HC11 := hid (And.intro (HC10.out.1.then_below hb11) HC10.out.2)
            have HY11 := hid (blk_below HY10.out hb11)
            have HGT := hid hgt
            have HCLL := hid (HCLN.out.2 HBD.out)
            have HT11 := hid (HTL.out.move HI11.out HC11.out.1 HC11.out.2 (by have := HCLL.out; have := HLL.out; omega))
            have hol := HTL.out.own.lt
            have HE11 := hid (show Cl.rep (fun b => (w.heap.size ≤ b ∧ ¬ RdM w.heap.size (.slice va C.2.vars.length vc) b) ∧ ownB (.slice pa l.length pc) ≠ some b) w11 C.1 [.int .i64 X.1.kind, .int .i64 X.1.n, .string X.1.s, .slice ua X.1.args.length uc, .slice la C.1.body.length lc, .int .i64 (C.2.vars.length : Int)] from Cl.rep_lasts.2.1 _ _ _ _ _ (Cl.rep_lasts.1 _ _ _ _ _ HCR.out (Keeps.of_below hb11)) fun b _ hb => ⟨⟨by have := hb.1.1; omega, hb.2⟩, fun e => by have := (hol b e).2; have := hb.1.1; omega⟩)
            have HLE := hid (show l.length < 4194304 ∧ w.heap.size ≤ w11.heap.size from ⟨by have := HLL.out; omega, HT11.out.bel.size⟩)
            clear hb11 hgt b0 b1 b2 bf hgl9 q0 q1 q2 q3 q4 q5 qf hyl9
            obtain ⟨q0, q1, q2, q3, q4, q5, qf⟩ := box6 HY11.out
            have hyl11 := blk_lt HY11.out
            cases t with
            | false =>
              have HB := hid (show K = none by rw [HPR.out]; exact progR_bad HSPR.out HNE.out (.inr (by rw [← HC.out]; exact fun h => by have := HGT.out.2 h; cases this)))
              have HR := hid (show readR s = ([], 1) by rw [HQ.out, HB.out]; rfl)
              go_wp2_with fail
              go_ret2
              rw [HR.out]
              exact ⟨_, rfl, HT11.out.bel, SlR.nil ..⟩
            | true =>
              have HB := hid (show K = progR k (l ++ [C.1]) C.2 by rw [HPR.out, progR_go HSPR.out HNE.out (by rw [← HC.out]; exact fun h => h.elim (fun h => by rw [HBD.out] at h; cases h) (fun h => h (HGT.out.1 rfl))), ← HC.out])
              go_wp2_with (at_builtin; go_must (refine wpList_app1 rfl (.tmp 54) (.tmp 56) 34 rfl w.heap.size 48 6 88 tyClsR Cl.rep_lasts (A := fun b => w.heap.size ≤ b ∧ ¬ RdM w.heap.size (.slice va C.2.vars.length vc) b) (.slice pa l.length pc) l rfl HT11.out.own C.1 [_, _, _, _, _, _] (by rfl) rfl HE11.out HLE.out ?_); go_must (intro v2' w12 hown hg; obtain ⟨pa2, pc2, hv2, -⟩ := OwnR.val' hown; rw [show (l ++ [C.1]).length = l.length + 1 by simp] at hv2; subst hv2; have HT12 := hid (HT11.out.push hB hown hg (by have := HCLL.out; have := HLL.out; omega)); clear hown hg))
              have HSP := hid (rspace_ok HT12.out.rd)
              refine HSP.out.mono ?_
              rintro e w13 ⟨rfl, v13, k1, k2, k3⟩
              have hsl : C.2.space.s.length ≤ C.2.s.length := spaceF_len _
              have HSL2 := hid hsl
              have HT13 := hid (HT12.out.move k1 k2 k3 (by have := HT12.out.ll; omega))
              clear k1 k2 k3 hsl HSP
              go_wp2_with fail
              go_roundw
              case rel =>
                have h1 := HCLL.out
                have h2 := HSL2.out
                have h3 := HKL.out
                have h4 := HLL.out
                exact ⟨k - 1, l ++ [C.1], C.2.space, v13, HT13.out, space_idem _, by rw [HB.out, progR_space, show k - 1 + 1 = k by omega], by omega, by simp only [List.length_append, List.length_singleton]; omega⟩
              case measure =>
                have h1 := HCLL.out
                have h2 := HSL2.out
                rw [rdMu_of HT13.out.rd, rdMu_of HTL.out.rd]
                omega
end Go.Proofs.YtlpmfkpefoegeacDoor
