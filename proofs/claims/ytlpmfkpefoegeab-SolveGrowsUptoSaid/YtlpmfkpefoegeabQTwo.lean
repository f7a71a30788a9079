/-
  The small question whether package solve answers at all.
  Does solve answer at all?
  Two lists of terms of a call's own, each grown by append; an append's step; two operations that may come up.
-/
import Derived.Test.YtlpmfkpefoegeabPSolveM
import Derived.Test.YtlpmfkpefoegeabQSameEv
import Derived.Test.YtlpmfkpefoegeabQCopyHeap
namespace Go.Proofs.Ytlpmfkpefoegeab
set_option linter.unusedVariables false
set_option linter.unusedSimpArgs false

/-- 4; V0; p(4); p(V0) -/
def n4 : Tm := .mk 2 4 ByteArray.empty []
def v0 : Tm := .mk 0 0 ByteArray.empty []
def p4 : Tm := .mk 3 0 ⟨#[112]⟩ [n4]
def pV : Tm := .mk 3 0 ⟨#[112]⟩ [v0]
def c4 : Cl := ⟨p4, [], 0⟩

theorem name_p : (p4).s.toList = [112] := by decide +kernel
theorem pgood {x : Tm} {N : Int} (hx : x.Good N) : (Tm.mk 3 0 ⟨#[112]⟩ [x]).Good N := by
  refine .comp _ _ ?_ (by decide +kernel) (by simp) (by simp) (fun t ht => ?_)
  · refine .inr ⟨by decide, by decide, fun i h => ?_⟩
    have : i = 0 := by have : (⟨#[112]⟩ : ByteArray).size = 1 := rfl; omega
    subst this
    show (97 : Int) ≤ ((112 : UInt8).toNat : Int) ∧ ((112 : UInt8).toNat : Int) ≤ 122
    decide
  · simp only [List.mem_singleton] at ht
    subst ht
    exact hx
theorem not_known {x : Tm} : ¬ (Tm.mk 3 0 ⟨#[112]⟩ [x]).Known := by
  have h : (⟨#[112]⟩ : ByteArray).toList = [112] := by decide +kernel
  simp [Tm.Known, Tm.args, Tm.s, h]
theorem c4_good : GoodP [c4] := by
  refine ⟨by decide, fun c hc => ?_⟩
  simp only [List.mem_singleton] at hc
  subst hc
  exact ⟨⟨by decide, by decide, by decide, by simp [c4]⟩, .inr rfl, ⟨pgood (.int 4 (by omega) (by omega)), by decide⟩, not_known⟩
theorem pV_good : GoodQ [pV] 1 := by
  refine ⟨by omega, by omega, by decide, fun g hg => ?_⟩
  simp only [List.mem_singleton] at hg
  subst hg
  exact ⟨.inr rfl, pgood (.var 0 (by omega) (by omega)), by decide⟩

theorem look_n4 (E : Env) : slook E n4 = n4 := slook_stop (.inl (by decide))
theorem look_p (E : Env) (x : Tm) : slook E (.mk 3 0 ⟨#[112]⟩ [x]) = .mk 3 0 ⟨#[112]⟩ [x] := slook_stop (.inl (by simp [Tm.kind]))
theorem look_v0 : slook [] v0 = v0 := slook_stop (.inr rfl)
theorem look_v0' : slook [(0, n4)] v0 = n4 := by simp [slook, slookN, v0, Tm.kind, Tm.n, eget, n4]

theorem uni_p : uniS 400 [(p4, pV)] [] = ⟨true, [(0, n4)], 397⟩ := by
  rw [uniS]
  simp only [p4, pV, look_p]
  rw [if_neg (by simp [Tm.kind]), if_neg (by simp [Tm.kind]), if_neg (by simp [Tm.kind, Tm.n, Tm.s, Tm.args])]
  simp only [Tm.args, List.zip_cons_cons, List.zip_nil_right, List.append_nil]
  rw [uniS]
  simp only [look_n4, look_v0]
  rw [if_neg (by simp [n4, Tm.kind]), if_pos (.inr (by simp [v0, Tm.kind]))]
  have hk : v0.kind = 0 := rfl
  have hn : v0.n = 0 := rfl
  have h4 : n4.kind = 2 := rfl
  simp only [hk, hn, if_true]
  have hin : inS [] 0 398 [n4] = (false, 397) := by
    rw [inS_succ, look_n4, if_neg (by rw [h4]; omega)]
    rfl
  rw [hin]
  rw [if_neg (by simp)]
  rw [uniS_nil]
  rfl

theorem shift_p4 (d : Int) : shiftF p4 d = p4 := by
  simp [shiftF, p4, n4, Tm.ren, Tm.renL]

theorem solve_p : solveF [c4] [pV] 1 9 = ([⟨1, [n4]⟩, ⟨2, []⟩], 0) := by
  rcases solveF_cases [c4] [pV] 1 9 with ⟨h, _⟩ | ⟨_, h, _⟩ | ⟨_, _, _, h⟩
  · exact absurd ⟨c4_good, pV_good⟩ h
  · omega
  rw [h]
  have hn : (1 : Int).toNat = 1 := rfl
  have hf : (9 : Int).toNat = 9 := rfl
  rw [hn, hf]
  have hl : likeF c4.head pV := ⟨rfl, rfl⟩
  have hc : callF [c4] ⟨pV, 0⟩ [] 1 0 ⟨[], [], 1, 8, []⟩ = (.next [], ⟨[(0, n4)], [], 1, 8, []⟩) := by
    rw [callF]
    simp only [List.getElem?_cons_zero]
    rw [if_neg (not_not_intro hl)]
    simp only [show c4.head = p4 from rfl, shift_p4, uni_p]
    rw [if_neg (by omega), if_neg (by simp)]
    simp [bodyF, c4, nextF]
  have hs : stepF [c4] ⟨pV, 0⟩ [] ⟨[], [], 1, 9, []⟩ = (.next [], ⟨[(0, n4)], [], 1, 8, []⟩) := by
    unfold stepF
    simp only
    rw [if_neg (by omega), if_neg (show ¬ pV.Known from not_known), if_neg (fun h => h c4 (by simp) hl)]
    simp only [List.length_singleton, hc]
  have ha : answerF 1 ⟨[(0, n4)], [], 1, 8, []⟩ = (true, ⟨[(0, n4)], [], 1, 8, [⟨1, [n4]⟩]⟩) := by
    have hfl : flL [(0, n4)] 200 [tvar (0 : Nat)] = some ([n4], 199) := by
      rw [flL, show slook [(0, n4)] (tvar ((0 : Nat) : Int)) = n4 from look_v0']
      simp [flL_nil, n4, Tm.args, Tm.kind, Tm.n, Tm.s]
    unfold answerF
    rw [show (List.range 1).map (fun i => tvar (i : Nat)) = [tvar (0 : Nat)] from rfl, hfl]
    have ht : tidy [n4] = [n4] := by simp [tidy, Tm.renSL, Tm.renS, n4, Tm.num]
    simp [ht]
  have hb : backF [c4] [] ⟨[(0, n4)], [], 1, 8, [⟨1, [n4]⟩]⟩ = (.off, ⟨[(0, n4)], [], 1, 8, [⟨1, [n4]⟩, ⟨2, []⟩]⟩) := by
    simp [backF, Sv.put]
  rw [show List.map (fun t => (⟨t, 0⟩ : Gl)) [pV] = [⟨pV, 0⟩] from rfl, runF, hs]
  simp only
  rw [runF, ha]
  simp only [hb]
end Go.Proofs.Ytlpmfkpefoegeab

namespace Go.Proofs.Ytlpmfkpefoegeab
set_option linter.unusedVariables false
set_option linter.unusedSimpArgs false
open Go.RowKit

theorem cls_one {A : Nat → Prop} {w : World} {c : Cl} {us : List Value} (hA : A w.heap.size) (hc : Cl.rep A w c us) (hl : us.length = 6) :
    ClsR A (w.alloc (.cells us.toArray 26)) [c] (.slice (some ⟨w.heap.size, 0, none⟩) 1 1) :=
  ⟨w.heap.size, 0, ⟨by simp, .inr ⟨by simp, hA, 1, rfl, by simp, by simp [maxLen]⟩⟩, elems_one Cl.rep_lasts _ hl hc⟩
theorem tms_one' {A : Nat → Prop} {w : World} {t : Tm} {us : List Value} (hA : A w.heap.size) (ht : Tm.rep A w t us) (hl : us.length = 4) :
    TmsR A (w.alloc (.cells us.toArray 24)) [t] (.slice (some ⟨w.heap.size, 0, none⟩) 1 1) :=
  ⟨w.heap.size, 0, ⟨by simp, .inr ⟨by simp, hA, 1, rfl, by simp, by simp [maxLen]⟩⟩, elems_one Tm.rep_lasts _ hl ht⟩

/-- the four blocks that are made ahead of the question -/
theorem solves_world (w : World) : (fun W => ClsR (fun b => b < W.heap.size) W [c4] (.slice (some ⟨w.heap.size + 1, 0, none⟩) 1 1) ∧ TmsR (fun b => b < W.heap.size) W [pV] (.slice (some ⟨w.heap.size + 3, 0, none⟩) 1 1) ∧ Below w.heap.size w W)
    ((((w.alloc (.cells #[.int .i64 2, .int .i64 4, .string ByteArray.empty, .slice none 0 0] 24)).alloc (.cells #[.int .i64 3, .int .i64 0, .string ⟨#[112]⟩, .slice (some ⟨w.heap.size, 0, none⟩) 1 1, .slice none 0 0, .int .i64 0] 26)).alloc
      (.cells #[.int .i64 0, .int .i64 0, .string ByteArray.empty, .slice none 0 0] 24)).alloc (.cells #[.int .i64 3, .int .i64 0, .string ⟨#[112]⟩, .slice (some ⟨w.heap.size + 2, 0, none⟩) 1 1] 24)) := by
  have i0 : I64 0 := by unfold I64; omega
  have i2 : I64 2 := by unfold I64; omega
  have i3 : I64 3 := by unfold I64; omega
  have i4 : I64 4 := by unfold I64; omega
  have A := fun (b : Nat) => b < w.heap.size + 4
  -- 4
  have h1 : Tm.rep (fun b => b < w.heap.size + 4) w n4 [.int .i64 2, .int .i64 4, .string ByteArray.empty, .slice none 0 0] := by
    rw [n4, Tm.rep_iff]; exact ⟨i2, i4, by decide, _, rfl, SlR.nil ..⟩
  have h2 := tms_one' (A := fun b => b < w.heap.size + 4) (w := w) (by omega) h1 rfl
  generalize hw1 : w.alloc (.cells [Value.int .i64 2, .int .i64 4, .string ByteArray.empty, .slice none 0 0].toArray 24) = w1 at h2
  have hs1 : w1.heap.size = w.heap.size + 1 := by rw [← hw1]; simp
  have hb1 : Below w.heap.size w w1 := by rw [← hw1]; exact (Below.refl _ _).alloc (Nat.le_refl _) _
  have h3 : Cl.rep (fun b => b < w.heap.size + 4) w1 c4 [.int .i64 3, .int .i64 0, .string ⟨#[112]⟩, .slice (some ⟨w.heap.size, 0, none⟩) 1 1, .slice none 0 0, .int .i64 0] := by
    refine ⟨some ⟨w.heap.size, 0, none⟩, 1, none, 0, rfl, ?_, SlR.nil .., i0⟩
    rw [show c4.head = Tm.mk 3 0 ⟨#[112]⟩ [n4] from rfl, Tm.rep_iff]
    exact ⟨i3, i0, by decide, _, rfl, h2⟩
  have h4 := cls_one (A := fun b => b < w.heap.size + 4) (w := w1) (by omega) h3 rfl
  rw [hs1] at h4
  generalize hw2 : w1.alloc (.cells [Value.int .i64 3, .int .i64 0, .string ⟨#[112]⟩, .slice (some ⟨w.heap.size, 0, none⟩) 1 1, .slice none 0 0, .int .i64 0].toArray 26) = w2 at h4
  have hs2 : w2.heap.size = w.heap.size + 2 := by rw [← hw2]; simp; omega
  have hb2 : Below w.heap.size w w2 := by rw [← hw2]; exact hb1.alloc (by omega) _
  have h5 : Tm.rep (fun b => b < w.heap.size + 4) w2 v0 [.int .i64 0, .int .i64 0, .string ByteArray.empty, .slice none 0 0] := by
    rw [v0, Tm.rep_iff]; exact ⟨i0, i0, by decide, _, rfl, SlR.nil ..⟩
  have h6 := tms_one' (A := fun b => b < w.heap.size + 4) (w := w2) (by omega) h5 rfl
  rw [hs2] at h6
  have h4' := SlR.keeps Cl.rep_lasts h4 (Keeps.alloc _ w2 (.cells [Value.int .i64 0, .int .i64 0, .string ByteArray.empty, .slice none 0 0].toArray 24))
  generalize hw3 : w2.alloc (.cells [Value.int .i64 0, .int .i64 0, .string ByteArray.empty, .slice none 0 0].toArray 24) = w3 at h6 h4'
  have hs3 : w3.heap.size = w.heap.size + 3 := by rw [← hw3]; simp; omega
  have hb3 : Below w.heap.size w w3 := by rw [← hw3]; exact hb2.alloc (by omega) _
  have h7 : Tm.rep (fun b => b < w.heap.size + 4) w3 pV [.int .i64 3, .int .i64 0, .string ⟨#[112]⟩, .slice (some ⟨w.heap.size + 2, 0, none⟩) 1 1] := by
    rw [show pV = Tm.mk 3 0 ⟨#[112]⟩ [v0] from rfl, Tm.rep_iff]
    exact ⟨i3, i0, by decide, _, rfl, h6⟩
  have h8 := tms_one' (A := fun b => b < w.heap.size + 4) (w := w3) (by omega) h7 rfl
  rw [hs3] at h8
  have h4'' := SlR.keeps Cl.rep_lasts h4' (Keeps.alloc _ w3 (.cells [Value.int .i64 3, .int .i64 0, .string ⟨#[112]⟩, .slice (some ⟨w.heap.size + 2, 0, none⟩) 1 1].toArray 24))
  have hs4 : (w3.alloc (.cells [Value.int .i64 3, .int .i64 0, .string ⟨#[112]⟩, .slice (some ⟨w.heap.size + 2, 0, none⟩) 1 1].toArray 24)).heap.size = w.heap.size + 4 := by simp; omega
  subst hw1; subst hw2; subst hw3
  simp only
  refine ⟨?_, ?_, hb3.alloc (by omega) _⟩
  · exact SlR.mono Cl.rep_lasts (by omega) h4'' (fun b _ hb => Nat.lt_of_lt_of_eq hb hs4.symm)
  · exact SlR.mono Tm.rep_lasts (by omega) h8 (fun b _ hb => Nat.lt_of_lt_of_eq hb hs4.symm)
set_option maxRecDepth 100000 in
set_option maxHeartbeats 4000000 in
theorem solvesK_ok (w : World) : Calls Try.prog 21 #[] w (Pure w (fun r _ => r = .bool true)) := by
  have i0 : I64 0 := by unfold I64; omega
  have i2 : I64 2 := by unfold I64; omega
  have i3 : I64 3 := by unfold I64; omega
  have i4 : I64 4 := by unfold I64; omega
  have hcs := cell_set
  have HQ := hid (fun (W : World) (pv qv : Value) hp hq => sall_ok (P := [c4]) (Q := [pV]) (vars := 1) (fuel := 9) (by decide) (by decide) (by unfold I64; omega) (by unfold I64; omega) W pv qv hp hq)
  rw [solve_p] at HQ
  go_enter Try.func21, Try.ntmps21
  go_wp2_with fail
  have hW := solves_world w
  have HW := hid hW
  clear hW
  refine (HQ.out _ _ _ HW.out.1 HW.out.2.1).mono ?_
  rintro e w1 ⟨ev, rfl, hb1, hev⟩
  have HB1 := hid (HW.out.2.2.trans (hb1.mono HW.out.2.2.size))
  clear hb1 HW HQ
  obtain ⟨ea, ec, eb, eo, rfl, -, -, -, hea, hee⟩ := SlR.at hev
  obtain ⟨rfl, hAe⟩ := hea (by simp)
  obtain ⟨ta, tc, c0, c1, hr0, -⟩ := ev_cells hee hAe (Keeps.refl _ _) (k := 0) (by simp)
  obtain ⟨ta1, tc1, d0, d1, -, -⟩ := ev_cells hee hAe (Keeps.refl _ _) (k := 1) (by simp)
  simp only [List.getElem_cons_zero, List.getElem_cons_succ, Nat.zero_mul, Nat.add_zero, Nat.one_mul, List.length_cons, List.length_nil] at c0 c1 d0 d1 hr0
  obtain ⟨_, _, tb, to, e9, -, -, -, hta, hte⟩ := SlR.at hr0
  simp only [Value.slice.injEq, List.length_cons, List.length_nil, true_and] at e9
  obtain ⟨rfl, rfl⟩ := e9
  obtain ⟨rfl, hAt⟩ := hta (by simp)
  obtain ⟨xa, xc, f0, f1, f2, f3, -⟩ := tm_cells hte hAt (Keeps.refl _ _) (k := 0) (by simp)
  simp only [List.getElem_cons_zero, Nat.zero_mul, Nat.add_zero] at f0 f1 f2 f3
  have l1 := World.block_lt_of_cell? w1 _ c0
  have l2 := World.block_lt_of_cell? w1 _ f0
  simp only at l1 l2
  have hn4 : n4.n = 4 := rfl
  rw [hn4] at f1
  clear hev hea hee hr0 hta hte hAe hAt
  simp only [List.length_cons, List.length_nil]
  go_wp2_with fail
  go_ret
  exact ⟨_, rfl, HB1.out, rfl⟩
end Go.Proofs.Ytlpmfkpefoegeab

namespace Go.Proofs.Ytlpmfkpefoegeab
set_option linter.unusedVariables false
set_option linter.unusedSimpArgs false
open Go.RowKit

/-- none of the two lists' own blocks -/
def Out (B : Nat) (av bv : Value) (b : Nat) : Prop := B ≤ b ∧ ownB av ≠ some b ∧ ownB bv ≠ some b

structure Two (B : Nat) (w : World) (la lb : List Tm) (av bv : Value) : Prop where
  a : OwnR w B 24 4 Tm.rep (fun b => B ≤ b ∧ ownB bv ≠ some b) la av
  b : OwnR w B 24 4 Tm.rep (fun b => B ≤ b ∧ ownB av ≠ some b) lb bv
  sep : ∀ k, ownB av = some k → ownB bv ≠ some k

theorem Two.swap {B : Nat} {w : World} {la lb : List Tm} {av bv : Value} (h : Two B w la lb av bv) : Two B w lb la bv av :=
  ⟨h.b, h.a, fun k h1 h2 => h.sep k h2 h1⟩
theorem Two.nil (B : Nat) (w : World) : Two B w [] [] (.slice none 0 0) (.slice none 0 0) := ⟨OwnR.nil .., OwnR.nil .., fun k h => by simp [ownB] at h⟩
theorem Two.keeps {B : Nat} {w w' : World} {la lb : List Tm} {av bv : Value} (h : Two B w la lb av bv) (hk : Keeps (fun b => B ≤ b) w w') : Two B w' la lb av bv :=
  ⟨h.a.keeps Tm.rep_lasts hk (fun _ h => h.1) (fun k e => (h.a.lt k e).1), h.b.keeps Tm.rep_lasts hk (fun _ h => h.1) (fun k e => (h.b.lt k e).1), h.sep⟩
theorem Two.below {B : Nat} {w w' : World} {la lb : List Tm} {av bv : Value} (h : Two B w la lb av bv) (hb : Below w.heap.size w w') : Two B w' la lb av bv := h.keeps (Keeps.of_below hb)

/-- what an append onto the first asks for -/
theorem Two.src {B : Nat} {w : World} {la lb ys : List Tm} {av bv x : Value} (h : Two B w la lb av bv) (hx : TmsR (Out B av bv) w ys x) :
    SlR 4 Tm.rep (fun b => (B ≤ b ∧ ownB bv ≠ some b) ∧ ownB av ≠ some b) w ys x := SlR.mono Tm.rep_lasts (by omega) hx (fun b _ hb => ⟨⟨hb.1, hb.2.2⟩, hb.2.1⟩)

theorem Grew.new {w w' : World} {v v' : Value} (h : Grew w w' v v') {b : Nat} (hb : b < w.heap.size) (hn : ownB v ≠ some b) : ownB v' ≠ some b := fun e => by
  rcases h.block with h1 | h1
  · exact hn (h1 ▸ e)
  · have := h1 b e; omega

theorem Two.app {B : Nat} {w w' : World} {la lb ys : List Tm} {av bv v' : Value} (h : Two B w la lb av bv) (h1 : OwnR w' B 24 4 Tm.rep (fun b => B ≤ b ∧ ownB bv ≠ some b) (la ++ ys) v') (hg : Grew w w' av v') :
    Two B w' (la ++ ys) lb v' bv := by
  refine ⟨h1, ?_, fun k e e2 => ?_⟩
  · have h2 := h.b.mono (A' := fun b => (B ≤ b ∧ ownB av ≠ some b) ∧ ownB v' ≠ some b) Tm.rep_lasts (fun b hb hb' => ⟨hb', hg.new hb hb'.2⟩)
    have h3 := h2.keeps (B := fun b => ownB av ≠ some b) Tm.rep_lasts (hg.keeps (fun _ h => h)) (fun b hb => hb.1.2) (fun k e e2 => h.sep k e2 e)
    exact h3.mono Tm.rep_lasts (fun b _ hb => ⟨hb.1.1, hb.2⟩)
  · exact hg.new (h.b.lt k e2).2 (fun e3 => h.sep k e3 e2) e

theorem Out.app {B : Nat} {w w' : World} {av bv v' z : Value} {zs : List Tm} (hg : Grew w w' av v') (hz : TmsR (Out B av bv) w zs z) : TmsR (Out B v' bv) w' zs z := by
  have h2 := SlR.mono (A' := fun b => Out B av bv b ∧ ownB v' ≠ some b) Tm.rep_lasts (by omega) hz (fun b hb hb' => ⟨hb', hg.new hb hb'.2.1⟩)
  have h3 := SlR.keeps Tm.rep_lasts h2 (hg.keeps (A := fun b => Out B av bv b ∧ ownB v' ≠ some b) (fun b hb => hb.1.2.1))
  exact SlR.mono Tm.rep_lasts (by omega) h3 (fun b _ hb => ⟨hb.1.1, hb.2, hb.1.2.2⟩)

theorem Out.appT {B : Nat} {w w' : World} {av bv v' : Value} {t : Tm} {us : List Value} (hg : Grew w w' av v') (hz : Tm.rep (Out B av bv) w t us) : Tm.rep (Out B v' bv) w' t us := by
  have h2 := Tm.rep_lasts.2.1 _ (fun b => Out B av bv b ∧ ownB v' ≠ some b) _ _ _ hz (fun b hb hb' => ⟨hb', hg.new hb hb'.2.1⟩)
  have h3 := Tm.rep_lasts.1 _ _ _ _ _ h2 (hg.keeps (A := fun b => Out B av bv b ∧ ownB v' ≠ some b) (fun b hb => hb.1.2.1))
  exact Tm.rep_lasts.2.1 _ _ _ _ _ h3 (fun b _ hb => ⟨hb.1.1, hb.2, hb.1.2.2⟩)

theorem Out.swap {B : Nat} {w : World} {av bv z : Value} {zs : List Tm} (hz : TmsR (Out B av bv) w zs z) : TmsR (Out B bv av) w zs z :=
  SlR.mono Tm.rep_lasts (by omega) hz (fun b _ hb => ⟨hb.1, hb.2.2, hb.2.1⟩)
theorem Out.swapT {B : Nat} {w : World} {av bv : Value} {t : Tm} {us : List Value} (hz : Tm.rep (Out B av bv) w t us) : Tm.rep (Out B bv av) w t us :=
  Tm.rep_lasts.2.1 _ _ _ _ _ hz (fun b _ hb => ⟨hb.1, hb.2.2, hb.2.1⟩)

/-- a block just made, of one term: it is read as a slice -/
theorem Out.made {B : Nat} {w : World} {av bv : Value} {la lb : List Tm} {t : Tm} {us : List Value} (h : Two B w la lb av bv) (hB : B ≤ w.heap.size) (ht : Tm.rep (Out B av bv) w t us) :
    TmsR (Out B av bv) (w.alloc (.cells us.toArray 24)) [t] (.slice (some ⟨w.heap.size, 0, none⟩) 1 1) := by
  have hl := Tm.rep_lasts.2.2
  refine ⟨w.heap.size, 0, ⟨by simp, .inr ⟨by simp, ⟨hB, fun e => by have := (h.a.lt _ e).2; omega, fun e => by have := (h.b.lt _ e).2; omega⟩, 1, rfl, by simp, by simp [maxLen]⟩⟩, ?_⟩
  exact elems_one Tm.rep_lasts _ (by obtain ⟨a, c, rfl, -⟩ := Tm.rep4 ht; rfl) ht

section
variable {P : Program} {ops : Array Oper} {Q : Exit → Act → World → Prop}
theorem wp_appS {w : World} {o : Oper} {a : Act} {K : Act → World → Prop} (s x : Operand) (t : TypeId)
    (ho : o.op = .call { callee := .builtin .append, args := #[s, x], argTypes := #[t, t] })
    (base : Nat) (e : TypeId) (size bytes : Nat) (hty : ElemTy P t e size bytes) {α : Type} {R : (Nat → Prop) → World → α → List Value → Prop} (hR : Lasts R) {A : Nat → Prop}
    (v : Value) (xs : List α) (hs : a.eval s = v) (hown : OwnR w base e size R A xs v) (xv : Value) (hxv : a.eval x = xv) (ys : List α) (hx : SlR size R (fun b => A b ∧ ownB v ≠ some b) w ys xv)
    (hlen : xs.length + ys.length ≤ 4194304) (hbase : base ≤ w.heap.size)
    (h : ∀ v' w', OwnR w' base e size R A (xs ++ ys) v' → Grew w w' v v' → K (a.put o.dst v') w') : o.wp P a w K Q := by
  obtain ⟨v', w', hr, k1, k2⟩ := run_appS (P := P) w base t o.type e size bytes hty hR v xs hown xv ys hx hlen hbase
  unfold Oper.wp execOp
  simp only [ho, resolve, invoke, builtin, Sem.run_bind, Sem.run_pure, Result.andThen_ok, List.map_toArray, List.map_cons, List.map_nil, hs, hxv, hr]
  exact h v' w' k1 k2

theorem wpAnyF_two {F : Nat → World → Prop} {i j : Nat} {fuel : Nat} {listed : Array Bool} {a : Act} {w : World} (hr : Region.ready .any ops listed = [i, j])
    (h1 : wpOp P ops Q i (fun a' w' => KeepF ops F i w w' ∧ wpAnyF P ops Q F fuel (listed.setIfInBounds i true) a' w') a w)
    (h2 : wpOp P ops Q j (fun a' w' => KeepF ops F j w w' ∧ wpAnyF P ops Q F fuel (listed.setIfInBounds j true) a' w') a w) : wpAnyF P ops Q F (fuel + 1) listed a w :=
  ⟨fun h0 => (by rw [hr] at h0; cases h0), fun k hk => (by
    rw [hr] at hk
    simp only [List.mem_cons, List.not_mem_nil, or_false] at hk
    rcases hk with rfl | rfl
    · exact h1
    · exact h2)⟩
end
end Go.Proofs.Ytlpmfkpefoegeab
