/-
  The solver: in, bind.
  What Undo, Cut and Term answer, in plain data.
-/
import Derived.Test.YtlpmfkpefoegeabQSolveL
import Derived.Test.YtlpmfkpefoegeabHTerm
namespace Go.Proofs.Ytlpmfkpefoegeab
set_option linter.unusedVariables false
set_option linter.unusedSimpArgs false
open Go.RowKit

/-- the work that is left -/
def WkAt (xb : Nat) (k : Int) (w : World) : Prop := w.heap[xb]? = some (.cells #[.int .i64 k] 3 (0, 0))
theorem WkAt.cell {xb : Nat} {k : Int} {w : World} (h : WkAt xb k w) : w.cell? ⟨xb, 0, none⟩ = some (.int .i64 k) ∧ (∀ o, w.frozen? ⟨xb, o, none⟩ = false) ∧ xb < w.heap.size :=
  ⟨(blk_cell h 0).trans rfl, fun o => by simp [World.frozen?, show w.heap[xb]? = _ from h], blk_lt h⟩

/-- what 'in' comes to -/
def SInPost (xb : Nat) (w : World) (p : Bool × Int) (e : Ending) (w' : World) : Prop := e = .returned (.bool p.1) ∧ Ch (fun b => b = xb) w w' ∧ WkAt xb p.2 w'

def SInOK (base : Nat) (P : List Cl) (q g mb xb : Nat) (pv tv cv ov : Value) (s : Sv) (N v : Int) (k : Nat) : Prop := ∀ (t : Tm) (w : World) (vs : List Value), SvI base P q g mb xb pv tv cv ov s w → WkAt xb k w → t.In N → Tm.rep (SA g mb xb tv cv ov) w t vs →
  Calls Try.prog 86 #[.pointer (some ⟨g, 0, none⟩), .int .i64 v, .agg vs.toArray, .pointer (some ⟨xb, 0, none⟩)] w (SInPost xb w (inS s.env v k [t]))

section
variable {base : Nat} {P : List Cl} {q g mb xb : Nat} {pv tv cv ov : Value} {s : Sv} {N : Int}
theorem ch_wk (xb o : Nat) (w : World) (u : Value) : Ch (fun b => b = xb) w (w.setCell ⟨xb, o, none⟩ u) := ch_box xb o w u
theorem WkAt.set {k k' : Int} {w : World} (h : WkAt xb k w) : WkAt xb k' (w.setCell ⟨xb, 0, none⟩ (.int .i64 k')) := (blk_set h 0 _).trans rfl

set_option maxHeartbeats 1000000 in
theorem sin_zero (v : Int) (hx : xb ≠ g) : SInOK base P q g mb xb pv tv cv ov s N v 0 := by
  intro t w vs h hw ht hv
  obtain ⟨a, cap, rfl, -⟩ := Tm.rep4 hv
  obtain ⟨x0, xf, xl⟩ := hw.cell
  have HW := hid hw
  have hcs := cell_set
  rw [show ((0 : Nat) : Int) = 0 from rfl] at x0
  clear hv ht h hw
  go_enter Try.func86, Try.ntmps86
  go_wp2_with fail
  go_ret
  refine ⟨rfl, ?_, ?_⟩
  · exact ((ch_wk _ _ _ _).alloc _)
  · exact blk_alloc (HW.out.set (k' := -1)) _

set_option maxRecDepth 100000 in
set_option maxHeartbeats 4000000 in
theorem sin_succ (v : Int) (hv : I64 v) (hx : xb ≠ g) (hE : EnvOk N s.env) (k : Nat) (hk4 : k ≤ 400) (ih : ∀ m, m ≤ k → SInOK base P q g mb xb pv tv cv ov s N v m) : SInOK base P q g mb xb pv tv cv ov s N v (k + 1) := by
  intro t w vs h hw ht hvv
  have HU := hid h
  have HE := hid hE
  have HT := hid ht
  have IH := hid ih
  obtain ⟨a, cap, rfl, -⟩ := Tm.rep4 hvv
  have HV := hid hvv
  obtain ⟨x0, xf, xl⟩ := hw.cell
  have HW := hid hw
  have hcs := cell_set
  obtain ⟨hl1, hl2, hl3⟩ := h.lt
  have hk0 : (0 : Int) ≤ (k : Int) := Int.natCast_nonneg _
  have hk400 : (k : Int) ≤ 400 := by omega
  rw [show ((k + 1 : Nat) : Int) = (k : Int) + 1 by omega] at x0
  have HX := hid hx
  have HVV := hid hv
  clear h hE ht ih hvv hw hv
  go_enter Try.func86, Try.ntmps86
  go_wp2_with fail
  have HC1 := hid (show Ch (fun b => b = xb) w ((w.setCell ⟨xb, 0, none⟩ (.int .i64 (k : Int))).alloc (.cells #[.int .i64 t.kind, .int .i64 t.n, .string t.s, .slice a t.args.length cap] 24)) from (ch_wk _ _ _ _).alloc _)
  have HU1 := hid (HU.out.ch HX.out HC1.out)
  have HV1 := hid (Tm.rep_lasts.1 _ _ _ _ _ (Tm.rep_lasts.2.1 _ (fun b => SA g mb xb tv cv ov b ∧ b < w.heap.size) _ _ _ HV.out fun b hb h => ⟨h, hb⟩) (HC1.out.keeps (A := fun b => SA g mb xb tv cv ov b ∧ b < w.heap.size) fun b _ hb e => hb.1.2 e))
  have HN1 := hid (HU.out.envAt.keeps (HC1.out.keeps (A := fun b => b ≠ xb) fun b _ hb e => hb e) (fun b hb => hb.1.2) (fun e => by
    rcases HU.out.nx with h | h
    · exact HX.out h
    · exact h (e ▸ .inr (.inl rfl))))
  refine (slook_ok t _ _ _ HU1.out HE.out HT.out HN1.out HV1.out).mono ?_
  rintro e w2 ⟨r, rfl, hb2, us, rfl, hr⟩
  have HLI := hid (slook_in HE.out HT.out)
  have HIN := hid (inS_succ s.env v k t [])
  generalize slook s.env t = x at *
  obtain ⟨xa, xc, rfl, -, -, -, hxc1, hxc2, hxc3, hsl⟩ := Tm.rep4 hr
  have HR := hid hr
  have HC2 := hid (HC1.out.then_below hb2)
  have HU2 := hid (HU1.out.below hb2)
  have HW2 := hid (show WkAt xb k w2 from blk_below (blk_alloc (HW.out.set (k' := (k : Int))) _) hb2)
  have HB2 := hid (blk_below (show ((w.setCell ⟨xb, 0, none⟩ (.int .i64 (k : Int))).alloc (.cells #[.int .i64 t.kind, .int .i64 t.n, .string t.s, .slice a t.args.length cap] 24)).heap[w.heap.size]? = _ by have := blk_new (w.setCell ⟨xb, 0, none⟩ (.int .i64 (k : Int))) (.cells #[.int .i64 t.kind, .int .i64 t.n, .string t.s, .slice a t.args.length cap] 24); simpa using this) hb2)
  obtain ⟨y0, y1, y2, y3, yf⟩ := blk4 HB2.out
  obtain ⟨z0, zf, zl⟩ := HW2.out.cell
  have hz2 := hb2.size
  simp only [World.size_alloc, World.size_setCell] at hz2
  have HSL := hid hsl
  have hne : xb ≠ w.heap.size := by omega
  have hne' : w.heap.size ≠ xb := by omega
  have hzz : w.heap.size < w2.heap.size := by omega
  clear x0 xf hb2 hr hsl
  have hK4 : Keeps (fun b => b ≠ w.heap.size) w2 (((((w2.setCell ⟨w.heap.size, 0, none⟩ (.int .i64 x.kind)).setCell ⟨w.heap.size, 1, none⟩ (.int .i64 x.n)).setCell ⟨w.heap.size, 2, none⟩ (.string x.s)).setCell ⟨w.heap.size, 3, none⟩ (.slice xa x.args.length xc))) := keeps_set4 _ _ (fun h => h rfl) _ _ _ _
  have HC3 := hid (show Ch (fun b => b = xb) w (((((w2.setCell ⟨w.heap.size, 0, none⟩ (.int .i64 x.kind)).setCell ⟨w.heap.size, 1, none⟩ (.int .i64 x.n)).setCell ⟨w.heap.size, 2, none⟩ (.string x.s)).setCell ⟨w.heap.size, 3, none⟩ (.slice xa x.args.length xc))) from
    (((HC2.out.setCell (p := ⟨w.heap.size, 0, none⟩) (.inr (Nat.le_refl _)) _).setCell (p := ⟨w.heap.size, 1, none⟩) (.inr (Nat.le_refl _)) _).setCell (p := ⟨w.heap.size, 2, none⟩) (.inr (Nat.le_refl _)) _).setCell (p := ⟨w.heap.size, 3, none⟩) (.inr (Nat.le_refl _)) _)
  have HW3 := hid (show WkAt xb k (((((w2.setCell ⟨w.heap.size, 0, none⟩ (.int .i64 x.kind)).setCell ⟨w.heap.size, 1, none⟩ (.int .i64 x.n)).setCell ⟨w.heap.size, 2, none⟩ (.string x.s)).setCell ⟨w.heap.size, 3, none⟩ (.slice xa x.args.length xc))) from blk_keeps HW2.out hK4 hne)
  have HK4 := hid hK4
  have HB3 := hid (set4 (v0 := .int .i64 x.kind) (v1 := .int .i64 x.n) (v2 := .string x.s) (v3 := .slice xa x.args.length xc) HB2.out)
  clear hK4
  by_cases hk : x.kind = 0
  · have HK := hid hk
    have hnx := (HLI.out.n hk)
    rw [hk]
    by_cases hxv : x.n = v
    · have hr := hid (show inS s.env v (k + 1) [t] = (true, (k : Int)) by rw [HIN.out, if_pos hk, if_pos hxv])
      have hq : (x.n == v) = true := by simpa using hxv
      rw [hk] at HC3 HW3
      clear hxv hk
      go_wp2_with fail
      go_ret
      rw [hr.out]
      exact ⟨rfl, HC3.out, HW3.out⟩
    · have hr := hid (show inS s.env v (k + 1) [t] = (false, (k : Int)) by rw [HIN.out, if_pos hk, if_neg hxv, inS_nil])
      have hq : (x.n == v) = false := by simpa using hxv
      rw [hk] at HC3 HW3
      clear hxv hk
      go_wp2_with fail
      go_ret
      rw [hr.out]
      exact ⟨rfl, HC3.out, HW3.out⟩
  · have hk' : (x.kind == 0) = false := by simpa using hk
    have hr := hid (show inS s.env v (k + 1) [t] = inS s.env v k x.args by rw [HIN.out, if_neg hk, List.append_nil])
    clear hk
    unfold maxLen at hxc2
    go_wp2_with fail
    have HU3 := hid (HU.out.ch HX.out HC3.out)
    obtain ⟨_, _, eb, eo, e9, -, -, -, hea, hee⟩ := HSL.out.at
    simp only [Value.slice.injEq, true_and] at e9
    obtain ⟨rfl, rfl⟩ := e9
    have HEE := hid (hee.keeps Tm.rep_lasts (fun hne => (hea (List.length_pos_iff.2 hne)).2) (HK4.out.mono fun b _ hb => by have := hb.2; omega))
    have HEA := hid hea
    clear hea hee
    generalize (((((w2.setCell ⟨w.heap.size, 0, none⟩ (.int .i64 x.kind)).setCell ⟨w.heap.size, 1, none⟩ (.int .i64 x.n)).setCell ⟨w.heap.size, 2, none⟩ (.string x.s)).setCell ⟨w.heap.size, 3, none⟩ (.slice xa x.args.length xc))) = w3 at *
    go_loopw [33] (fun i wr => ∃ j m : Nat, j ≤ x.args.length ∧ i = .int .i64 (j : Int) ∧ m ≤ k ∧ inS s.env v k (x.args.take j) = (false, (m : Int)) ∧ WkAt xb m wr ∧ Ch (fun b => b = xb) w3 wr) (fun i _ => x.args.length - (intOf i).toNat)
    case atStart => exact ⟨0, k, Nat.zero_le _, rfl, Nat.le_refl _, by rw [List.take_zero, inS_nil], HW3.out, Ch.refl _ _⟩
    case round =>
      obtain ⟨j, m, hj, rfl, hm, htk, hw, hch⟩ := hrel
      have HTK := hid htk
      have HW4 := hid hw
      have HC4 := hid hch
      obtain ⟨q0, qf, ql⟩ := hw.cell
      clear htk hw hch
      by_cases hlt : j < x.args.length
      · obtain ⟨rfl, hAb⟩ := HEA.out (by omega)
        obtain ⟨sa, sc, c0, c1, c2, c3, hr3⟩ := tm_cells HEE.out hAb (HC4.out.keeps fun b _ hb e => hb.1.2 e) hlt
        have HA3 := hid (Tm.rep_lasts.2.1 _ (SA g mb xb tv cv ov) _ _ _ hr3 fun b _ h => h.1)
        have hsplit : x.args = x.args.take j ++ ([x.args[j]] ++ x.args.drop (j + 1)) := by
          conv => lhs; rw [← List.take_append_drop j x.args, List.drop_eq_getElem_cons hlt]
          rfl
        have HSP := hid (show inS s.env v k x.args = inS s.env v m ([x.args[j]] ++ x.args.drop (j + 1)) by
          conv => lhs; rw [hsplit]
          rw [inS_app, HTK.out, if_neg (by simp)]
          simp)
        have HNX := hid (show inS s.env v k (x.args.take (j + 1)) = inS s.env v m [x.args[j]] by
          rw [List.take_succ_eq_append_getElem hlt, inS_app, HTK.out, if_neg (by simp)]
          simp)
        have HGI := hid (HLI.out.arg (List.getElem_mem hlt))
        have hz4 := HC4.out.size
        have HCC := hid (show Ch (fun b => b = xb) w3 (wr.alloc (.cells #[.int .i64 x.args[j].kind, .int .i64 x.args[j].n, .string x.args[j].s, .slice sa x.args[j].args.length sc] 24)) from HC4.out.alloc _)
        clear hsplit hr3
        go_wp2_with fail
        refine (IH.out m hm x.args[j] _ _ (HU3.out.ch HX.out HCC.out) (blk_alloc HW4.out _) HGI.out (Tm.rep_lasts.1 _ _ _ _ _ HA3.out (Keeps.alloc _ _ _))).mono ?_
        rintro e w5 ⟨rfl, hch5, hw5⟩
        have HC5 := hid (HCC.out.trans hch5 (fun _ h => .inl h))
        have HW5 := hid hw5
        obtain ⟨r0, rf, rl⟩ := hw5.cell
        have hple := inS_le s.env v m [x.args[j]]
        have happ := inS_app s.env v m [x.args[j]] (x.args.drop (j + 1))
        have htru := inS_true s.env v m [x.args[j]]
        generalize inS s.env v m [x.args[j]] = p at *
        obtain ⟨pf, pw⟩ := p
        simp only at hple happ htru r0
        have HAPP := hid happ
        have HTRU := hid htru
        clear hw5 hch5 happ htru q0 qf c0 c1 c2 c3
        obtain ⟨hp1, hp2⟩ := hple
        cases pf with
        | true =>
          have hpw : 0 ≤ pw := HTRU.out rfl
          have hres := hid (show inS s.env v (k + 1) [t] = (true, pw) by rw [hr.out, HSP.out, HAPP.out, if_pos (.inl rfl)])
          go_wp2_with fail
          go_ret
          rw [hres.out]
          exact ⟨rfl, HC3.out.trans HC5.out (fun _ h => .inl h), HW5.out⟩
        | false =>
          by_cases hpw : pw < 0
          · have hres := hid (show inS s.env v (k + 1) [t] = (false, pw) by rw [hr.out, HSP.out, HAPP.out, if_pos (.inr hpw)])
            have hpd := hid (decide_eq_false (show ¬ (0 : Int) ≤ pw by omega))
            go_wp2_with fail
            go_ret
            rw [hres.out]
            exact ⟨congrArg Ending.returned (congrArg Value.bool hpd.out), HC3.out.trans HC5.out (fun _ h => .inl h), HW5.out⟩
          · obtain ⟨pm, rfl⟩ := Int.eq_ofNat_of_zero_le (show 0 ≤ pw by omega)
            go_wp2_with fail
            go_roundw
            case rel => exact ⟨j + 1, pm, by omega, by go_num, by omega, HNX.out, HW5.out, HC5.out⟩
            case measure => simp [intOf]; omega
      · have hje : j = x.args.length := by omega
        have hres := hid (show inS s.env v (k + 1) [t] = (false, (m : Int)) by
          have := HTK.out
          rw [List.take_of_length_le (by omega)] at this
          rw [hr.out, this])
        clear hje
        go_wp2_with fail
        go_ret
        rw [hres.out]
        exact ⟨rfl, HC3.out.trans HC4.out (fun _ h => .inl h), HW4.out⟩

theorem sin_ok (v : Int) (hv : I64 v) (hx : xb ≠ g) (hE : EnvOk N s.env) : ∀ k, k ≤ 400 → SInOK base P q g mb xb pv tv cv ov s N v k := by
  intro k
  induction k using Nat.strongRecOn with
  | _ k ih =>
    intro hk
    cases k with
    | zero => exact sin_zero v hx
    | succ k => exact sin_succ v hv hx hE k (by omega) fun m hm => ih m (by omega) (by omega)
end
end Go.Proofs.Ytlpmfkpefoegeab

namespace Go.Proofs.Ytlpmfkpefoegeab
set_option linter.unusedVariables false
set_option linter.unusedSimpArgs false

open Classical in
/-- what Undo answers -/
noncomputable def undoF (h : Hp) (n : Int) : Hp × Int :=
  if ¬ h.Good then (h, 1) else if ¬ (0 ≤ n ∧ n ≤ h.trail.length) then (h, 2) else (⟨undoC h.cells (h.trail.drop n.toNat), h.trail.take n.toNat⟩, 0)

open Classical in
/-- what Cut answers -/
noncomputable def cutF (h : Hp) (n : Int) : Hp × Int :=
  if ¬ h.Good then (h, 1) else if ¬ (0 ≤ n ∧ n ≤ h.cells.length) then (h, 2)
  else if ¬ Hp.Good ⟨h.cells.take n.toNat, h.trail⟩ then (h, 1) else (⟨h.cells.take n.toNat, h.trail⟩, 0)

/-- no term -/
def tm0 : Tm := .mk 0 0 ByteArray.empty []

/-- the term at a place, so many nodes being left -/
def rd1 (l : List Ce) (w : Nat) (a : Int) : Option (Tm × Nat) :=
  match rdL l w [a] with
  | some (t :: _, w') => some (t, w')
  | _ => none

/-- a number brought into bounds -/
def leftOf (most : Int) : Int := max 0 (min most 65536)

/-- a term, or none, as Term answers -/
def termOf (left : Int) : Option (Tm × Nat) → Tm × Int × Int
  | none => (tm0, 0, 3)
  | some (t, w) => (t, left - w, 0)

open Classical in
/-- what Term answers -/
noncomputable def termF (h : Hp) (a most : Int) : Tm × Int × Int :=
  if ¬ h.Good then (tm0, 0, 1) else if ¬ Inb h.cells a then (tm0, 0, 4) else termOf (leftOf most) (rd1 h.cells (leftOf most).toNat a)

theorem rdL_one (l : List Ce) (w : Nat) (a : Int) : rdL l (w + 1) [a] = 
    if look l a < 0 then none
    else if (cellAt l (look l a)).kind = 3 then
      (match rdL l w (argsAt (look l a) (cellAt l (look l a)).n) with
       | none => none
       | some (ts, w1) => some ([.mk 3 0 (cellAt l (look l a)).s ts], w1))
    else some ([if (cellAt l (look l a)).kind = 0 then .mk 0 (look l a) ByteArray.empty [] else .mk (cellAt l (look l a)).kind (cellAt l (look l a)).n (cellAt l (look l a)).s []], w) := by
  rw [rdL]
  by_cases h1 : look l a < 0
  · rw [if_pos h1, if_pos h1]
  · rw [if_neg h1, if_neg h1]
    by_cases h2 : (cellAt l (look l a)).kind = 3
    · rw [if_pos h2, if_pos h2]
      cases hq : rdL l w (argsAt (look l a) (cellAt l (look l a)).n) with
      | none => rfl
      | some p =>
        obtain ⟨ts, w1⟩ := p
        have := (rdL_le l w _ _ _ hq).1
        simp only [Nat.min_eq_right this, rdL_nil]
    · rw [if_neg h2, if_neg h2]
      simp only [rdL_nil]

theorem rd1_zero (l : List Ce) (a : Int) : rd1 l 0 a = none := by unfold rd1; rw [rdL_zero]

theorem rd1_succ (l : List Ce) (w : Nat) (a : Int) : rd1 l (w + 1) a = 
    if look l a < 0 then none
    else if (cellAt l (look l a)).kind = 3 then
      (match rdL l w (argsAt (look l a) (cellAt l (look l a)).n) with
       | none => none
       | some (ts, w1) => some (.mk 3 0 (cellAt l (look l a)).s ts, w1))
    else some (if (cellAt l (look l a)).kind = 0 then .mk 0 (look l a) ByteArray.empty [] else .mk (cellAt l (look l a)).kind (cellAt l (look l a)).n (cellAt l (look l a)).s [], w) := by
  unfold rd1
  rw [rdL_one]
  by_cases h1 : look l a < 0
  · rw [if_pos h1, if_pos h1]
  · rw [if_neg h1, if_neg h1]
    by_cases h2 : (cellAt l (look l a)).kind = 3
    · rw [if_pos h2, if_pos h2]
      cases rdL l w (argsAt (look l a) (cellAt l (look l a)).n) with
      | none => rfl
      | some p => rfl
    · rw [if_neg h2, if_neg h2]

theorem rd1_le {l : List Ce} {w : Nat} {a : Int} {t : Tm} {w' : Nat} (h : rd1 l w a = some (t, w')) : w' ≤ w := by
  unfold rd1 at h
  split at h
  · rename_i t' ts w1 hq
    simp only [Option.some.injEq, Prod.mk.injEq] at h
    have := (rdL_le l w _ _ _ hq).1
    omega
  · cases h

/-- one place ahead of others -/
theorem rdL_cons (l : List Ce) (w : Nat) (a : Int) (r : List Int) : rdL l w (a :: r) =
    (match rd1 l w a with
     | none => none
     | some (t, w1) => match rdL l w1 r with
       | none => none
       | some (rs, w2) => some (t :: rs, w2)) := by
  cases w with
  | zero => rw [rdL_zero, rd1_zero]
  | succ w =>
    rw [rdL, rd1_succ]
    by_cases hn : look l a < 0
    · rw [if_pos hn, if_pos hn]
    · rw [if_neg hn, if_neg hn]
      by_cases h3 : (cellAt l (look l a)).kind = 3
      · rw [if_pos h3, if_pos h3]
        cases hq : rdL l w (argsAt (look l a) (cellAt l (look l a)).n) with
        | none => rfl
        | some p =>
          obtain ⟨ts, w1⟩ := p
          have := (rdL_le l w _ _ _ hq).1
          simp only [Nat.min_eq_right this]
          cases rdL l w1 r <;> rfl
      · rw [if_neg h3, if_neg h3]
        simp only
        cases rdL l w r <;> rfl

/-- more places behind others -/
theorem rdL_snoc (l : List Ce) : ∀ (s : List Int) (w : Nat) (a : Int), rdL l w (s ++ [a]) =
    (match rdL l w s with
     | none => none
     | some (ts, w1) => match rd1 l w1 a with
       | none => none
       | some (t, w2) => some (ts ++ [t], w2))
  | [], w, a => by
    rw [List.nil_append, rdL_nil, rdL_cons]
    cases h : rd1 l w a with
    | none => simp only [h]
    | some p => simp only [rdL_nil, List.nil_append, h]
  | x :: s, w, a => by
    rw [List.cons_append, rdL_cons, rdL_cons]
    cases hx : rd1 l w x with
    | none => rfl
    | some p =>
      obtain ⟨t, w1⟩ := p
      simp only
      rw [rdL_snoc l s w1 a]
      cases rdL l w1 s with
      | none => rfl
      | some q =>
        obtain ⟨ts, w2⟩ := q
        simp only
        cases rd1 l w2 a with
        | none => rfl
        | some r => rfl

/-- where the first of some places fail, all do -/
theorem rdL_none (l : List Ce) (w : Nat) (s r : List Int) (h : rdL l w s = none) : rdL l w (s ++ r) = none := by
  induction s generalizing w with
  | nil => rw [rdL_nil] at h; cases h
  | cons x s ih =>
    rw [rdL_cons] at h
    rw [List.cons_append, rdL_cons]
    cases hx : rd1 l w x with
    | none => rfl
    | some p =>
      obtain ⟨t, w1⟩ := p
      rw [hx] at h
      simp only at h ⊢
      cases hq : rdL l w1 s with
      | none => rw [ih w1 hq]
      | some q => rw [hq] at h; cases h

theorem rd1_bis {l : List Ce} {B : Int → Int → Prop} (hB : Bis l B) {a b : Int} (hab : B a b) (w : Nat) : rd1 l w a = rd1 l w b := by
  unfold rd1
  have := rdL_bis hB w [(a, b)] (fun p hp => by simp at hp; subst hp; exact .inl hab)
  simp only [List.map_cons, List.map_nil] at this
  rw [this]
end Go.Proofs.Ytlpmfkpefoegeab
