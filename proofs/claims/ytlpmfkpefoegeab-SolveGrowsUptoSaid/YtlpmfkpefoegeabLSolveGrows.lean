/-
  SolveGrows: a clause of a name that nobody asks for changes nothing.
-/
import Derived.Test.YtlpmfkpefoegeabQTwo
import Derived.Test.YtlpmfkpefoegeabPSolveG
namespace Go.Proofs.Ytlpmfkpefoegeab
set_option linter.unusedVariables false
set_option linter.unusedSimpArgs false
open Go.RowKit

theorem clsNodes_sumG : ∀ l : List Cl, clsNodes l = (l.map Cl.nodes).sum
  | [] => rfl
  | c :: r => by simp [clsNodes, clsNodes_sumG r]
theorem tyClauseG : ElemTy Try.prog 50 26 6 88 :=
  .mk' (z := .agg #[.int .i64 0, .int .i64 0, .string ByteArray.empty, .slice none 0 0, .slice none 0 0, .int .i64 0]) Try.underlying50 (by kernel_rfl) rfl (by omega) (by omega)
theorem own_oneG {α : Type} {R : (Nat → Prop) → World → α → List Value → Prop} (hR : Lasts R) {A : Nat → Prop} {w : World} {x : α} {us : List Value} {size : Nat} {E : TypeId} (hx : R (fun b => A b ∧ b ≠ w.heap.size) w x us) (hl : us.length = size) (hs : us.flatMap (fun u => [u]) = us) :
    OwnR (w.alloc (.cells us.toArray E)) w.heap.size E size R A [x] (.slice (some ⟨w.heap.size, 0, none⟩) 1 1) := by
  refine ⟨[us], rfl, ⟨by simp [hl], .inr ⟨w.heap.size, 1, us.toArray, rfl, by omega, Nat.le_refl _, heap_alloc_new _ _, by simp, by simp [maxLen], by simp [hl], by simp [← hl]⟩⟩, fun i y vs hy hv => ?_⟩
  cases i with
  | zero =>
    simp only [List.getElem?_cons_zero, Option.some.injEq] at hy hv
    subst hy hv
    exact ⟨hl, hR.1 _ _ _ _ _ (hR.2.1 _ _ _ _ _ hx (fun b hb hb2 => ⟨hb2.1, by simp [ownB]; exact fun e => hb2.2 e.symm⟩)) (Keeps.alloc _ _ _)⟩
  | succ i => simp at hy

def zTm : Tm := .mk 0 0 ByteArray.empty []
theorem zTm_rep (A : Nat → Prop) (w : World) : Tm.rep A w zTm [.int .i64 0, .int .i64 0, .string ByteArray.empty, .slice none 0 0] := leaf_rep A w 0 0 ByteArray.empty (by unfold I64; omega) (by unfold I64; omega) (by decide)

set_option maxRecDepth 100000 in
set_option maxHeartbeats 8000000 in
theorem solveGrows_walk (P : List Cl) (Q : List Tm) (vars fuel : Int) (c : Cl) (hnp : (P.map Cl.nodes).sum ≤ 1048576) (hnq : Tm.nodesL Q ≤ 1048576) (hnc : c.nodes ≤ 1048576) (hv : I64 vars) (hf : I64 fuel) (w : World) (pv qv : Value) (uc : List Value) (hpv : ClsR (fun _ => True) w P pv) (hqv : TmsR (fun _ => True) w Q qv) (hc : Cl.rep (fun _ => True) w c uc) :
    Calls Try.prog 7 #[pv, qv, .int .i64 vars, .int .i64 fuel, .agg uc.toArray] w (Pure w (fun r _ => r = .bool true)) := by
  have hPk : clsNodes P ≤ 1099511627776 := by rw [clsNodes_sumG]; omega
  have hPb : clsNodes (P ++ [c]) ≤ 1099511627776 := by rw [clsNodes_sumG]; simp; omega
  have hPf : clsNodes (c :: P) ≤ 1099511627776 := by rw [clsNodes_sumG]; simp; omega
  have HSV := hid (fun w => solvesK_ok w)
  have HP := hid (fun (W : World) (hb : Below w.heap.size w W) => (SlR.mono (A' := fun b => b < w.heap.size) Cl.rep_lasts (by omega) hpv (fun b hb _ => hb)).keeps Cl.rep_lasts (Keeps.of_below hb))
  have HQ := hid (fun (W : World) (hb : Below w.heap.size w W) => (SlR.mono (A' := fun b => b < w.heap.size) Tm.rep_lasts (by omega) hqv (fun b hb _ => hb)).keeps Tm.rep_lasts (Keeps.of_below hb))
  have HC := hid (fun (W : World) (hb : Below w.heap.size w W) => Cl.rep_lasts.1 _ _ W _ _ (Cl.rep_lasts.2.1 _ (fun b => b < w.heap.size) _ _ _ hc (fun b hb _ => hb)) (Keeps.of_below hb))
  have HA := hid (fun (R : List Cl) (hR : clsNodes R ≤ 1099511627776) (W : World) (hb : Below w.heap.size w W) (rv : Value) (hrv : ClsR (fun b => b < W.heap.size) W R rv) => sall_ok (P := R) (Q := Q) (vars := vars) (fuel := fuel) hR (by omega) hv hf W rv qv hrv (SlR.mono Tm.rep_lasts (by omega) (HQ.out W hb) (fun b hb9 hb8 => hb9)))
  have HGC := hid (fun (W : World) (hb : Below w.heap.size w W) => goodClause_ok c (by omega) _ W uc (HC.out W hb))
  have hgr1 := fun h0 hl hN hQ he => solveF_grown (grown_back P c) (Q := Q) (vars := vars) (fuel := fuel) h0 hl hN hQ he
  have hgr2 := fun h0 hl hN hQ he => solveF_grown (grown_front P c) (Q := Q) (vars := vars) (fuel := fuel) h0 hl hN hQ he
  have hgp : (solveF P Q vars fuel).2 = 0 → P.length ≤ 24 := fun h => by
    rcases solveF_cases P Q vars fuel with ⟨_, e⟩ | ⟨_, _, e⟩ | ⟨⟨hP, hQ⟩, _, _, e⟩
    · rw [e] at h; simp at h
    · rw [e] at h; simp at h
    · exact hP.1
  have HR1 := hid hgr1
  have HR2 := hid hgr2
  have HPB := hid hPb
  have HPF := hid hPf
  obtain ⟨ra, hra⟩ : ∃ ra, ra = solveF P Q vars fuel := ⟨_, rfl⟩
  rw [← hra] at hgp
  have HRA := hid hra
  obtain ⟨la, ea⟩ := ra
  have HGPL := hid (show ea = 0 → P.length ≤ 24 from hgp)
  have HA1 := hid (HA.out P hPk)
  rw [← hra] at HA1
  obtain ⟨pa, pc, pb, po, rfl, hpc1, hpc2, hpc3, hpa, hpe⟩ := SlR.at (HP.out w (Below.refl _ _))
  obtain ⟨qa, qc, -, -, rfl, hqc1, hqc2, hqc3, -⟩ := SlR.at hqv
  obtain ⟨ha, hac, ba, bac, rfl, -⟩ := hc
  clear hpv hqv hra hgp hgr1 hgr2 hpa hpe hPk hPb hPf
  have hcs := cell_set
  unfold maxLen at hpc2
  go_enter Try.func7, Try.ntmps7
  go_wp2_with fail
  obtain ⟨W1, hW1⟩ : ∃ W1, W1 = w.alloc (.cells #[.int .i64 c.head.kind, .int .i64 c.head.n, .string c.head.s, .slice ha c.head.args.length hac, .slice ba c.body.length bac, .int .i64 c.vars] 26) := ⟨_, rfl⟩
  have HB1 := hid (show Below w.heap.size w W1 by rw [hW1]; exact (Below.refl _ _).alloc (Nat.le_refl _) _)
  have HX1 := hid (show W1.heap[w.heap.size]? = some (.cells #[.int .i64 c.head.kind, .int .i64 c.head.n, .string c.head.s, .slice ha c.head.args.length hac, .slice ba c.body.length bac, .int .i64 c.vars] 26 (0, 0)) by rw [hW1]; exact blk_new _ _)
  obtain ⟨cb, hcb⟩ : ∃ cb, cb = w.heap.size := ⟨_, rfl⟩
  rw [← hcb] at HX1
  rw [← hW1]
  try rw [← hcb]
  have hcb1 : cb < W1.heap.size := blk_lt HX1.out
  have hcbw : w.heap.size ≤ cb := by omega
  clear hW1 hcb
  have HX := hid (fun (W : World) (hb : Below W1.heap.size W1 W) => (show W.heap[cb]? = _ from blk_below HX1.out hb))
  have hz1 := HB1.out.size
  refine (HA1.out W1 HB1.out _ (SlR.mono Cl.rep_lasts (by omega) (HP.out W1 HB1.out) (fun b hb9 _ => hb9))).mono ?_
  rintro e w2 ⟨av, rfl, hb2, hav⟩
  have HB2 := hid hb2
  have HAV := hid (fun (W : World) (hb : Below w2.heap.size w2 W) => (show EvsR (fun _ => True) W la av from SlR.keeps evR_lasts hav (Keeps.of_below hb)))
  have hz2 := hb2.size
  obtain ⟨aa, ac, -, -, rfl, -⟩ := SlR.at hav
  clear hb2 hav HA1
  by_cases he : ea = 0
  · subst he
    have hp24 : P.length ≤ 24 := HGPL.out rfl
    have HP24 := hid hp24
    go_wp2_with fail
    refine (HSV.out w2).mono ?_
    rintro e w3 ⟨r, rfl, hb3, rfl⟩
    have HB3 := hid (HB2.out.trans (hb3.mono hz2))
    have HB23 := hid hb3
    have hz3 := HB3.out.size
    obtain ⟨x0, x1, x2, x3, x4, x5, xf⟩ := blk6 (HX.out w3 HB3.out)
    have hcb3 := blk_lt (HX.out w3 HB3.out)
    clear hb3
    go_wp2_with fail
    refine (HGC.out w3 (HB1.out.trans (HB3.out.mono hz1))).mono ?_
    rintro e w4 ⟨v, rfl, hb4, gb, rfl, hgb⟩
    have HB4 := hid (HB3.out.trans (hb4.mono hz3))
    have HB24 := hid (HB23.out.trans (hb4.mono HB23.out.size))
    have HGB := hid hgb
    have hz4 := HB4.out.size
    clear hb4 hgb x0 x1 x2 x3 x4 x5 xf hcb3
    cases gb with
    | false =>
      go_wp2_with fail
      refine (HSV.out w4).mono ?_
      rintro e w5 ⟨r, rfl, hb5, rfl⟩
      have HB5 := hid (HB1.out.trans ((HB4.out.trans (hb5.mono hz4)).mono hz1))
      clear hb5
      go_wp2_with fail
      go_ret
      exact ⟨_, rfl, HB5.out, rfl⟩
    | true =>
      have HCG := hid (HGB.out.1 (by simp))
      by_cases hp : 24 ≤ P.length
      · have hpd : decide ((24 : Int) ≤ (P.length : Int)) = true := by
          rw [decide_eq_true_iff]; omega
        clear hp
        go_wp2_with fail
        refine (HSV.out w4).mono ?_
        rintro e w5 ⟨r, rfl, hb5, rfl⟩
        have HB5 := hid (HB1.out.trans ((HB4.out.trans (hb5.mono hz4)).mono hz1))
        clear hb5
        go_wp2_with fail
        go_ret
        exact ⟨_, rfl, HB5.out, rfl⟩
      · have hpd : decide ((24 : Int) ≤ (P.length : Int)) = false := by
          rw [decide_eq_false_iff_not]; omega
        have HPL := hid (show P.length < 24 by omega)
        have hp0 : (0 : Int) ≤ (P.length : Int) := Int.natCast_nonneg _
        clear hp hp24
        have HBw4 := hid (HB1.out.trans (HB4.out.mono hz1))
        have HQ4 := hid (HQ.out w4 HBw4.out)
        have hw4 := HBw4.out.size
        have HOH := hid (own_oneG (E := 26) (size := 6) (R := Cl.rep) (A := fun _ => True) (w := w4) (x := (⟨zTm, Q, 0⟩ : Cl)) (us := [.int .i64 0, .int .i64 0, .string ByteArray.empty, .slice none 0 0, .slice qa Q.length qc, .int .i64 0]) Cl.rep_lasts
          ⟨none, 0, qa, qc, rfl, zTm_rep _ _, SlR.mono Tm.rep_lasts (by omega) HQ4.out (fun b hb hb9 => ⟨trivial, by omega⟩), show I64 0 by unfold I64; omega⟩ rfl rfl)
        have HPW := hid (SlR.keeps (w' := w4.alloc (.cells #[.int .i64 0, .int .i64 0, .string ByteArray.empty, .slice none 0 0, .slice qa Q.length qc, .int .i64 0] 26)) Cl.rep_lasts (HP.out w4 HBw4.out) (Keeps.alloc _ _ _))
        go_wp2_with (at_builtin; go_must (refine wpList_appS rfl (.tmp 48) (.tmp 49) 50 rfl w4.heap.size 26 6 88 tyClauseG Cl.rep_lasts (A := fun _ => True) (.slice (some ⟨w4.heap.size, 0, none⟩) 1 1) [(⟨zTm, Q, 0⟩ : Cl)] rfl HOH.out _ rfl P (SlR.mono Cl.rep_lasts (by omega) HPW.out (fun b _ hb2 => ⟨trivial, by simp [ownB]; omega⟩)) (by simp; omega) (by simp) ?_); go_must (intro lv w5 hown hgrew; have HOWN := hid hown; have HGREW := hid hgrew; obtain ⟨la5, lc5, hlv5, -, -⟩ := OwnR.val' hown; rw [show ([(⟨zTm, Q, 0⟩ : Cl)] ++ P).length = P.length + 1 by first | (simp; done) | (simp; omega)] at hlv5; subst hlv5; clear hown hgrew))
        have HB5 := hid (show Below w4.heap.size w4 w5 from HGREW.out.below ((Below.refl _ _).alloc (Nat.le_refl _) _) (by simp) (fun k hk => by simp [ownB] at hk; omega))
        have HB15 := hid (HB4.out.trans (HB5.out.mono hz4))
        have HB25 := hid (HB24.out.trans (HB5.out.mono HB24.out.size))
        have HLS := hid (show ClsR (fun _ => True) w5 ((⟨zTm, Q, 0⟩ : Cl) :: P) (.slice la5 (P.length + 1) lc5) from HOWN.out.sl Cl.rep_lasts (by have := HP24.out; simp; omega) (fun _ _ => trivial))
        obtain ⟨_, _, lb, lo, e9, hl1, hl2, -, hlla, hlle⟩ := SlR.at HLS.out
        simp only [Value.slice.injEq, List.length_cons, true_and] at e9
        obtain ⟨rfl, rfl⟩ := e9
        obtain ⟨rfl, -⟩ := hlla (by simp)
        have HLE := hid hlle
        have hz5 := HB15.out.size
        obtain ⟨L, hL⟩ : ∃ L, L = (⟨zTm, Q, 0⟩ : Cl) :: P := ⟨_, rfl⟩
        have hLl : L.length = P.length + 1 := by rw [hL]; simp
        rw [← hL] at HLE
        have HL := hid hL
        clear hlla hlle hL HGREW HOWN HOH HPW HLS
        go_loopw [52] (fun i wr => ∃ j : Nat, j ≤ P.length + 1 ∧ i = .int .i64 (j : Int) ∧ Below w5.heap.size w5 wr ∧ ∀ x ∈ L.take j, ∀ t ∈ x.body, ¬ likeF c.head t) (fun i _ => P.length + 1 - (intOf i).toNat)
        case atStart => exact ⟨0, Nat.zero_le _, rfl, Below.refl _ _, by simp⟩
        case round =>
          obtain ⟨wo, rfl⟩ : ∃ wo : World, wo = wr := ⟨_, rfl⟩
          obtain ⟨j, hj, rfl, hb, hno⟩ := hrel
          have HBo := hid hb
          have HNO := hid hno
          have hzo := hb.size
          have hj0 : (0 : Int) ≤ (j : Int) := Int.natCast_nonneg _
          clear hb hno
          by_cases hlt : j < P.length + 1
          · have hlt' : (j : Int) < ((P.length + 1 : Nat) : Int) := by omega
            have hjL : j < L.length := by omega
            obtain ⟨xa, xac, xb, xbc, p0, p1, p2, p3, p4, p5, hxr⟩ := cl_cells HLE.out trivial (Keeps.of_below HBo.out) hjL
            have hlbl := World.block_lt_of_cell? wo _ p0
            simp only at hlbl
            have HSTEP := hid (fun (h : ∀ t ∈ (L[j]).body, ¬ likeF c.head t) => (show ∀ x ∈ L.take (j + 1), ∀ t ∈ x.body, ¬ likeF c.head t by
              rw [List.take_succ_eq_append_getElem hjL]
              intro x hx
              rcases List.mem_append.1 hx with hx | hx
              · exact HNO.out x hx
              · simp only [List.mem_singleton] at hx; subst hx; exact h))
            obtain ⟨x, hx⟩ : ∃ x, x = L[j] := ⟨_, rfl⟩
            rw [← hx] at p0 p1 p2 p3 p4 p5 hxr HSTEP
            have hxb : TmsR (fun _ => True) wo x.body (.slice xb x.body.length xbc) := by
              obtain ⟨_, _, _, _, e, -, h1, -⟩ := hxr
              simp only [List.cons.injEq, Value.slice.injEq, and_true, true_and] at e
              obtain ⟨-, rfl, rfl⟩ := e
              exact h1
            obtain ⟨_, _, tb, to, e9, htc1, htc2, htc3, hta, hte⟩ := SlR.at hxb
            simp only [Value.slice.injEq, true_and] at e9
            obtain ⟨rfl, rfl⟩ := e9
            have HTA := hid hta
            have HTE := hid hte
            clear hxr hxb hta hte hx
            go_wp2_with fail
            obtain ⟨W6, hW6⟩ : ∃ W6, W6 = wo.alloc (.cells #[.int .i64 x.head.kind, .int .i64 x.head.n, .string x.head.s, .slice xa x.head.args.length xac, .slice xb x.body.length xbc, .int .i64 x.vars] 26) := ⟨_, rfl⟩
            have HB6 := hid (show Below wo.heap.size wo W6 by rw [hW6]; exact (Below.refl _ _).alloc (Nat.le_refl _) _)
            have HB56 := hid (HBo.out.trans (HB6.out.mono hzo))
            have hs6 : wo.heap.size < W6.heap.size := by rw [hW6]; simp
            rw [← hW6]
            clear hW6 p0 p1 p2 p3 p4 p5
            go_loopw [59] (fun i wi => ∃ k : Nat, k ≤ x.body.length ∧ i = .int .i64 (k : Int) ∧ Below W6.heap.size W6 wi ∧ ∀ t ∈ x.body.take k, ¬ likeF c.head t) (fun i _ => x.body.length - (intOf i).toNat)
            case atStart => exact ⟨0, Nat.zero_le _, rfl, Below.refl _ _, by simp⟩
            case round =>
              obtain ⟨k, hk, rfl, hb, hno⟩ := hrel
              have HBi := hid hb
              have HNI := hid hno
              have hzi := hb.size
              have hk0 : (0 : Int) ≤ (k : Int) := Int.natCast_nonneg _
              have HB1i := hid (HB15.out.trans ((HB56.out.trans (HBi.out.mono HB56.out.size)).mono hz5))
              obtain ⟨x0, x1, x2, x3, x4, x5, xf⟩ := blk6 (HX.out wr HB1i.out)
              have hcbi := blk_lt (HX.out wr HB1i.out)
              clear hb hno
              by_cases hlk : k < x.body.length
              · have hlk' : (k : Int) < (x.body.length : Int) := by omega
                obtain ⟨rfl, -⟩ := HTA.out (by omega)
                obtain ⟨ya, yc, d0, d1, d2, d3, hyr⟩ := tm_cells HTE.out trivial ((Keeps.of_below HB6.out).trans (Keeps.of_below HBi.out)) hlk
                have htbl := World.block_lt_of_cell? wr _ d0
                simp only at htbl
                have HSTI := hid (fun (h : ¬ likeF c.head (x.body[k])) => (show ∀ t ∈ x.body.take (k + 1), ¬ likeF c.head t by
                  rw [List.take_succ_eq_append_getElem hlk]
                  intro t ht
                  rcases List.mem_append.1 ht with ht | ht
                  · exact HNI.out t ht
                  · simp only [List.mem_singleton] at ht; subst ht; exact h))
                obtain ⟨y, hy⟩ : ∃ y, y = x.body[k] := ⟨_, rfl⟩
                rw [← hy] at d0 d1 d2 d3 HSTI
                clear hyr hy
                by_cases e1 : y.s = c.head.s
                · rw [e1] at d2
                  by_cases e2 : y.args.length = c.head.args.length
                  · have e2' : ((y.args.length : Int) == (c.head.args.length : Int)) = true := by rw [e2]; simp
                    have HBF := hid (HB1.out.trans ((HB1i.out.alloc (by omega) (.cells #[.int .i64 y.kind, .int .i64 y.n, .string c.head.s, .slice ya y.args.length yc] 24)).mono hz1))
                    clear e1 e2
                    go_wp2_with fail
                    go_ret
                    exact ⟨_, rfl, HBF.out, rfl⟩
                  · have e2' : ((y.args.length : Int) == (c.head.args.length : Int)) = false := by simp; omega
                    have HNL := hid (show ¬ likeF c.head y from fun h => e2 h.2.symm)
                    clear e1 e2
                    go_wp2_with fail
                    go_roundw
                    case rel => exact ⟨k + 1, by omega, by go_num, HBi.out.alloc hzi _, HSTI.out HNL.out⟩
                    case measure => simp [intOf]; omega
                · have e1' := toList_neS e1
                  have HNL := hid (show ¬ likeF c.head y from fun h => e1 h.1.symm)
                  clear e1
                  go_wp2_with fail
                  exact ⟨⟨_, _, .int .i64 ((k : Int) + 1), ⟨k + 1, by omega, by go_num, HBi.out.alloc hzi _, HSTI.out HNL.out⟩, rfl, rfl, rfl⟩, by simp [intOf]; omega⟩
              · have hke : k = x.body.length := by omega
                subst hke
                have HNI2 := hid (show ∀ t ∈ x.body, ¬ likeF c.head t by have := HNI.out; rwa [List.take_length] at this)
                go_wp2_with fail
                go_roundw
                case rel => exact ⟨j + 1, by omega, by go_num, HB56.out.trans (HBi.out.mono HB56.out.size), HSTEP.out HNI2.out⟩
                case measure => simp [intOf]; omega
          · have hje : j = P.length + 1 := by omega
            subst hje
            have hall : ∀ x ∈ L, ∀ t ∈ x.body, ¬ likeF c.head t := by
              have := HNO.out
              rwa [List.take_of_length_le (by omega)] at this
            rw [HL.out] at hall
            have hNP : NoAskP c P := fun x hx => hall x (by simp [hx])
            have hNQ : ∀ t ∈ Q, ¬ likeF c.head t := fun t ht => hall ⟨zTm, Q, 0⟩ (by simp) t ht
            have hE1 := HR1.out HCG.out HPL.out hNP hNQ (by rw [← HRA.out])
            have hE2 := HR2.out HCG.out HPL.out hNP hNQ (by rw [← HRA.out])
            rw [← HRA.out] at hE1 hE2
            have HAB := hid (HA.out (P ++ [c]) HPB.out)
            have HAF := hid (HA.out (c :: P) HPF.out)
            rw [hE1] at HAB
            rw [hE2] at HAF
            have HB16 := hid (HB15.out.trans (HBo.out.mono hz5))
            have HBw6 := hid (HB1.out.trans (HB16.out.mono hz1))
            have HB26 := hid (HB25.out.trans (HBo.out.mono HB25.out.size))
            have hw6 := HBw6.out.size
            obtain ⟨x0, x1, x2, x3, x4, x5, xf⟩ := blk6 (HX.out wo HB16.out)
            have hcbi := blk_lt (HX.out wo HB16.out)
            clear hall hNP hNQ hE1 hE2
            go_wp2_with fail
            have hF0 : wo.drew.heap[cb]? = some (.cells #[.int .i64 c.head.kind, .int .i64 c.head.n, .string c.head.s, .slice ha c.head.args.length hac, .slice ba c.body.length bac, .int .i64 c.vars] 26) := HX.out wo HB16.out
            have HONE := hid (fun (W : World) (hb : Below w.heap.size w W) (A : Nat → Prop) (h1 : A W.heap.size) (h2 : ∀ b, b < w.heap.size → A b) => (cls_one (A := A) (w := W) h1 (Cl.rep_lasts.2.1 _ A _ _ _ (HC.out W hb) (fun b _ hb => h2 b hb)) rfl))
            have HBwd := hid (show Below w.heap.size w wo.drew from HBw6.out.drew)
            have hP24 := HP24.out
            clear x0 x1 x2 x3 x4 x5 xf
            refine wp_region_F (F := fun _ w' => w'.heap[cb]? = some (.cells #[.int .i64 c.head.kind, .int .i64 c.head.n, .string c.head.s, .slice ha c.head.args.length hac, .slice ba c.body.length bac, .int .i64 c.vars] 26)) (by kernel_rfl) ?_
            have HF := hF0
            refine wpAnyF_take (i := 0) (v := ?_) rfl (by kernel_rfl) (by kernel_rfl) (by kernel_rfl) (fun _ _ _ h => h) (Or.inl ⟨by rfl, ?_⟩) HF ?_
            rotate_left
            · (intro w' hw; clear hw; go_simp <;> with_reducible rfl)
            try simp only [Act.put, List.setIfInBounds_toArray, List.set_cons_zero, List.set_cons_succ]
            refine wpAnyF_take (i := 2) (v := .agg #[.int .i64 c.head.kind, .int .i64 c.head.n, .string c.head.s, .slice ha c.head.args.length hac, .slice ba c.body.length bac, .int .i64 c.vars]) rfl (by kernel_rfl) (by kernel_rfl) (by kernel_rfl) (fun _ _ _ h => h) (Or.inl ⟨by rfl, ?_⟩) HF ?_
            · (intro w' hw; obtain ⟨f0, f1, f2, f3, f4, f5, -⟩ := blk6 hw; clear hw; go_simp)
            try simp only [Act.put, List.setIfInBounds_toArray, List.set_cons_zero, List.set_cons_succ]
            refine wpAnyF_take (i := 5) (v := ?_) rfl (by kernel_rfl) (by kernel_rfl) (by kernel_rfl) (fun _ _ _ h => h) (Or.inl ⟨by rfl, ?_⟩) HF ?_
            rotate_left
            · (intro w' hw; clear hw; go_simp <;> with_reducible rfl)
            try simp only [Act.put, List.setIfInBounds_toArray, List.set_cons_zero, List.set_cons_succ]
            refine wpAnyF_take (i := 6) (v := ?_) rfl (by kernel_rfl) (by kernel_rfl) (by kernel_rfl) (fun _ _ _ h => h) (Or.inl ⟨by rfl, ?_⟩) HF ?_
            rotate_left
            · (intro w' hw; clear hw; go_simp <;> with_reducible rfl)
            try simp only [Act.put, List.setIfInBounds_toArray, List.set_cons_zero, List.set_cons_succ]
            refine wpAnyF_take (i := 7) (v := ?_) rfl (by kernel_rfl) (by kernel_rfl) (by kernel_rfl) (fun _ _ _ h => h) (Or.inl ⟨by rfl, ?_⟩) HF ?_
            rotate_left
            · (intro w' hw; clear hw; go_simp <;> with_reducible rfl)
            try simp only [Act.put, List.setIfInBounds_toArray, List.set_cons_zero, List.set_cons_succ]
            have hPS := HP.out wo.drew HBwd.out
            refine wpAnyF_two (i := 1) (j := 3) (by kernel_rfl) (wpOp_run rfl (by rfl) ?_) (wpOp_run rfl (by rfl) ?_)
            · generalize hwd : wo.drew = wd at *
              have HBo_wd := hid (show Below wo.heap.size wo wd from by rw [← hwd]; exact (Below.refl _ _).drew)
              have HBw_wd := hid HBwd.out
              refine wp_appS (.const (.slice none 0 0)) (.tmp 82) 50 rfl wo.heap.size 26 6 88 tyClauseG Cl.rep_lasts (A := fun _ => True) (.slice none 0 0) [] rfl (OwnR.nil ..) _ rfl P (SlR.mono Cl.rep_lasts (by omega) (HP.out wd HBw_wd.out) (fun b _ _ => ⟨trivial, by simp [ownB]⟩)) (by simp; omega) (by have := HBo_wd.out.size; omega) ?_
              intro v7 w7 hown_v7 hgrew_v7
              have HBo_w7 := hid (show Below wo.heap.size wo w7 from hgrew_v7.below HBo_wd.out (by have := HBo_wd.out.size; omega) (fun k hk => by simp [ownB] at hk))
              have HBw_w7 := hid (HBw6.out.trans (HBo_w7.out.mono hw6))
              have HF_w7 : w7.heap[cb]? = some (.cells #[.int .i64 c.head.kind, .int .i64 c.head.n, .string c.head.s, .slice ha c.head.args.length hac, .slice ba c.body.length bac, .int .i64 c.vars] 26) := HX.out w7 (HB16.out.trans (HBo_w7.out.mono HB16.out.size))
              have hgz_w7 := hgrew_v7.size
              refine ⟨fun _ _ _ => HF_w7, ?_⟩
              try simp only [Act.put, List.setIfInBounds_toArray, List.set_cons_zero, List.set_cons_succ]
              refine wpAnyF_one (i := 3) (by kernel_rfl) (wpOp_run rfl (by rfl) ?_)
              go_simp
              have HBo_w8 := hid (show Below wo.heap.size wo (w7.alloc (.cells #[.int .i64 c.head.kind, .int .i64 c.head.n, .string c.head.s, .slice ha c.head.args.length hac, .slice ba c.body.length bac, .int .i64 c.vars] 26)) from HBo_w7.out.alloc HBo_w7.out.size _)
              have HF_w8 : (w7.alloc (.cells #[.int .i64 c.head.kind, .int .i64 c.head.n, .string c.head.s, .slice ha c.head.args.length hac, .slice ba c.body.length bac, .int .i64 c.vars] 26)).heap[cb]? = some (.cells #[.int .i64 c.head.kind, .int .i64 c.head.n, .string c.head.s, .slice ha c.head.args.length hac, .slice ba c.body.length bac, .int .i64 c.vars] 26) := HX.out _ (HB16.out.trans (HBo_w8.out.mono HB16.out.size))
              have HO_w8 := hid (fun (A : Nat → Prop) h1 h2 => HONE.out w7 HBw_w7.out A h1 h2)
              refine ⟨fun _ _ _ => HF_w8, ?_⟩
              have hz_w8 : (w7.alloc (.cells #[.int .i64 c.head.kind, .int .i64 c.head.n, .string c.head.s, .slice ha c.head.args.length hac, .slice ba c.body.length bac, .int .i64 c.vars] 26)).heap.size = w7.heap.size + 1 := by simp
              obtain ⟨nb, hnb⟩ : ∃ nb, nb = w7.heap.size := ⟨_, rfl⟩
              rw [← hnb]
              have hnb1 := HBo_w7.out.size
              generalize hw8 : w7.alloc (.cells #[.int .i64 c.head.kind, .int .i64 c.head.n, .string c.head.s, .slice ha c.head.args.length hac, .slice ba c.body.length bac, .int .i64 c.vars] 26) = w8 at *
              have hown8 := hown_v7.below Cl.rep_lasts (w' := w8) (by rw [← hw8]; exact (Below.refl _ _).alloc (Nat.le_refl _) _)
              refine wpAnyF_one (i := 4) (by kernel_rfl) (wpOp_run rfl (by rfl) ?_)
              refine wp_appS (.tmp 83) (.tmp 85) 50 rfl wo.heap.size 26 6 88 tyClauseG Cl.rep_lasts (A := fun _ => True) v7 ([] ++ P) rfl hown8 _ rfl [c] (HO_w8.out (fun b => True ∧ ownB v7 ≠ some b) ⟨trivial, fun e => by have := (hown_v7.lt _ e).2; omega⟩ (fun b hb => ⟨trivial, fun e => by have := (hown_v7.lt _ e).1; omega⟩) |> fun h => hnb ▸ h) (by simp; omega) (by have := HBo_w8.out.size; omega) ?_
              intro v9 w9 hown9 hgrew9
              have HBo9 := hid (show Below wo.heap.size wo w9 from hgrew9.below HBo_w8.out HBo_w8.out.size (fun k hk => (hown8.lt k hk).1))
              have HBw9 := hid (HBw6.out.trans (HBo9.out.mono hw6))
              have HF9 : w9.heap[cb]? = some (.cells #[.int .i64 c.head.kind, .int .i64 c.head.n, .string c.head.s, .slice ha c.head.args.length hac, .slice ba c.body.length bac, .int .i64 c.vars] 26) := HX.out w9 (HB16.out.trans (HBo9.out.mono HB16.out.size))
              refine ⟨fun _ _ _ => HF9, ?_⟩
              try simp only [Act.put, List.setIfInBounds_toArray, List.set_cons_zero, List.set_cons_succ]
              have HCL9 := hid (SlR.mono (A' := fun b => b < w9.heap.size) Cl.rep_lasts (by omega) (hown9.sl Cl.rep_lasts (by simp; omega) (fun _ _ => trivial)) (fun b hb _ => hb))
              rw [List.nil_append] at HCL9
              clear hown9 hgrew9
              refine wpAnyF_one (i := 8) (by kernel_rfl) (wpOp_run rfl (by rfl) ?_)
              go_simp
              refine (HAB.out w9 HBw9.out _ HCL9.out).mono ?_
              rintro e w10 ⟨ev, rfl, hb10, hev⟩
              have HBo10 := hid (HBo9.out.trans (hb10.mono HBo9.out.size))
              have HB110 := hid (HB16.out.trans (HBo10.out.mono HB16.out.size))
              have HEV := hid hev
              have HB210 := hid (HB26.out.trans (HBo10.out.mono HB26.out.size))
              have HF10 : w10.heap[cb]? = some (.cells #[.int .i64 c.head.kind, .int .i64 c.head.n, .string c.head.s, .slice ha c.head.args.length hac, .slice ba c.body.length bac, .int .i64 c.vars] 26) := HX.out w10 HB110.out
              clear hb10 hev
              refine ⟨fun _ _ _ => HF10, ?_⟩
              refine wpAnyF_take (i := 9) (v := ?_) rfl (by kernel_rfl) (by kernel_rfl) (by kernel_rfl) (fun _ _ _ h => h) (Or.inl ⟨by rfl, ?_⟩) HF10 ?_
              rotate_left
              · (intro w' hw; clear hw; go_simp <;> with_reducible rfl)
              try simp only [Act.put, List.setIfInBounds_toArray, List.set_cons_zero, List.set_cons_succ]
              refine wpAnyF_take (i := 10) (v := ?_) rfl (by kernel_rfl) (by kernel_rfl) (by kernel_rfl) (fun _ _ _ h => h) (Or.inl ⟨by rfl, ?_⟩) HF10 ?_
              rotate_left
              · (intro w' hw; clear hw; go_simp <;> with_reducible rfl)
              try simp only [Act.put, List.setIfInBounds_toArray, List.set_cons_zero, List.set_cons_succ]
              refine wpAnyF_take (i := 11) (v := ?_) rfl (by kernel_rfl) (by kernel_rfl) (by kernel_rfl) (fun _ _ _ h => h) (Or.inl ⟨by rfl, ?_⟩) HF10 ?_
              rotate_left
              · (intro w' hw; clear hw; go_simp <;> with_reducible rfl)
              try simp only [Act.put, List.setIfInBounds_toArray, List.set_cons_zero, List.set_cons_succ]
              refine wpAnyF_one (i := 12) (by kernel_rfl) (wpOp_run rfl (by rfl) ?_)
              go_simp
              refine ⟨fun _ _ h => h, ?_⟩
              refine wpAnyF_one (i := 13) (by kernel_rfl) (wpOp_run rfl (by rfl) ?_)
              go_simp
              refine ⟨fun _ _ h => h, wpAnyF_done (by kernel_rfl) ?_ _⟩
              obtain ⟨ea2, ec2, -, -, hevv, -⟩ := SlR.at HEV.out
              subst hevv
              have HOW := hid (own_oneG (E := 26) (size := 6) (R := Cl.rep) (A := fun _ => True) (w := w10) (x := c) (us := [.int .i64 c.head.kind, .int .i64 c.head.n, .string c.head.s, .slice ha c.head.args.length hac, .slice ba c.body.length bac, .int .i64 c.vars]) Cl.rep_lasts
                (Cl.rep_lasts.2.1 _ _ _ _ _ (HC.out w10 (HB1.out.trans (HB110.out.mono hz1))) (fun b _ hb9 => ⟨trivial, by have := (HB1.out.trans (HB110.out.mono hz1)).size; have := HBo10.out.size; omega⟩)) rfl rfl)
              have hw10 := (HB1.out.trans (HB110.out.mono hz1)).size
              have hw10o := HBo10.out.size
              have HPW2 := hid (SlR.keeps (w' := w10.alloc (.cells #[.int .i64 c.head.kind, .int .i64 c.head.n, .string c.head.s, .slice ha c.head.args.length hac, .slice ba c.body.length bac, .int .i64 c.vars] 26)) Cl.rep_lasts (HP.out w10 (HB1.out.trans (HB110.out.mono hz1))) (Keeps.alloc _ _ _))
              obtain ⟨x0, x1, x2, x3, x4, x5, xf⟩ := blk6 HF10
              have hcb10 := blk_lt HF10
              clear HF9 HF10 HF hF0 hPS
              go_wp2_with (at_builtin; go_must (refine wpList_appS rfl (.tmp 95) (.tmp 96) 50 rfl w10.heap.size 26 6 88 tyClauseG Cl.rep_lasts (A := fun _ => True) (.slice (some ⟨w10.heap.size, 0, none⟩) 1 1) [c] rfl HOW.out _ rfl P (SlR.mono Cl.rep_lasts (by omega) HPW2.out (fun b _ hb2 => ⟨trivial, by simp [ownB]; omega⟩)) (by simp; omega) (by simp) ?_); go_must (intro lv w11 hown hgrew; have HOWN := hid hown; have HGREW := hid hgrew; obtain ⟨la6, lc6, hlv6, -, -⟩ := OwnR.val' hown; subst hlv6; clear hown hgrew))
              have HB11o := hid (show Below w10.heap.size w10 w11 from HGREW.out.below ((Below.refl _ _).alloc (Nat.le_refl _) _) (by simp) (fun k hk => by simp [ownB] at hk; omega))
              have HB111 := hid (HB110.out.trans (HB11o.out.mono HB110.out.size))
              have HB211 := hid (HB210.out.trans (HB11o.out.mono HB210.out.size))
              have HCL11 := hid (SlR.mono (A' := fun b => b < w11.heap.size) Cl.rep_lasts (by omega) (HOWN.out.sl Cl.rep_lasts (by simp; omega) (fun _ _ => trivial)) (fun b hb _ => hb))
              have HEV11 := hid (SlR.keeps evR_lasts HEV.out (Keeps.of_below HB11o.out))
              refine (HAF.out w11 (HB1.out.trans (HB111.out.mono hz1)) _ HCL11.out).mono ?_
              rintro e w12 ⟨ev3, rfl, hb12, hev3⟩
              have HB112 := hid (HB111.out.trans (hb12.mono HB111.out.size))
              have HEV12 := hid (SlR.keeps evR_lasts HEV11.out (Keeps.of_below hb12))
              have HAV12 := hid (HAV.out w12 (HB211.out.trans (hb12.mono HB211.out.size)))
              have HEV3 := hid hev3
              obtain ⟨ea3, ec3, -, -, hevv3, -⟩ := SlR.at hev3
              subst hevv3
              clear hb12 hev3 x0 x1 x2 x3 x4 x5 xf
              go_wp2_with fail
              refine (sameEvents_ok la la (fun _ => True) w12 _ _ HAV12.out HEV12.out).mono ?_
              rintro e w13 ⟨v, rfl, hb13, r, rfl, hr⟩
              obtain rfl : r = true := hr.2 rfl
              have HB113 := hid (HB112.out.trans (hb13.mono HB112.out.size))
              have HEV313 := hid (SlR.keeps evR_lasts HEV3.out (Keeps.of_below hb13))
              have HAV13 := hid (SlR.keeps evR_lasts HAV12.out (Keeps.of_below hb13))
              clear hb13 hr
              go_wp2_with fail
              refine (sameEvents_ok la la (fun _ => True) w13 _ _ HAV13.out HEV313.out).mono ?_
              rintro e w14 ⟨v, rfl, hb14, r, rfl, hr⟩
              obtain rfl : r = true := hr.2 rfl
              have HBF := hid (HB1.out.trans ((HB113.out.trans (hb14.mono HB113.out.size)).mono hz1))
              clear hb14 hr
              go_wp2_with fail
              go_ret
              exact ⟨_, rfl, HBF.out, rfl⟩
            · generalize hwd : wo.drew = wd at *
              have HBo_wd := hid (show Below wo.heap.size wo wd from by rw [← hwd]; exact (Below.refl _ _).drew)
              have HBw_wd := hid HBwd.out
              go_simp
              have HBo_w7 := hid (show Below wo.heap.size wo (wd.alloc (.cells #[.int .i64 c.head.kind, .int .i64 c.head.n, .string c.head.s, .slice ha c.head.args.length hac, .slice ba c.body.length bac, .int .i64 c.vars] 26)) from HBo_wd.out.alloc HBo_wd.out.size _)
              have HF_w7 : (wd.alloc (.cells #[.int .i64 c.head.kind, .int .i64 c.head.n, .string c.head.s, .slice ha c.head.args.length hac, .slice ba c.body.length bac, .int .i64 c.vars] 26)).heap[cb]? = some (.cells #[.int .i64 c.head.kind, .int .i64 c.head.n, .string c.head.s, .slice ha c.head.args.length hac, .slice ba c.body.length bac, .int .i64 c.vars] 26) := HX.out _ (HB16.out.trans (HBo_w7.out.mono HB16.out.size))
              have HO_w7 := hid (fun (A : Nat → Prop) h1 h2 => HONE.out wd HBw_wd.out A h1 h2)
              refine ⟨fun _ _ _ => HF_w7, ?_⟩
              have hz_w7 : (wd.alloc (.cells #[.int .i64 c.head.kind, .int .i64 c.head.n, .string c.head.s, .slice ha c.head.args.length hac, .slice ba c.body.length bac, .int .i64 c.vars] 26)).heap.size = wd.heap.size + 1 := by simp
              obtain ⟨nb, hnb⟩ : ∃ nb, nb = wd.heap.size := ⟨_, rfl⟩
              rw [← hnb]
              have hnb1 := HBo_wd.out.size
              generalize hw7 : wd.alloc (.cells #[.int .i64 c.head.kind, .int .i64 c.head.n, .string c.head.s, .slice ha c.head.args.length hac, .slice ba c.body.length bac, .int .i64 c.vars] 26) = w7 at *
              have HBw_w7 := hid (HBw6.out.trans (HBo_w7.out.mono hw6))
              refine wpAnyF_one (i := 1) (by kernel_rfl) (wpOp_run rfl (by rfl) ?_)
              refine wp_appS (.const (.slice none 0 0)) (.tmp 82) 50 rfl wo.heap.size 26 6 88 tyClauseG Cl.rep_lasts (A := fun _ => True) (.slice none 0 0) [] rfl (OwnR.nil ..) _ rfl P (SlR.mono Cl.rep_lasts (by omega) (HP.out w7 HBw_w7.out) (fun b _ _ => ⟨trivial, by simp [ownB]⟩)) (by simp; omega) (by have := HBo_w7.out.size; omega) ?_
              intro v7 w8 hown_v7 hgrew_v7
              have HBo_w8 := hid (show Below wo.heap.size wo w8 from hgrew_v7.below HBo_w7.out (by have := HBo_w7.out.size; omega) (fun k hk => by simp [ownB] at hk))
              have HBw_w8 := hid (HBw6.out.trans (HBo_w8.out.mono hw6))
              have HF_w8 : w8.heap[cb]? = some (.cells #[.int .i64 c.head.kind, .int .i64 c.head.n, .string c.head.s, .slice ha c.head.args.length hac, .slice ba c.body.length bac, .int .i64 c.vars] 26) := HX.out w8 (HB16.out.trans (HBo_w8.out.mono HB16.out.size))
              have hgz_w8 := hgrew_v7.size
              refine ⟨fun _ _ _ => HF_w8, ?_⟩
              try simp only [Act.put, List.setIfInBounds_toArray, List.set_cons_zero, List.set_cons_succ]
              refine wpAnyF_one (i := 4) (by kernel_rfl) (wpOp_run rfl (by rfl) ?_)
              refine wp_appS (.tmp 83) (.tmp 85) 50 rfl wo.heap.size 26 6 88 tyClauseG Cl.rep_lasts (A := fun _ => True) v7 ([] ++ P) rfl hown_v7 _ rfl [c] (SlR.keeps Cl.rep_lasts (HO_w7.out (fun b => True ∧ ownB v7 ≠ some b) ⟨trivial, fun e => hgrew_v7.block.elim (fun h => by rw [h] at e; simp [ownB] at e) (fun h => by have := h _ e; omega)⟩ (fun b hb => ⟨trivial, fun e => by have := (hown_v7.lt _ e).1; omega⟩) |> fun h => hnb ▸ h) (hgrew_v7.keeps (fun b _ => by simp [ownB]))) (by simp; omega) (by have := HBo_w8.out.size; omega) ?_
              intro v9 w9 hown9 hgrew9
              have HBo9 := hid (show Below wo.heap.size wo w9 from hgrew9.below HBo_w8.out HBo_w8.out.size (fun k hk => (hown_v7.lt k hk).1))
              have HBw9 := hid (HBw6.out.trans (HBo9.out.mono hw6))
              have HF9 : w9.heap[cb]? = some (.cells #[.int .i64 c.head.kind, .int .i64 c.head.n, .string c.head.s, .slice ha c.head.args.length hac, .slice ba c.body.length bac, .int .i64 c.vars] 26) := HX.out w9 (HB16.out.trans (HBo9.out.mono HB16.out.size))
              refine ⟨fun _ _ _ => HF9, ?_⟩
              try simp only [Act.put, List.setIfInBounds_toArray, List.set_cons_zero, List.set_cons_succ]
              have HCL9 := hid (SlR.mono (A' := fun b => b < w9.heap.size) Cl.rep_lasts (by omega) (hown9.sl Cl.rep_lasts (by simp; omega) (fun _ _ => trivial)) (fun b hb _ => hb))
              rw [List.nil_append] at HCL9
              clear hown9 hgrew9
              refine wpAnyF_one (i := 8) (by kernel_rfl) (wpOp_run rfl (by rfl) ?_)
              go_simp
              refine (HAB.out w9 HBw9.out _ HCL9.out).mono ?_
              rintro e w10 ⟨ev, rfl, hb10, hev⟩
              have HBo10 := hid (HBo9.out.trans (hb10.mono HBo9.out.size))
              have HB110 := hid (HB16.out.trans (HBo10.out.mono HB16.out.size))
              have HEV := hid hev
              have HB210 := hid (HB26.out.trans (HBo10.out.mono HB26.out.size))
              have HF10 : w10.heap[cb]? = some (.cells #[.int .i64 c.head.kind, .int .i64 c.head.n, .string c.head.s, .slice ha c.head.args.length hac, .slice ba c.body.length bac, .int .i64 c.vars] 26) := HX.out w10 HB110.out
              clear hb10 hev
              refine ⟨fun _ _ _ => HF10, ?_⟩
              refine wpAnyF_take (i := 9) (v := ?_) rfl (by kernel_rfl) (by kernel_rfl) (by kernel_rfl) (fun _ _ _ h => h) (Or.inl ⟨by rfl, ?_⟩) HF10 ?_
              rotate_left
              · (intro w' hw; clear hw; go_simp <;> with_reducible rfl)
              try simp only [Act.put, List.setIfInBounds_toArray, List.set_cons_zero, List.set_cons_succ]
              refine wpAnyF_take (i := 10) (v := ?_) rfl (by kernel_rfl) (by kernel_rfl) (by kernel_rfl) (fun _ _ _ h => h) (Or.inl ⟨by rfl, ?_⟩) HF10 ?_
              rotate_left
              · (intro w' hw; clear hw; go_simp <;> with_reducible rfl)
              try simp only [Act.put, List.setIfInBounds_toArray, List.set_cons_zero, List.set_cons_succ]
              refine wpAnyF_take (i := 11) (v := ?_) rfl (by kernel_rfl) (by kernel_rfl) (by kernel_rfl) (fun _ _ _ h => h) (Or.inl ⟨by rfl, ?_⟩) HF10 ?_
              rotate_left
              · (intro w' hw; clear hw; go_simp <;> with_reducible rfl)
              try simp only [Act.put, List.setIfInBounds_toArray, List.set_cons_zero, List.set_cons_succ]
              refine wpAnyF_one (i := 12) (by kernel_rfl) (wpOp_run rfl (by rfl) ?_)
              go_simp
              refine ⟨fun _ _ h => h, ?_⟩
              refine wpAnyF_one (i := 13) (by kernel_rfl) (wpOp_run rfl (by rfl) ?_)
              go_simp
              refine ⟨fun _ _ h => h, wpAnyF_done (by kernel_rfl) ?_ _⟩
              obtain ⟨ea2, ec2, -, -, hevv, -⟩ := SlR.at HEV.out
              subst hevv
              have HOW := hid (own_oneG (E := 26) (size := 6) (R := Cl.rep) (A := fun _ => True) (w := w10) (x := c) (us := [.int .i64 c.head.kind, .int .i64 c.head.n, .string c.head.s, .slice ha c.head.args.length hac, .slice ba c.body.length bac, .int .i64 c.vars]) Cl.rep_lasts
                (Cl.rep_lasts.2.1 _ _ _ _ _ (HC.out w10 (HB1.out.trans (HB110.out.mono hz1))) (fun b _ hb9 => ⟨trivial, by have := (HB1.out.trans (HB110.out.mono hz1)).size; have := HBo10.out.size; omega⟩)) rfl rfl)
              have hw10 := (HB1.out.trans (HB110.out.mono hz1)).size
              have hw10o := HBo10.out.size
              have HPW2 := hid (SlR.keeps (w' := w10.alloc (.cells #[.int .i64 c.head.kind, .int .i64 c.head.n, .string c.head.s, .slice ha c.head.args.length hac, .slice ba c.body.length bac, .int .i64 c.vars] 26)) Cl.rep_lasts (HP.out w10 (HB1.out.trans (HB110.out.mono hz1))) (Keeps.alloc _ _ _))
              obtain ⟨x0, x1, x2, x3, x4, x5, xf⟩ := blk6 HF10
              have hcb10 := blk_lt HF10
              clear HF9 HF10 HF hF0 hPS
              go_wp2_with (at_builtin; go_must (refine wpList_appS rfl (.tmp 95) (.tmp 96) 50 rfl w10.heap.size 26 6 88 tyClauseG Cl.rep_lasts (A := fun _ => True) (.slice (some ⟨w10.heap.size, 0, none⟩) 1 1) [c] rfl HOW.out _ rfl P (SlR.mono Cl.rep_lasts (by omega) HPW2.out (fun b _ hb2 => ⟨trivial, by simp [ownB]; omega⟩)) (by simp; omega) (by simp) ?_); go_must (intro lv w11 hown hgrew; have HOWN := hid hown; have HGREW := hid hgrew; obtain ⟨la6, lc6, hlv6, -, -⟩ := OwnR.val' hown; subst hlv6; clear hown hgrew))
              have HB11o := hid (show Below w10.heap.size w10 w11 from HGREW.out.below ((Below.refl _ _).alloc (Nat.le_refl _) _) (by simp) (fun k hk => by simp [ownB] at hk; omega))
              have HB111 := hid (HB110.out.trans (HB11o.out.mono HB110.out.size))
              have HB211 := hid (HB210.out.trans (HB11o.out.mono HB210.out.size))
              have HCL11 := hid (SlR.mono (A' := fun b => b < w11.heap.size) Cl.rep_lasts (by omega) (HOWN.out.sl Cl.rep_lasts (by simp; omega) (fun _ _ => trivial)) (fun b hb _ => hb))
              have HEV11 := hid (SlR.keeps evR_lasts HEV.out (Keeps.of_below HB11o.out))
              refine (HAF.out w11 (HB1.out.trans (HB111.out.mono hz1)) _ HCL11.out).mono ?_
              rintro e w12 ⟨ev3, rfl, hb12, hev3⟩
              have HB112 := hid (HB111.out.trans (hb12.mono HB111.out.size))
              have HEV12 := hid (SlR.keeps evR_lasts HEV11.out (Keeps.of_below hb12))
              have HAV12 := hid (HAV.out w12 (HB211.out.trans (hb12.mono HB211.out.size)))
              have HEV3 := hid hev3
              obtain ⟨ea3, ec3, -, -, hevv3, -⟩ := SlR.at hev3
              subst hevv3
              clear hb12 hev3 x0 x1 x2 x3 x4 x5 xf
              go_wp2_with fail
              refine (sameEvents_ok la la (fun _ => True) w12 _ _ HAV12.out HEV12.out).mono ?_
              rintro e w13 ⟨v, rfl, hb13, r, rfl, hr⟩
              obtain rfl : r = true := hr.2 rfl
              have HB113 := hid (HB112.out.trans (hb13.mono HB112.out.size))
              have HEV313 := hid (SlR.keeps evR_lasts HEV3.out (Keeps.of_below hb13))
              have HAV13 := hid (SlR.keeps evR_lasts HAV12.out (Keeps.of_below hb13))
              clear hb13 hr
              go_wp2_with fail
              refine (sameEvents_ok la la (fun _ => True) w13 _ _ HAV13.out HEV313.out).mono ?_
              rintro e w14 ⟨v, rfl, hb14, r, rfl, hr⟩
              obtain rfl : r = true := hr.2 rfl
              have HBF := hid (HB1.out.trans ((HB113.out.trans (hb14.mono HB113.out.size)).mono hz1))
              clear hb14 hr
              go_wp2_with fail
              go_ret
              exact ⟨_, rfl, HBF.out, rfl⟩
  · have he' : (ea != 0) = true := by simpa using he
    clear he
    go_wp2_with fail
    refine (HSV.out w2).mono ?_
    rintro e w5 ⟨r, rfl, hb5, rfl⟩
    have HB5 := hid (HB1.out.trans ((HB2.out.trans (hb5.mono hz2)).mono hz1))
    clear hb5
    go_wp2_with fail
    go_ret
    exact ⟨_, rfl, HB5.out, rfl⟩
end Go.Proofs.Ytlpmfkpefoegeab
