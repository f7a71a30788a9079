/-
  term.Tidy.
  The solver: answer.
-/
import Derived.Test.YtlpmfkpefoegeabDoorQTidy1
import Derived.Test.YtlpmfkpefoegeabDoorQSolveF
import Derived.Test.YtlpmfkpefoegeabDoorQPlace
import Derived.Test.YtlpmfkpefoegeabDoorPProve
namespace Go.Proofs.YtlpmfkpefoegeabDoor
set_option linter.unusedVariables false
set_option linter.unusedSimpArgs false
open Go.RowKit
set_option maxHeartbeats 1000000 in
theorem tidyS_ok (l : List Tm) (hnd : (Tm.renSL seenF [] l).2.length ≤ 4194303) (A : Nat → Prop) (w : World) (v : Value) (hv : TmsR A w l v) :
    Calls Tryd.prog 53 #[v] w (Pure w fun v' w' => TmsR (New w) w' (Tm.renSL seenF [] l).1 v') := by
  obtain ⟨a, cap, b, off, rfl, hlc, hcm, hlb, ha, he⟩ := hv.at
  have HE := hid he
  have HA := hid ha
  have HV := hid hv
  clear hv he ha
  go_enter Tryd.func53, Tryd.ntmps53
  go_wp2_with fail
  go_loopw [5, 11] (fun v i wr => ∃ (j : Nat) (sj : List Int) (Mj : Nat → Prop), j ≤ l.length ∧ i = .int .i64 j ∧ w.heap.size + 2 ≤ wr.heap.size ∧ Below w.heap.size w wr ∧ (∀ b, Mj b → w.heap.size ≤ b) ∧ TdInv (w.heap.size + 2) w.heap.size (w.heap.size + 1) sj Mj wr ∧
      sj = (Tm.renSL seenF [] (l.take j)).2 ∧ (∀ b, ownB v = some b → ¬ Mj b) ∧
      OwnR wr (w.heap.size + 2) 31 4 Tm.rep (fun b => w.heap.size + 2 ≤ b ∧ ¬ Mj b) (Tm.renSL seenF [] (l.take j)).1 v) (fun _ i _ => l.length - (intOf i).toNat)
  case atStart =>
    have hq := heap2 w (.cells #[.slice none 0 0] 48) (.cells #[.func (.func 83) #[] #[.pointer (some ⟨w.heap.size, 0, none⟩), .pointer (some ⟨w.heap.size + 1, 0, none⟩)]] 33)
    refine ⟨0, [], fun b => (b = w.heap.size ∨ ownB (.slice none 0 0) = some b) ∨ b = w.heap.size + 1, Nat.zero_le _, rfl, by simp, below_pure (below_pure (Below.refl _ _)), fun b hb => ?_, ⟨_, ⟨_, hq.1, OwnR.nil .., by simp, by omega, fun b => Iff.rfl⟩, (blk_cell hq.2 0).trans rfl, fun b => Iff.rfl, fun h => ?_⟩, by simp [Tm.renSL], by simp [ownB], by simpa [Tm.renSL] using OwnR.nil ..⟩
    · rcases hb with (rfl | hb) | rfl
      · omega
      · simp [ownB] at hb
      · omega
    · rcases h with h | h
      · omega
      · simp [ownB] at h
  case round =>
    obtain ⟨j, sj, Mj, hj, rfl, hz, hb, hMj, hst, hsj, hob, hown⟩ := hrel
    have hvl : (Tm.renSL seenF [] (l.take j)).1.length = j := by rw [Tm.renSL_length]; simp; omega
    have HB := hid hb
    have HMJ := hid hMj
    have HST := hid hst
    have HSJ := hid hsj
    have HOB := hid hob
    have HO := hid hown
    have HVL := hid hvl
    clear hb hMj hst hsj hob hown hvl
    by_cases hlt : j < l.length
    · obtain ⟨rfl, hAb⟩ := HA.out (by omega)
      obtain ⟨sa, sc, c0, c1, c2, c3, hr⟩ := tm_cells HE.out hAb (Keeps.of_below HB.out) hlt
      have lb : b < wr.heap.size := World.block_lt_of_cell? wr _ c0
      -- what the term leads to lies below
      have hr0 := HE.out
      obtain ⟨vs0, hl0, hrep0, hrow0⟩ := hr0 j _ (List.getElem?_eq_getElem hlt)
      obtain ⟨sa0, sc0, rfl, -⟩ := Tm.rep4 hrep0
      obtain ⟨-, -, -, d3⟩ := rowAt4 (RowAt.keeps hAb hrow0 (Keeps.of_below (A := A) HB.out))
      have hsame : Value.slice sa l[j].args.length sc = Value.slice sa0 l[j].args.length sc0 := Option.some.inj (c3.symm.trans d3)
      simp only [Value.slice.injEq, true_and] at hsame
      obtain ⟨rfl, rfl⟩ := hsame
      have hrep1 := Tm.rep_lasts.2.1 _ (fun b => A b ∧ b < w.heap.size) _ _ _ hrep0 (fun b hb h => ⟨h, hb⟩)
      have HR := hid (Tm.rep_lasts.1 _ _ wr _ _ hrep1 (Keeps.of_below HB.out))
      clear hr hr0 hl0 hrep0 hrow0 d3 hrep1
      have hcw := fun o => (Keeps.alloc (fun _ => True) wr o).cell trivial HST.out.cw
      go_wp2_with fail
      have hnd2 : (Tm.renS seenF sj l[j]).2.length ≤ 4194303 := by
        have h1 := Tm.renSL_part l [] j hlt
        rw [HSJ.out]
        omega
      refine (tidy1_ok _ _ _ l[j] sj Mj (fun b => A b ∧ b < w.heap.size) _ [_, _, _, _] ((tdInv_law _ _ _).keeps _ _ _ _ HST.out (Keeps.alloc _ _ _)) hnd2 (Tm.rep_lasts.1 _ _ _ _ _ HR.out (Keeps.alloc _ _ _)) (fun b hb => ⟨by simp; omega, fun h => by have := HMJ.out b h; omega⟩)).mono ?_
      rintro e w1 ⟨us, M2, rfl, hch, hM2, hst2, hr⟩
      obtain ⟨sa', sc', rfl, -⟩ := Tm.rep4 hr
      have hsz := hch.size
      simp only [World.size_alloc] at hsz hM2 hr
      have hlt2 := HO.out.lt
      have hM2l := (tdInv_law _ _ _).lt _ _ _ hst2
      have hMM : ∀ b, M2 b → w.heap.size ≤ b := fun b hb => by
        rcases hM2 b hb with h1 | h1
        · exact HMJ.out b h1
        · omega
      have hn2 : ∀ b, b < wr.heap.size + 1 → ¬ Mj b → ¬ M2 b := fun b hb hn h => by
        rcases hM2 b h with h1 | h1
        · exact hn h1
        · omega
      have hHO := HO.out.alloc Tm.rep_lasts (.cells #[.int .i64 l[j].kind, .int .i64 l[j].n, .string l[j].s, .slice sa l[j].args.length sc] 31)
      have HO1 := hid (((hHO.mono (A' := fun b => w.heap.size + 2 ≤ b ∧ ¬ M2 b ∧ ¬ Mj b) Tm.rep_lasts (fun b hb hb' => ⟨hb'.1, hn2 b (by simpa using hb) hb'.2, hb'.2⟩)).keeps (B := fun b => ¬ Mj b) Tm.rep_lasts (hch.keeps fun _ _ h => h) (fun _ h => h.2.2) HOB.out).mono (A' := fun b => w.heap.size + 2 ≤ b ∧ ¬ M2 b) Tm.rep_lasts (fun b _ hb => ⟨hb.1, hb.2.1⟩))
      have HOB2 : Hid (∀ b, ownB u5 = some b → ¬ M2 b) := fun b hb => hn2 b (by have := (hlt2 b hb).2; omega) (HOB.out b hb)
      have HN := hid (show Tm.rep (fun b => (w.heap.size + 2 ≤ b ∧ ¬ M2 b) ∧ ownB u5 ≠ some b) w1 _ _ from Tm.rep_lasts.2.1 _ _ _ _ _ hr fun b _ hb => ⟨⟨by omega, hb.2⟩, fun e => by have := (hlt2 b e).2; omega⟩)
      have HL := hid (show (Tm.renSL seenF [] (l.take j)).1.length < 4194304 ∧ w.heap.size + 2 ≤ w1.heap.size by rw [HVL.out]; omega)
      have HB2 := hid (show Below w.heap.size w w1 from ((Ch.of_below (M := fun _ => False) (HB.out.alloc (by omega) _)).trans hch (fun b hb => .inr (HMJ.out b hb))).below (fun _ _ h => h))
      have HST2 := hid hst2
      have HM2l := hid hM2l
      have HMM := hid hMM
      clear hr hch hHO hst2 hM2l hMM hn2 hM2
      go_wp2_with (at_builtin; refine wpList_app1 rfl (.tmp 15) (.tmp 19) 29 rfl (w.heap.size + 2) 31 4 56 tyTerm Tm.rep_lasts u5 _ rfl HO1.out (Tm.renS seenF sj l[j]).1 [_, _, _, _] rfl rfl HN.out HL.out ?_; intro v2 w2 hown2 hgrew)
      go_roundw
      case rel =>
        have hk2 := hgrew.keeps (A := fun b => ownB u5 ≠ some b) (fun _ h => h)
        have hka := (Keeps.alloc (fun b => ownB u5 ≠ some b) w1 (.cells #[.int .i64 (Tm.renS seenF sj l[j]).1.kind, .int .i64 (Tm.renS seenF sj l[j]).1.n, .string (Tm.renS seenF sj l[j]).1.s, .slice sa' (Tm.renS seenF sj l[j]).1.args.length sc'] 31)).trans hk2
        refine ⟨j + 1, (Tm.renS seenF sj l[j]).2, M2, by omega, by go_num, by have := hgrew.size; simp only [World.size_alloc] at this; omega, hgrew.below (HB2.out.alloc (by omega) _) (by simp; omega) (fun b hb => by have := (hlt2 b hb).1; omega), HMM.out, (tdInv_law _ _ _).keeps _ _ _ _ HST2.out (hka.mono fun b _ hb e => HOB2.out b e hb), ?_, fun b hb hm => ?_, ?_⟩
        · rw [List.take_succ_eq_append_getElem hlt, Tm.renSL_snoc, ← HSJ.out]
        · rcases hgrew.block with h1 | h1
          · exact HOB2.out b (h1.symm.trans hb) hm
          · have h2 := h1 b hb
            have h3 := HM2l.out b hm
            simp only [World.size_alloc] at h2
            omega
        · rw [List.take_succ_eq_append_getElem hlt, Tm.renSL_snoc, ← HSJ.out]; exact hown2
      case measure => simp [intOf]; omega
    · have : j = l.length := by omega
      subst this
      go_wp2_with fail
      go_ret
      have hO := HO.out
      rw [List.take_length] at hO
      exact ⟨_, rfl, HB.out, (hO.mono Tm.rep_lasts (fun b _ hb => show New w b by unfold New; omega)).sl Tm.rep_lasts (by rw [Tm.renSL_length]; exact hlb) (fun b hb => by unfold New; omega)⟩
theorem tidy_ok (l : List Tm) (hnd : Tm.nodesL l ≤ 4194303) (A : Nat → Prop) (w : World) (v : Value) (hv : TmsR A w l v) :
    Calls Tryd.prog 53 #[v] w (Pure w fun v' w' => TmsR (New w) w' (Tm.renSL seenF [] l).1 v') :=
  tidyS_ok l (by have h1 := Tm.renSL_szL (sz := List.length) seenF_sz l []; simp only [List.length_nil] at h1; omega) A w v hv
end Go.Proofs.YtlpmfkpefoegeabDoor

namespace Go.Proofs.YtlpmfkpefoegeabDoor
set_option linter.unusedVariables false
set_option linter.unusedSimpArgs false
open Go.RowKit
def SAnsPost (base : Nat) (P : List Cl) (q g mb : Nat) (pv tv cv ov : Value) (r : Bool × Sv) (w : World) (e : Ending) (w' : World) : Prop := e = .returned (.bool r.1) ∧ SStep base P q g mb pv tv cv ov r.2 w w'
def qvars (q : Nat) : List Tm := (List.range q).map fun i => tvar (i : Nat)
theorem qvars_len (q : Nat) : (qvars q).length = q := by simp [qvars]
theorem qvars_get {q j : Nat} (hj : j < (qvars q).length) : (qvars q)[j] = tvar (j : Nat) := by simp [qvars]
theorem tvar_rep (A : Nat → Prop) (w : World) (n : Int) (hn : I64 n) : Tm.rep A w (tvar n) [.int .i64 0, .int .i64 n, .string ByteArray.empty, .slice none 0 0] := leaf_rep A w 0 n ByteArray.empty (by unfold I64; omega) hn (by decide)
section
variable {base : Nat} {P : List Cl} {q g mb : Nat} {pv tv cv ov : Value} {s : Sv} {N : Int} {w : World}
set_option maxRecDepth 100000 in
set_option maxHeartbeats 4000000 in
theorem sanswer_ok (h : SvI base P q g mb g pv tv cv ov s w) (hE : EnvOk N s.env) (hq : (q : Int) ≤ N) (hout : s.out.length + 2 ≤ 20) :
    Calls Tryd.prog 59 #[.pointer (some ⟨g, 0, none⟩)] w (SAnsPost base P q g mb pv tv cv ov (answerF q s) w) := by
  have HU := hid h
  have HE := hid hE
  have HQN := hid hq
  have HOUT := hid hout
  have hq8 := h.qq
  have hcs := cell_set
  obtain ⟨hl1, hl2, hl3⟩ := h.lt
  obtain ⟨pa, pc, ta, tc, ca, cc, oa, oc, hpv, htv, hcv, hov, hvl1, hvl2, hvl3, hvl4, hvl5, hvl6, hvl7, hvl8⟩ := h.vals
  subst hov
  unfold maxLen at hvl8
  obtain ⟨b0, b1, b2, b3, b4, b5, b6, b7, bf⟩ := box8 h.box
  have hAF : answerF q s = match flL s.env 200 (qvars q) with
    | none => (false, s.put 4)
    | some (l, _) => if s.out.length + 1 ≥ 12 then (false, ({ s with out := s.out ++ [⟨1, tidy l⟩] } : Sv).put 6) else (true, { s with out := s.out ++ [⟨1, tidy l⟩] }) := by
    unfold answerF qvars
    cases flL s.env 200 ((List.range q).map fun i => tvar (i : Nat)) with
    | none => rfl
    | some p => simp only [List.length_append, List.length_singleton]
  have HAF := hid hAF
  clear h hE hq hout hpv htv hcv hvl1 hvl2 hvl3 hvl4 hvl5 hvl6 hAF
  go_enter Tryd.func59, Tryd.ntmps59
  go_wp2_with fail
  obtain ⟨W1, hW1⟩ : ∃ W1, W1 = w.alloc (.cells #[.int .i64 200] 3) := ⟨_, rfl⟩
  obtain ⟨xb, hxb⟩ : ∃ xb, xb = w.heap.size := ⟨_, rfl⟩
  have HSV1 := hid (show SvI base P q g mb xb _ _ _ _ s W1 by rw [hxb, hW1]; exact HU.out.leave _)
  have HWK1 := hid (show WkAt xb 200 W1 by rw [hxb, hW1]; exact blk_new _ _)
  have HB1 := hid (show Below w.heap.size w W1 by rw [hW1]; exact (Below.refl _ _).alloc (Nat.le_refl _) _)
  have hs1 : W1.heap.size = xb + 1 := by rw [hW1, hxb]; simp
  have hxw : w.heap.size ≤ xb := by omega
  have hxg : xb ≠ g := by omega
  rw [← hW1, ← hxb]
  clear hW1 hxb b0 b1 b2 b3 b4 b5 b6 b7 bf
  obtain ⟨b0, b1, b2, b3, b4, b5, b6, b7, bf⟩ := box8 HSV1.out.box
  have hgl : g < W1.heap.size := HSV1.out.lt.1
  go_wp2_with fail
  have HFU := hid (fun k hk => sfull_ok (base := base) (P := P) (q := q) (g := g) (mb := mb) (xb := xb) (pv := pv) (tv := tv) (cv := cv) (ov := .slice oa s.out.length oc) (s := s) hxg HE.out k hk)
  go_loopw [10, 4] (fun i v wr => ∃ (j m : Nat) (ts : List Tm), j ≤ q ∧ i = .int .i64 (j : Int) ∧ m ≤ 200 ∧ ts.length = j ∧ flL s.env 200 ((qvars q).take j) = some (ts, m) ∧ WkAt xb m wr ∧ Ch (fun b => b = xb) W1 wr ∧ OwnR wr (xb + 1) 31 4 Tm.rep (fun b => xb + 1 ≤ b) ts v) (fun i _ _ => q - (intOf i).toNat)
  case atStart => exact ⟨0, 200, [], Nat.zero_le _, rfl, Nat.le_refl _, rfl, by rw [List.take_zero, flL_nil], HWK1.out, Ch.refl _ _, OwnR.nil ..⟩
  case round =>
    obtain ⟨j, m, ts, hj, rfl, hm, htl, htk, hw, hch, hown⟩ := hrel
    have HTK := hid htk
    have HTL := hid htl
    have HWK := hid hw
    have HCH := hid hch
    have HO := hid hown
    have HSV := hid (HSV1.out.ch hxg hch)
    have hsz := hch.size
    obtain ⟨va, vc, rfl, hvc⟩ := hown.val
    have htl4 : ts.length ≤ 8 := by omega
    clear htk htl hw hch hown b0 b1 b2 b3 b4 b5 b6 b7 bf
    obtain ⟨b0, b1, b2, b3, b4, b5, b6, b7, bf⟩ := box8 HSV.out.box
    have hgl2 := HSV.out.lt.1
    by_cases hlt : j < q
    · have hlt' : (j : Int) < (q : Int) := by omega
      have hj0 : (0 : Int) ≤ (j : Int) := Int.natCast_nonneg _
      have HI64 := hid (show I64 (j : Int) by unfold I64; omega)
      have hjl : j < (qvars q).length := by rw [qvars_len]; exact hlt
      have HNX := hid (show flL s.env 200 ((qvars q).take (j + 1)) = (match flL s.env m [tvar (j : Nat)] with
        | none => none
        | some (rs, w2) => some (ts ++ rs, w2)) by
        rw [flL_next s.env 200 (qvars q) j hjl ts m HTK.out, qvars_get]
        cases flL s.env m [tvar (j : Nat)] with
        | none => rfl
        | some p => rfl)
      have HIN := hid (show (tvar (j : Nat)).In N from .var _ (by omega) (by have := HQN.out; omega))
      go_wp2_with fail
      refine (HFU.out m hm (tvar (j : Nat)) wr [_, _, _, _] HSV.out HWK.out HIN.out (tvar_rep _ _ _ HI64.out)).mono ?_
      rintro e w5 ⟨us, t', k', rfl, hch1, hr1, hl1, hres⟩
      obtain ⟨sa', sc', rfl, -⟩ := Tm.rep4 hr1
      have hsz1 := hch1.size
      have hkg : Keeps (fun b => b ≠ xb) wr w5 := hch1.keeps (A := fun b => b ≠ xb) (fun b _ hb e => hb e)
      have hlt9 := HO.out.lt
      have HO1 := hid (HO.out.keeps Tm.rep_lasts hkg (fun b hb => by omega) (fun b hb => by have := (hlt9 b hb).1; omega))
      have HN := hid (fresh_elem Tm.rep_lasts HO.out (wc := wr) (Nat.le_refl _) (A := fun b => xb + 1 ≤ b) (fun b hb => by omega) hr1)
      have HL9 := hid (show ts.length < 4194304 ∧ xb + 1 ≤ w5.heap.size by omega)
      have HCH5 := hid (show Ch (fun b => b = xb) W1 w5 from HCH.out.trans hch1 (fun _ h => .inl h))
      have HL11 := hid hl1
      have HRES := hid hres
      have HLT9 := hid hlt9
      clear hr1 hl1 hres hch1 hkg hlt9
      rcases HRES.out with ⟨r1, rfl⟩ | ⟨r1, r2⟩
      · have R1 := hid r1
        clear r1
        go_wp2_with (at_builtin; go_must (refine wpList_app1 rfl (.tmp 13) (.tmp 18) 29 rfl (xb + 1) 31 4 56 tyTerm Tm.rep_lasts (A := fun b => xb + 1 ≤ b) _ _ rfl HO1.out t' [_, _, _, _] rfl rfl HN.out HL9.out ?_); go_must (intro v2 w6 hown2 hgrew; obtain ⟨va2, vc2, hv2, hvc2⟩ := hown2.val; rw [show (ts ++ [t']).length = ts.length + 1 by simp] at hv2; subst hv2; have HO2 := hid hown2; have HG2 := hid hgrew; have HL6 := hid (show WkAt xb (-1) w6 from blk_keeps HL11.out ((Keeps.alloc (fun b => ownB (.slice va ts.length vc) ≠ some b) w5 _).trans (hgrew.keeps (A := fun b => ownB (.slice va ts.length vc) ≠ some b) (fun _ h => h))) (fun e => by have := (HLT9.out _ e).1; omega)); obtain ⟨q0, qf, ql6⟩ := HL6.out.cell; clear hown2 hgrew))
        have HCH6 := hid (HG2.out.ch (HCH5.out.alloc _) (fun b hb => .inr (by have := (HLT9.out b hb).1; omega)))
        have hres := hid (show answerF q s = (false, s.put 4) by
          have h9 := flL_none s.env 200 ((qvars q).take (j + 1)) ((qvars q).drop (j + 1)) (by rw [HNX.out, R1.out])
          rw [List.take_append_drop] at h9
          rw [HAF.out, h9])
        have HSV6 := hid ((HSV1.out.ch hxg HCH6.out).take_in)
        refine (send_ok 4 (by unfold I64; omega) HSV6.out (by have := HOUT.out; omega)).mono ?_
        rintro e W9 ⟨rfl, hst⟩
        have HST := hid (SStep.trans (show Ch (SM g mb tv cv (.slice oa s.out.length oc)) w w6 from (Ch.of_below HB1.out).trans HCH6.out (fun x h => .inr (by omega))) (fun b h => .inl h) (fun b h => .inl h) (fun b h => .inl h) hst)
        clear hst
        go_wp2_with fail
        go_ret
        rw [hres.out]
        exact ⟨rfl, HST.out⟩
      · have HNX2 := hid (show flL s.env 200 ((qvars q).take (j + 1)) = some (ts ++ [t'], k'.toNat) by rw [HNX.out, r1])
        have hkm := (flL_le s.env m _ _ _ r1).1
        obtain ⟨k1, rfl⟩ := Int.eq_ofNat_of_zero_le r2
        have hk10 : (0 : Int) ≤ (k1 : Int) := Int.natCast_nonneg _
        have HKM := hid hkm
        clear r1 r2 hkm
        go_wp2_with (at_builtin; go_must (refine wpList_app1 rfl (.tmp 13) (.tmp 18) 29 rfl (xb + 1) 31 4 56 tyTerm Tm.rep_lasts (A := fun b => xb + 1 ≤ b) _ _ rfl HO1.out t' [_, _, _, _] rfl rfl HN.out HL9.out ?_); go_must (intro v2 w6 hown2 hgrew; obtain ⟨va2, vc2, hv2, hvc2⟩ := hown2.val; rw [show (ts ++ [t']).length = ts.length + 1 by simp] at hv2; subst hv2; have HO2 := hid hown2; have HG2 := hid hgrew; have HL6 := hid (show WkAt xb (k1 : Int) w6 from blk_keeps HL11.out ((Keeps.alloc (fun b => ownB (.slice va ts.length vc) ≠ some b) w5 _).trans (hgrew.keeps (A := fun b => ownB (.slice va ts.length vc) ≠ some b) (fun _ h => h))) (fun e => by have := (HLT9.out _ e).1; omega)); obtain ⟨q0, qf, ql6⟩ := HL6.out.cell; clear hown2 hgrew))
        have HCH6 := hid (HG2.out.ch (HCH5.out.alloc _) (fun b hb => .inr (by have := (HLT9.out b hb).1; omega)))
        go_roundw
        case rel => exact ⟨j + 1, k1, ts ++ [t'], by omega, by go_num, by have hkm := HKM.out; simp only [Int.toNat_natCast] at hkm; omega, by have := HTL.out; simp; omega, by simpa using HNX2.out, HL6.out, HCH6.out, HO2.out⟩
        case measure => simp [intOf]; omega
    · have hje : j = q := by omega
      have hfl := hid (show flL s.env 200 (qvars q) = some (ts, m) by
        have := HTK.out
        rwa [List.take_of_length_le (by rw [qvars_len]; omega)] at this)
      have HAF2 := hid (show answerF q s = if s.out.length + 1 ≥ 12 then (false, ({ s with out := s.out ++ [⟨1, tidy ts⟩] } : Sv).put 6) else (true, { s with out := s.out ++ [⟨1, tidy ts⟩] }) by rw [HAF.out, hfl.out])
      clear hje
      have HSV2 := hid HSV.out.take_in
      have HCHW := hid (show Ch (SM g mb tv cv (.slice oa s.out.length oc)) w wr from (Ch.of_below HB1.out).trans HCH.out (fun x h => .inr (by omega)))
      have HTS := hid (HO.out.sl Tm.rep_lasts (A := fun b => xb + 1 ≤ b) (by omega) (fun b hb => hb))
      have hnd := hid (show Tm.nodesL ts ≤ 4194303 by have := flL_nodes _ _ _ _ _ hfl.out; omega)
      obtain ⟨ov, hov⟩ : ∃ ov : Value, ov = .slice oa s.out.length oc := ⟨_, rfl⟩
      have hM1 : wr.drew.cell? ⟨g, 6, none⟩ = some (.slice oa s.out.length oc) := (box8 (show wr.drew.heap[g]? = _ from HSV2.out.box)).2.2.2.2.2.2.1
      clear hov
      go_wp2_with fail
      refine wp_region_F (F := fun k w' => k = 4 → w'.cell? ⟨g, 6, none⟩ = some (.slice oa s.out.length oc)) (by kernel_rfl) ?_
      refine wpAnyF_take (i := 0) (v := ?_) rfl (by kernel_rfl) (by kernel_rfl) (by kernel_rfl) (fun _ _ _ h => h) (Or.inl ⟨by rfl, ?_⟩) (fun _ => hM1) ?_
      rotate_left
      · (intro w' hw; clear hw; go_simp <;> with_reducible rfl)
      try simp only [Act.put, List.setIfInBounds_toArray, List.set_cons_zero, List.set_cons_succ]
      refine wpAnyF_take (i := 1) (v := ?_) rfl (by kernel_rfl) (by kernel_rfl) (by kernel_rfl) (fun _ _ _ h => h) (Or.inl ⟨by rfl, ?_⟩) (fun _ => hM1) ?_
      rotate_left
      · (intro w' hw; clear hw; go_simp <;> with_reducible rfl)
      try simp only [Act.put, List.setIfInBounds_toArray, List.set_cons_zero, List.set_cons_succ]
      refine wpAnyF_take (i := 2) (v := ?_) rfl (by kernel_rfl) (by kernel_rfl) (by kernel_rfl) (fun _ _ _ h => h) (Or.inl ⟨by rfl, ?_⟩) (fun _ => hM1) ?_
      rotate_left
      · (intro w' hw; clear hw; go_simp <;> with_reducible rfl)
      try simp only [Act.put, List.setIfInBounds_toArray, List.set_cons_zero, List.set_cons_succ]
      refine wpAnyF_take (i := 3) (v := ?_) rfl (by kernel_rfl) (by kernel_rfl) (by kernel_rfl) (fun _ _ _ h => h) (Or.inl ⟨by rfl, ?_⟩) (fun _ => hM1) ?_
      rotate_left
      · (intro w' hw; clear hw; go_simp <;> with_reducible rfl)
      try simp only [Act.put, List.setIfInBounds_toArray, List.set_cons_zero, List.set_cons_succ]
      refine wpAnyF_take (i := 4) (v := ?_) rfl (by kernel_rfl) (by kernel_rfl) (by kernel_rfl) (fun _ _ _ h => h) (Or.inl ⟨by rfl, ?_⟩) (fun _ => hM1) ?_
      rotate_left
      · (intro w' hw; have q0 := hw rfl; clear hw; go_simp <;> with_reducible rfl)
      try simp only [Act.put, List.setIfInBounds_toArray, List.set_cons_zero, List.set_cons_succ]
      refine wpAnyF_take (i := 5) (v := ?_) rfl (by kernel_rfl) (by kernel_rfl) (by kernel_rfl) (fun _ _ _ h => h) (Or.inl ⟨by rfl, ?_⟩) (fun _ => hM1) ?_
      rotate_left
      · (intro w' hw; clear hw; go_simp <;> with_reducible rfl)
      try simp only [Act.put, List.setIfInBounds_toArray, List.set_cons_zero, List.set_cons_succ]
      refine wpAnyF_one (i := 6) (by kernel_rfl) (wpOp_run rfl (by rfl) ?_)
      go_simp
      refine (tidy_ok ts hnd.out (fun b => xb + 1 ≤ b) wr.drew _ (SlR.keeps Tm.rep_lasts HTS.out (Keeps.drew _ _))).mono ?_
      rintro e w5 ⟨lv, rfl, hb5, hlv⟩
      have HB5 := hid (show Below wr.heap.size wr w5 from ((Below.refl _ wr).drew).trans hb5)
      have HLV := hid (show TmsR (New wr.drew) w5 (tidy ts) lv from hlv)
      obtain ⟨la, lc, -, -, hlve, -⟩ := SlR.at hlv
      subst hlve
      have HSV5 := hid (HSV2.out.below HB5.out)
      have HO5 := hid HSV5.out.out
      have hz5 := hb5.size
      simp only [World.size_drew] at hz5
      have hF5 := hid (show w5.cell? ⟨g, 6, none⟩ = some (.slice oa s.out.length oc) from (box8 HSV5.out.box).2.2.2.2.2.2.1)
      clear hb5 hlv
      refine ⟨fun _ _ _ _ => hF5.out, ?_⟩
      try simp only [Act.put, List.setIfInBounds_toArray, List.set_cons_zero, List.set_cons_succ]
      refine wpAnyF_take (i := 7) (v := ?_) rfl (by kernel_rfl) (by kernel_rfl) (by kernel_rfl) (fun _ _ _ h => h) (Or.inl ⟨by rfl, ?_⟩) (fun _ => hF5.out) ?_
      rotate_left
      · (intro w' hw; clear hw; go_simp <;> with_reducible rfl)
      try simp only [Act.put, List.setIfInBounds_toArray, List.set_cons_zero, List.set_cons_succ]
      refine wpAnyF_one (i := 8) (by kernel_rfl) (wpOp_run rfl (by rfl) ?_)
      go_simp
      refine ⟨fun _ _ _ _ => (Keeps.alloc (fun _ => True) w5 _).cell trivial hF5.out, ?_⟩
      try simp only [Act.put, List.setIfInBounds_toArray, List.set_cons_zero, List.set_cons_succ]
      refine wpAnyF_one (i := 9) (by kernel_rfl) (wpOp_run rfl (by rfl) ?_)
      refine wp_app1 (.tmp 29) (.tmp 33) 55 rfl base 69 2 32 tyEvs evR_lasts (A := SA g mb g tv cv (.slice oa s.out.length oc)) (.slice oa s.out.length oc) s.out rfl HO5.out ⟨1, tidy ts⟩ [.int .i64 1, .slice la (tidy ts).length lc] rfl rfl ⟨_, rfl, SlR.mono Tm.rep_lasts (by omega) HLV.out (fun b _ hb => ⟨⟨fun hs => by have h1 := (HSV2.out.sm_lt b hs).2; have h2 : wr.drew.heap.size ≤ b := hb; simp only [World.size_drew] at h2; omega, fun e => by have h2 : wr.drew.heap.size ≤ b := hb; simp only [World.size_drew] at h2; omega⟩, fun e => by have h1 := (HSV2.out.out.lt b e).2; have h2 : wr.drew.heap.size ≤ b := hb; simp only [World.size_drew] at h2; omega⟩), show I64 1 by unfold I64; omega⟩ ⟨by have := HOUT.out; omega, by have := HSV5.out.lt; omega⟩ ?_
      intro v2 w6 hown2 hgrew
      have hog : ownB (.slice oa s.out.length oc) ≠ some g := fun e => HSV5.out.apart.og e
      have HG6 := hid (show w6.heap[g]? = _ from (hgrew.grown.block g (by simp; omega) (fun e => HSV5.out.apart.og e.symm)).trans (blk_alloc HSV5.out.box _))
      obtain ⟨va2, vc2, hv2, hvl2, hvm2⟩ := OwnR.val' hown2
      rw [show (s.out ++ [(⟨1, tidy ts⟩ : Ev)]).length = s.out.length + 1 by simp] at hv2
      subst hv2
      have HO2 := hid hown2
      have HG2 := hid hgrew
      have HST6 := hid (HSV5.out.tell (by have := HOUT.out; omega) hown2 hgrew)
      have hgg6 : g < w6.heap.size := blk_lt HG6.out
      have hzz6 := hgrew.size
      refine ⟨fun _ _ _ _ => ?_, ?_⟩
      · exact (hgrew.keeps (A := fun b => ownB (.slice oa s.out.length oc) ≠ some b) (fun _ h => h)).cell hog ((Keeps.alloc (fun _ => True) w5 _).cell trivial hF5.out)
      clear hown2 hgrew b0 b1 b2 b3 b4 b5 b6 b7 bf
      obtain ⟨b0, b1, b2, b3, b4, b5, b6, b7, bf⟩ := box8 HG6.out
      try simp only [Act.put, List.setIfInBounds_toArray, List.set_cons_zero, List.set_cons_succ]
      refine wpAnyF_take (i := 10) (v := ?_) rfl (by kernel_rfl) (by kernel_rfl) (by kernel_rfl) (fun _ _ _ h => h) (Or.inl ⟨by rfl, ?_⟩) (fun h => by omega) ?_
      rotate_left
      · (intro w' hw; clear hw; go_simp <;> with_reducible rfl)
      try simp only [Act.put, List.setIfInBounds_toArray, List.set_cons_zero, List.set_cons_succ]
      refine wpAnyF_take (i := 11) (v := ?_) rfl (by kernel_rfl) (by kernel_rfl) (by kernel_rfl) (fun _ _ _ h => h) (Or.inl ⟨by rfl, ?_⟩) (fun h => by omega) ?_
      rotate_left
      · (intro w' hw; clear hw; go_simp <;> with_reducible rfl)
      try simp only [Act.put, List.setIfInBounds_toArray, List.set_cons_zero, List.set_cons_succ]
      refine wpAnyF_one (i := 12) (by kernel_rfl) (wpOp_run rfl (by rfl) ?_)
      go_simp
      refine ⟨fun k0 hk0 _ h12 => ?_, wpAnyF_done (by kernel_rfl) ?_ _⟩
      · subst h12
        exact absurd (show waits _ 12 4 = true by kernel_rfl) (by rw [hk0]; decide)
      clear b0 b1 b2 b3 b4 b5 b6 b7 bf
      generalize w6.setCell ⟨g, 6, none⟩ (.slice va2 (s.out.length + 1) vc2) = w7 at *
      obtain ⟨t7, c7, o7, hsv7, hch7, hta7, hca7, hoa7⟩ := HST6.out
      have HSV7 := hid hsv7
      have HSTEP := hid (fun (s' : Sv) (w' : World) (hh : SStep base P q g mb pv t7 c7 o7 s' w7 w') =>
        (SStep.trans HCHW.out (fun b h => .inl h) (fun b h => .inl h) (fun b h => .inl h) (SStep.trans (Ch.of_below HB5.out) (fun b h => .inl h) (fun b h => .inl h) (fun b h => .inl h) (SStep.trans hch7 hta7 hca7 hoa7 hh)) : SStep base P q g mb pv tv cv (.slice oa s.out.length oc) s' w w'))
      obtain ⟨_, _, _, _, _, _, o7a, o7c, -, -, -, ho7, -⟩ := hsv7.vals
      subst ho7
      obtain ⟨b0, b1, b2, b3, b4, b5, b6, b7, bf⟩ := box8 hsv7.box
      have hgl7 := hsv7.lt.1
      simp only [List.length_append, List.length_singleton] at b6
      have hout18 : s.out.length ≤ 18 := by have := HOUT.out; omega
      clear hsv7 hch7 hta7 hca7 hoa7
      by_cases h12 : s.out.length + 1 ≥ 12
      · have hres := hid (HAF2.out.trans (if_pos h12))
        go_wp2_with fail
        refine (send_ok 6 (by unfold I64; omega) HSV7.out (by simp; omega)).mono ?_
        rintro e W9 ⟨rfl, hst⟩
        have HST := hid (HSTEP.out _ _ hst)
        clear hst
        go_wp2_with fail
        go_ret
        rw [hres.out]
        exact ⟨rfl, HST.out⟩
      · have hres := hid (HAF2.out.trans (if_neg h12))
        go_wp2_with fail
        go_ret
        rw [hres.out]
        exact ⟨rfl, HSTEP.out _ _ (SStep.refl HSV7.out)⟩
end
end Go.Proofs.YtlpmfkpefoegeabDoor
