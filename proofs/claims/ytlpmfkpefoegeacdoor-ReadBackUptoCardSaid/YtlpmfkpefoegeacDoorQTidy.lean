/-
  term.Tidy.
-/
import Derived.Test.YtlpmfkpefoegeacDoorQTidy1
namespace Go.Proofs.YtlpmfkpefoegeacDoor
set_option linter.unusedVariables false
set_option linter.unusedSimpArgs false
open Go.RowKit
set_option maxHeartbeats 1000000 in
theorem tidyS_ok (l : List Tm) (hnd : (Tm.renSL seenF [] l).2.length ≤ 4194303) (A : Nat → Prop) (w : World) (v : Value) (hv : TmsR A w l v) :
    Calls Tryd.prog 7 #[v] w (Pure w fun v' w' => TmsR (New w) w' (Tm.renSL seenF [] l).1 v') := by
  obtain ⟨a, cap, b, off, rfl, hlc, hcm, hlb, ha, he⟩ := hv.at
  have HE := hid he
  have HA := hid ha
  have HV := hid hv
  clear hv he ha
  go_enter Tryd.func7, Tryd.ntmps7
  go_wp2_with fail
  go_loopw [5, 11] (fun v i wr => ∃ (j : Nat) (sj : List Int) (Mj : Nat → Prop), j ≤ l.length ∧ i = .int .i64 j ∧ w.heap.size + 2 ≤ wr.heap.size ∧ Below w.heap.size w wr ∧ (∀ b, Mj b → w.heap.size ≤ b) ∧ TdInv (w.heap.size + 2) w.heap.size (w.heap.size + 1) sj Mj wr ∧
      sj = (Tm.renSL seenF [] (l.take j)).2 ∧ (∀ b, ownB v = some b → ¬ Mj b) ∧
      OwnR wr (w.heap.size + 2) 27 4 Tm.rep (fun b => w.heap.size + 2 ≤ b ∧ ¬ Mj b) (Tm.renSL seenF [] (l.take j)).1 v) (fun _ i _ => l.length - (intOf i).toNat)
  case atStart =>
    have hq := heap2 w (.cells #[.slice none 0 0] 43) (.cells #[.func (.func 19) #[] #[.pointer (some ⟨w.heap.size, 0, none⟩), .pointer (some ⟨w.heap.size + 1, 0, none⟩)]] 44)
    refine ⟨0, [], fun b => (b = w.heap.size ∨ ownB (.slice none 0 0) = some b) ∨ b = w.heap.size + 1, Nat.zero_le _, rfl, by simp, below_pure (below_pure (Below.refl _ _)), fun b hb => ?_, ⟨_, ⟨_, hq.1, OwnR.nil .., by simp, by omega, fun b => Iff.rfl⟩, (blk_cell hq.2 0).trans rfl, fun b => Iff.rfl, fun h => ?_⟩, by simp [Tm.renSL], by simp [ownB], by simpa [Tm.renSL] using OwnR.nil ..⟩
    · rcases hb with (rfl | hb) | rfl
      · omega
      · simp [ownB] at hb
      · omega
    · rcases h with h | h
      · omega
      · simp [ownB] at h
  case round =>
    obtain ⟨j, sj, Mj, hj, rfl, hz, hb, hMj, hst, hsj, hob, hown⟩ := hrel
    have hvl : (Tm.renSL seenF [] (l.take j)).1.length = j := by rw [Tm.renSL_length]; simp; omega
    have HB := hid hb
    have HMJ := hid hMj
    have HST := hid hst
    have HSJ := hid hsj
    have HOB := hid hob
    have HO := hid hown
    have HVL := hid hvl
    clear hb hMj hst hsj hob hown hvl
    by_cases hlt : j < l.length
    · obtain ⟨rfl, hAb⟩ := HA.out (by omega)
      obtain ⟨sa, sc, c0, c1, c2, c3, hr⟩ := tm_cells HE.out hAb (Keeps.of_below HB.out) hlt
      have lb : b < wr.heap.size := World.block_lt_of_cell? wr _ c0
      -- what the term leads to lies below
      have hr0 := HE.out
      obtain ⟨vs0, hl0, hrep0, hrow0⟩ := hr0 j _ (List.getElem?_eq_getElem hlt)
      obtain ⟨sa0, sc0, rfl, -⟩ := Tm.rep4 hrep0
      obtain ⟨-, -, -, d3⟩ := rowAt4 (RowAt.keeps hAb hrow0 (Keeps.of_below (A := A) HB.out))
      have hsame : Value.slice sa l[j].args.length sc = Value.slice sa0 l[j].args.length sc0 := Option.some.inj (c3.symm.trans d3)
      simp only [Value.slice.injEq, true_and] at hsame
      obtain ⟨rfl, rfl⟩ := hsame
      have hrep1 := Tm.rep_lasts.2.1 _ (fun b => A b ∧ b < w.heap.size) _ _ _ hrep0 (fun b hb h => ⟨h, hb⟩)
      have HR := hid (Tm.rep_lasts.1 _ _ wr _ _ hrep1 (Keeps.of_below HB.out))
      clear hr hr0 hl0 hrep0 hrow0 d3 hrep1
      have hcw := fun o => (Keeps.alloc (fun _ => True) wr o).cell trivial HST.out.cw
      go_wp2_with fail
      have hnd2 : (Tm.renS seenF sj l[j]).2.length ≤ 4194303 := by
        have h1 := Tm.renSL_part l [] j hlt
        rw [HSJ.out]
        omega
      refine (tidy1_ok _ _ _ l[j] sj Mj (fun b => A b ∧ b < w.heap.size) _ [_, _, _, _] ((tdInv_law _ _ _).keeps _ _ _ _ HST.out (Keeps.alloc _ _ _)) hnd2 (Tm.rep_lasts.1 _ _ _ _ _ HR.out (Keeps.alloc _ _ _)) (fun b hb => ⟨by simp; omega, fun h => by have := HMJ.out b h; omega⟩)).mono ?_
      rintro e w1 ⟨us, M2, rfl, hch, hM2, hst2, hr⟩
      obtain ⟨sa', sc', rfl, -⟩ := Tm.rep4 hr
      have hsz := hch.size
      simp only [World.size_alloc] at hsz hM2 hr
      have hlt2 := HO.out.lt
      have hM2l := (tdInv_law _ _ _).lt _ _ _ hst2
      have hMM : ∀ b, M2 b → w.heap.size ≤ b := fun b hb => by
        rcases hM2 b hb with h1 | h1
        · exact HMJ.out b h1
        · omega
      have hn2 : ∀ b, b < wr.heap.size + 1 → ¬ Mj b → ¬ M2 b := fun b hb hn h => by
        rcases hM2 b h with h1 | h1
        · exact hn h1
        · omega
      have hHO := HO.out.alloc Tm.rep_lasts (.cells #[.int .i64 l[j].kind, .int .i64 l[j].n, .string l[j].s, .slice sa l[j].args.length sc] 27)
      have HO1 := hid (((hHO.mono (A' := fun b => w.heap.size + 2 ≤ b ∧ ¬ M2 b ∧ ¬ Mj b) Tm.rep_lasts (fun b hb hb' => ⟨hb'.1, hn2 b (by simpa using hb) hb'.2, hb'.2⟩)).keeps (B := fun b => ¬ Mj b) Tm.rep_lasts (hch.keeps fun _ _ h => h) (fun _ h => h.2.2) HOB.out).mono (A' := fun b => w.heap.size + 2 ≤ b ∧ ¬ M2 b) Tm.rep_lasts (fun b _ hb => ⟨hb.1, hb.2.1⟩))
      have HOB2 : Hid (∀ b, ownB u5 = some b → ¬ M2 b) := fun b hb => hn2 b (by have := (hlt2 b hb).2; omega) (HOB.out b hb)
      have HN := hid (show Tm.rep (fun b => (w.heap.size + 2 ≤ b ∧ ¬ M2 b) ∧ ownB u5 ≠ some b) w1 _ _ from Tm.rep_lasts.2.1 _ _ _ _ _ hr fun b _ hb => ⟨⟨by omega, hb.2⟩, fun e => by have := (hlt2 b e).2; omega⟩)
      have HL := hid (show (Tm.renSL seenF [] (l.take j)).1.length < 4194304 ∧ w.heap.size + 2 ≤ w1.heap.size by rw [HVL.out]; omega)
      have HB2 := hid (show Below w.heap.size w w1 from ((Ch.of_below (M := fun _ => False) (HB.out.alloc (by omega) _)).trans hch (fun b hb => .inr (HMJ.out b hb))).below (fun _ _ h => h))
      have HST2 := hid hst2
      have HM2l := hid hM2l
      have HMM := hid hMM
      clear hr hch hHO hst2 hM2l hMM hn2 hM2
      go_wp2_with (at_builtin; refine wpList_app1 rfl (.tmp 15) (.tmp 19) 22 rfl (w.heap.size + 2) 27 4 56 tyTerm Tm.rep_lasts u5 _ rfl HO1.out (Tm.renS seenF sj l[j]).1 [_, _, _, _] rfl rfl HN.out HL.out ?_; intro v2 w2 hown2 hgrew)
      go_roundw
      case rel =>
        have hk2 := hgrew.keeps (A := fun b => ownB u5 ≠ some b) (fun _ h => h)
        have hka := (Keeps.alloc (fun b => ownB u5 ≠ some b) w1 (.cells #[.int .i64 (Tm.renS seenF sj l[j]).1.kind, .int .i64 (Tm.renS seenF sj l[j]).1.n, .string (Tm.renS seenF sj l[j]).1.s, .slice sa' (Tm.renS seenF sj l[j]).1.args.length sc'] 27)).trans hk2
        refine ⟨j + 1, (Tm.renS seenF sj l[j]).2, M2, by omega, by go_num, by have := hgrew.size; simp only [World.size_alloc] at this; omega, hgrew.below (HB2.out.alloc (by omega) _) (by simp; omega) (fun b hb => by have := (hlt2 b hb).1; omega), HMM.out, (tdInv_law _ _ _).keeps _ _ _ _ HST2.out (hka.mono fun b _ hb e => HOB2.out b e hb), ?_, fun b hb hm => ?_, ?_⟩
        · rw [List.take_succ_eq_append_getElem hlt, Tm.renSL_snoc, ← HSJ.out]
        · rcases hgrew.block with h1 | h1
          · exact HOB2.out b (h1.symm.trans hb) hm
          · have h2 := h1 b hb
            have h3 := HM2l.out b hm
            simp only [World.size_alloc] at h2
            omega
        · rw [List.take_succ_eq_append_getElem hlt, Tm.renSL_snoc, ← HSJ.out]; exact hown2
      case measure => simp [intOf]; omega
    · have : j = l.length := by omega
      subst this
      go_wp2_with fail
      go_ret
      have hO := HO.out
      rw [List.take_length] at hO
      exact ⟨_, rfl, HB.out, (hO.mono Tm.rep_lasts (fun b _ hb => show New w b by unfold New; omega)).sl Tm.rep_lasts (by rw [Tm.renSL_length]; exact hlb) (fun b hb => by unfold New; omega)⟩
theorem tidy_ok (l : List Tm) (hnd : Tm.nodesL l ≤ 4194303) (A : Nat → Prop) (w : World) (v : Value) (hv : TmsR A w l v) :
    Calls Tryd.prog 7 #[v] w (Pure w fun v' w' => TmsR (New w) w' (Tm.renSL seenF [] l).1 v') :=
  tidyS_ok l (by have h1 := Tm.renSL_szL (sz := List.length) seenF_sz l []; simp only [List.length_nil] at h1; omega) A w v hv
end Go.Proofs.YtlpmfkpefoegeacDoor
