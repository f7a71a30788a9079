/-
  queristref.Renamed, handed one closure.
-/
import Derived.Test.YtlpmfkpefoegeabDoorQNamed
namespace Go.Proofs.YtlpmfkpefoegeabDoor
set_option linter.unusedVariables false
set_option linter.unusedSimpArgs false
open Go.RowKit
def CloS {σ : Type} (I : σ → (Nat → Prop) → World → Prop) (f : σ → Int → Int × σ) (sz : σ → Nat) (p5 p3 : Addr) : Prop := ∀ (st : σ) (M : Nat → Prop) (w : World) (n : Int), I st M w → sz st < 4194304 → I64 n →
  Calls Tryd.prog 128 #[.int .i64 n, .pointer (some p5), .pointer (some p3)] w (NumPost I M w (f st n))
def RenSOK {σ : Type} (I : σ → (Nat → Prop) → World → Prop) (f : σ → Int → Int × σ) (sz : σ → Nat) (p5 p3 : Addr) (t : Tm) : Prop := ∀ (st : σ) (M A : Nat → Prop) (w : World) (vs : List Value), I st M w → sz st + t.nodes ≤ 4194304 → Tm.rep A w t vs → (∀ b, A b → b < w.heap.size ∧ ¬ M b) →
  Calls Tryd.prog 127 #[.agg vs.toArray, .func (.func 128) #[] #[.pointer (some p5), .pointer (some p3)]] w (RenPost I M w (t.renS f st))
set_option maxHeartbeats 1600000 in
theorem renS_of {σ : Type} {I : σ → (Nat → Prop) → World → Prop} {f : σ → Int → Int × σ} {sz : σ → Nat} {p5 p3 : Addr} (hI : StLaw I) (hsz : ∀ st n, sz (f st n).2 ≤ sz st + 1) (hc : CloS I f sz p5 p3)
    (k n : Int) (s : ByteArray) (l : List Tm) (ih : ∀ t ∈ l, RenSOK I f sz p5 p3 t) : RenSOK I f sz p5 p3 (.mk k n s l) := by
  intro st M A w vs hst hnd hv hA
  rw [Tm.rep_iff] at hv
  obtain ⟨hk, hn, hs, v, rfl, hl⟩ := hv
  obtain ⟨a, cap, b, off, rfl, hlc, hcm, hlb, ha, he⟩ := hl.at
  have HE := hid he
  have HA := hid ha
  have IH := hid ih
  have HI := hid hI
  have HSZ := hid hsz
  have HC := hid hc
  have HST := hid hst
  have HAM := hid hA
  have HND := hid hnd
  have HMlt := hid (hI.lt _ _ _ hst)
  clear he ha hl ih hI hsz hc hst hA hnd
  -- what the loop is met with: the number, the state
  obtain ⟨m, st1, hm⟩ : ∃ m st1, (m, st1) = Tm.num f st k n := ⟨_, _, rfl⟩
  have HM := hid hm
  clear hm
  by_cases e : k = 0
  all_goals
    try have e' : (k == 0) = false := by simpa using e
    try have e' : (k == 0) = true := by simpa using e
    have HE' := hid e
    clear e
    go_enter Tryd.func127, Tryd.ntmps127
    go_wp2_with fail
  · have hst0 := HI.out.keeps _ _ _ ((w.alloc (.cells #[.int .i64 k, .int .i64 n, .string s, .slice a l.length cap] 31)).alloc (.cells #[.int .i64 0, .int .i64 0, .string ByteArray.empty, .slice none 0 0] 31)) HST.out ((Keeps.alloc _ _ _).trans (Keeps.alloc _ _ _))
    have hcl := HC.out st M _ n hst0 (by have := HND.out; simp only [Tm.nodes] at this; omega) hn
    rw [show f st n = (m, st1) by rw [HM.out, Tm.num, if_pos HE'.out]] at hcl
    refine hcl.mono ?_
    rintro e w1 ⟨rfl, hm64, M1, hch, hM1, hst1⟩
    have hq1 := (heap2 w (.cells #[.int .i64 k, .int .i64 n, .string s, .slice a l.length cap] 31) (.cells #[.int .i64 0, .int .i64 0, .string ByteArray.empty, .slice none 0 0] 31))
    have hMl := HMlt.out
    have hz1 := hch.size
    simp only [World.size_alloc] at hz1
    have HB1 := hid ((hch.block _ (by simp <;> omega) (fun h => by have := hMl _ h; omega)).trans hq1.1)
    have HB2 := hid ((hch.block _ (by simp <;> omega) (fun h => by have := hMl _ h; omega)).trans hq1.2)
    have HM1 : Hid (∀ b, M1 b → M b ∨ w.heap.size + 2 ≤ b) := fun b hb => by have := hM1 b hb; simpa [Nat.add_assoc] using this
    have HCH := hid ((((Ch.refl M w).alloc _).alloc _).trans hch (fun b hb => .inl hb))
    have HST1 := hid hst1
    have HM64 := hid (show I64 m from hm64)
    obtain ⟨x0, x1, x2, x3, xf⟩ := blk4 HB1.out
    have hcs := cell_set
    have HS4 : Hid (sz st1 ≤ sz st + 1) := by
      have h5 := congrArg Prod.snd HM.out
      simp only [Tm.num, if_pos HE'.out] at h5
      rw [h5]
      exact HSZ.out st n
    clear hst0 hq1 hMl hch hM1 hst1 hm64 hcl HST
    go_wp2_with fail
    go_loopw [21] (fun i wr => ∃ (j : Nat) (v : Value) (sj : σ) (Mj : Nat → Prop), j ≤ l.length ∧ i = .int .i64 j ∧ w.heap.size + 2 ≤ wr.heap.size ∧ Ch M w wr ∧ (∀ b, Mj b → M b ∨ w.heap.size + 2 ≤ b) ∧ I sj Mj wr ∧
        wr.heap[w.heap.size + 1]? = some (.cells #[.int .i64 0, .int .i64 0, .string ByteArray.empty, .slice none 0 0] 31 (0, 0)) ∧
        wr.heap[w.heap.size]? = some (.cells #[.int .i64 k, .int .i64 m, .string s, v] 31 (0, 0)) ∧ sj = (Tm.renSL f st1 (l.take j)).2 ∧ (∀ b, ownB v = some b → ¬ Mj b) ∧
        OwnR wr (w.heap.size + 2) 31 4 Tm.rep (fun b => w.heap.size + 2 ≤ b ∧ ¬ Mj b) (Tm.renSL f st1 (l.take j)).1 v) (fun i _ => l.length - (intOf i).toNat)
    case atStart =>
      refine ⟨0, .slice none 0 0, st1, M1, Nat.zero_le _, rfl, by simp; omega, (HCH.out.setCell (by simp) _).setCell (by simp) _, HM1.out, HI.out.keeps _ _ _ _ HST1.out ((Keeps.setCell _ _ _ _ ?_).trans (Keeps.setCell _ _ _ _ ?_)), ?_, ?_, by simp [Tm.renSL], by simp [ownB], by simpa [Tm.renSL] using OwnR.nil ..⟩
      · exact fun (h : M1 w.heap.size) => (HM1.out _ h).elim (fun h1 => by have := HMlt.out _ h1; omega) (fun h1 => by omega)
      · exact fun (h : M1 w.heap.size) => (HM1.out _ h).elim (fun h1 => by have := HMlt.out _ h1; omega) (fun h1 => by omega)
      · exact blk_keeps (A := fun b => b ≠ w.heap.size) HB2.out ((Keeps.setCell _ _ _ _ (by simp)).trans (Keeps.setCell _ _ _ _ (by simp))) (by omega)
      · exact blk_set (blk_set HB1.out 1 _) 3 _
    case round =>
      obtain ⟨j, v, sj, Mj, hj, rfl, hz, hch, hMj, hst, hB2, hB1, hsj, hob, hown⟩ := hrel
      have hvl : (Tm.renSL f st1 (l.take j)).1.length = j := by rw [Tm.renSL_length]; simp; omega
      obtain ⟨va, vc, hv, hvc⟩ := hown.val
      rw [hvl] at hv
      subst hv
      have HCJ := hid hch
      have HB1J := hid hB1
      have HB2J := hid hB2
      have HMJ := hid hMj
      have HSTJ := hid hst
      have HSJ := hid hsj
      have HOB := hid hob
      have HO := hid hown
      have HVL := hid hvl
      obtain ⟨g0, g1, g2, g3, gf⟩ := blk4 HB1J.out
      clear hch hMj hst hB2 hB1 hsj hob hown hvl
      by_cases hlt : j < l.length
      · obtain ⟨rfl, hAb⟩ := HA.out (by omega)
        obtain ⟨sa, sc, c0, c1, c2, c3, hr⟩ := tm_cells HE.out hAb (HCJ.out.keeps fun b _ h => (HAM.out b h).2) hlt
        have HR := hid hr
        have lb : b < wr.heap.size := World.block_lt_of_cell? wr _ c0
        clear hr
        try clear HB1 HB2 HCH HST1
        try clear x0 x1 x2 x3 xf hcs
        go_wp2_with fail
        generalize hW : wr.alloc (.cells #[.int .i64 l[j].kind, .int .i64 l[j].n, .string l[j].s, .slice sa l[j].args.length sc] 31) = W0
        have hW1 : W0.drew.cell? ⟨w.heap.size, 3, none⟩ = some (.slice va j vc) := by subst hW; exact (Keeps.alloc (fun _ => True) _ _).cell trivial g3
        obtain ⟨hx0, hx1, hx2, hx3, -⟩ := blk4 (show W0.drew.heap[wr.heap.size]? = _ by subst hW; exact blk_new _ _)
        refine wp_region_F (F := fun k w' => (k = 1 ∨ k = 2) → w'.cell? ⟨w.heap.size, 3, none⟩ = some (.slice va j vc) ∧ w'.cell? ⟨wr.heap.size, 0, none⟩ = some (.int .i64 l[j].kind) ∧ w'.cell? ⟨wr.heap.size, 1, none⟩ = some (.int .i64 l[j].n) ∧ w'.cell? ⟨wr.heap.size, 2, none⟩ = some (.string l[j].s) ∧ w'.cell? ⟨wr.heap.size, 3, none⟩ = some (.slice sa l[j].args.length sc)) (by kernel_rfl) ?_
        refine wpAnyF_take (i := 0) (v := ?_) rfl (by kernel_rfl) (by kernel_rfl) (by kernel_rfl) (fun _ _ _ h => h) (Or.inl ⟨by rfl, ?_⟩) (fun _ => ⟨hW1, hx0, hx1, hx2, hx3⟩) ?_
        rotate_left
        · (intro w' hw; clear hw; go_simp <;> with_reducible rfl)
        simp only [Act.put, List.setIfInBounds_toArray, List.set_cons_zero, List.set_cons_succ]
        refine wpAnyF_take (i := 1) (v := ?_) rfl (by kernel_rfl) (by kernel_rfl) (by kernel_rfl) (fun _ _ _ h => h) (Or.inl ⟨by rfl, ?_⟩) (fun _ => ⟨hW1, hx0, hx1, hx2, hx3⟩) ?_
        rotate_left
        · (intro w' hw; obtain ⟨q0, q1, q2, q3, q4⟩ := hw (by omega); go_simp <;> with_reducible rfl)
        simp only [Act.put, List.setIfInBounds_toArray, List.set_cons_zero, List.set_cons_succ]
        refine wpAnyF_take (i := 2) (v := ?_) rfl (by kernel_rfl) (by kernel_rfl) (by kernel_rfl) (fun _ _ _ h => h) (Or.inl ⟨by rfl, ?_⟩) (fun _ => ⟨hW1, hx0, hx1, hx2, hx3⟩) ?_
        rotate_left
        · (intro w' hw; obtain ⟨q0, q1, q2, q3, q4⟩ := hw (by omega); go_simp <;> with_reducible rfl)
        simp only [Act.put, List.setIfInBounds_toArray, List.set_cons_zero, List.set_cons_succ]
        refine wpAnyF_take (i := 3) (v := ?_) rfl (by kernel_rfl) (by kernel_rfl) (by kernel_rfl) (fun _ _ _ h => h) (Or.inl ⟨by rfl, ?_⟩) (fun _ => ⟨hW1, hx0, hx1, hx2, hx3⟩) ?_
        rotate_left
        · (intro w' hw; clear hw; go_simp <;> with_reducible rfl)
        simp only [Act.put, List.setIfInBounds_toArray, List.set_cons_zero, List.set_cons_succ]
        refine wpAnyF_one (i := 4) (by kernel_rfl) (wpOp_run rfl (by rfl) ?_)
        go_simp
        have hKd : Keeps (fun _ => True) wr W0.drew := by subst hW; exact (Keeps.alloc _ _ _).trans (Keeps.drew _ _)
        have hsW : W0.heap.size = wr.heap.size + 1 := by subst hW; simp
        have hrd : Tm.rep A W0.drew l[j] _ := Tm.rep_lasts.1 _ _ _ _ _ HR.out (hKd.mono fun _ _ _ => trivial)
        have hnd : sz sj + l[j].nodes ≤ 4194304 := by
          have h1 := Tm.renSL_szL HSZ.out (l.take j) st1
          rw [← HSJ.out] at h1
          have h2 := Tm.nodesL_take l j hlt
          have h3 := HND.out
          have h4 := HS4.out
          simp only [Tm.nodes] at h3
          omega
        have hMA : ∀ b, A b → b < W0.drew.heap.size ∧ ¬ Mj b := fun b hb => by
          have h1 := HAM.out b hb
          refine ⟨by simp only [World.size_drew]; omega, fun h2 => ?_⟩
          rcases HMJ.out b h2 with h3 | h3
          · exact h1.2 h3
          · omega
        refine (IH.out _ (List.getElem_mem hlt) sj Mj A _ _ (HI.out.keeps _ _ _ _ HSTJ.out (hKd.mono fun _ _ _ => trivial)) hnd hrd hMA).mono ?_
        rintro e w1 ⟨us, M2, rfl, hch1, hM2, hst2, hr⟩
        obtain ⟨sa', sc', rfl, -⟩ := Tm.rep4 hr
        have hsz := hch1.size
        simp only [World.size_drew] at hsz hM2 hr
        have hlt2 := HO.out.lt
        have hM2l := HI.out.lt _ _ _ hst2
        have hMM : ∀ b, M2 b → M b ∨ w.heap.size + 2 ≤ b := fun b hb => by
          rcases hM2 b hb with h1 | h1
          · exact HMJ.out b h1
          · exact .inr (by omega)
        have hn2 : ∀ b, b < W0.heap.size → ¬ Mj b → ¬ M2 b := fun b hb hn h => by
          rcases hM2 b h with h1 | h1
          · exact hn h1
          · omega
        have hHO : OwnR W0.drew _ _ _ _ _ _ _ := HO.out.keeps Tm.rep_lasts hKd (fun _ _ => trivial) (fun _ _ => trivial)
        have hHO2 : OwnR w1 _ _ _ _ (fun b => w.heap.size + 2 ≤ b ∧ ¬ M2 b) _ _ :=
          ((hHO.mono (A' := fun b => w.heap.size + 2 ≤ b ∧ ¬ M2 b ∧ ¬ Mj b) Tm.rep_lasts (fun b hb hb' => ⟨hb'.1, hn2 b hb hb'.2, hb'.2⟩)).keeps (B := fun b => ¬ Mj b) Tm.rep_lasts (hch1.keeps fun _ _ h => h) (fun _ h => h.2.2) HOB.out).mono Tm.rep_lasts (fun b _ hb => ⟨hb.1, hb.2.1⟩)
        have HO1 := hid hHO2
        have HOB2 : Hid (∀ b, ownB (.slice va j vc) = some b → ¬ M2 b) := fun b hb => hn2 b (by have := (hlt2 b hb).2; omega) (HOB.out b hb)
        have HN := hid (show Tm.rep (fun b => (w.heap.size + 2 ≤ b ∧ ¬ M2 b) ∧ ownB (.slice va j vc) ≠ some b) w1 _ _ from Tm.rep_lasts.2.1 _ _ _ _ _ hr fun b _ hb => ⟨⟨by omega, hb.2⟩, fun e => by have := (hlt2 b e).2; omega⟩)
        have HL := hid (show (Tm.renSL f st1 (l.take j)).1.length < 4194304 ∧ w.heap.size + 2 ≤ w1.heap.size by rw [HVL.out]; omega)
        have hnb : ∀ b, b < w.heap.size + 2 → w.heap.size ≤ b → ¬ Mj b := fun b h1 h2 h3 => by
          rcases HMJ.out b h3 with h4 | h4
          · have := HMlt.out b h4; omega
          · omega
        have HCH2 : Hid (Ch M w w1) := hid (((show Ch M w W0.drew by subst hW; exact (HCJ.out.alloc _).drew)).trans hch1 (fun b hb => by rcases HMJ.out b hb with h | h; exact .inl h; exact .inr (by omega)))
        have hkj := hch1.keeps (A := fun b => ¬ Mj b) (fun _ _ h => h)
        have nwr : ¬ Mj wr.heap.size := fun h => by have := HI.out.lt _ _ _ HSTJ.out _ h; omega
        have HQ := hid (show w1.cell? ⟨w.heap.size, 3, none⟩ = some (.slice va j vc) ∧ w1.cell? ⟨wr.heap.size, 0, none⟩ = some (.int .i64 l[j].kind) ∧ w1.cell? ⟨wr.heap.size, 1, none⟩ = some (.int .i64 l[j].n) ∧ w1.cell? ⟨wr.heap.size, 2, none⟩ = some (.string l[j].s) ∧ w1.cell? ⟨wr.heap.size, 3, none⟩ = some (.slice sa l[j].args.length sc) from
          ⟨hkj.cell (hnb _ (by omega) (by omega)) hW1, hkj.cell nwr hx0, hkj.cell nwr hx1, hkj.cell nwr hx2, hkj.cell nwr hx3⟩)
        have HB1' := hid (show w1.heap[w.heap.size]? = _ from blk_keeps (w := W0.drew) (by subst hW; exact blk_alloc HB1J.out _) hkj (hnb _ (by omega) (by omega)))
        have HB2' := hid (show w1.heap[w.heap.size + 1]? = _ from blk_keeps (w := W0.drew) (by subst hW; exact blk_alloc HB2J.out _) hkj (hnb _ (by omega) (by omega)))
        have HST2 := hid hst2
        have HM2l := hid hM2l
        have HMM := hid hMM
        clear hrd hr hch1 hHO hHO2 hst2 hM2l hMM hn2 hnb hkj nwr hM2 hMA hnd hKd
        refine ⟨fun _ _ _ _ => HQ.out, ?_⟩
        refine wpAnyF_one (i := 5) (by kernel_rfl) (wpOp_run rfl (by rfl) ?_)
        go_simp
        refine ⟨fun _ _ _ _ => ?_, ?_⟩
        · obtain ⟨q0, q1, q2, q3, q4⟩ := HQ.out
          have ka := Keeps.alloc (fun _ => True) w1 (.cells #[.int .i64 (Tm.renS f sj l[j]).1.kind, .int .i64 (Tm.renS f sj l[j]).1.n, .string (Tm.renS f sj l[j]).1.s, .slice sa' (Tm.renS f sj l[j]).1.args.length sc'] 31)
          exact ⟨ka.cell trivial q0, ka.cell trivial q1, ka.cell trivial q2, ka.cell trivial q3, ka.cell trivial q4⟩
        refine wpAnyF_one (i := 6) (by kernel_rfl) (wpOp_run rfl (by rfl) ?_)
        refine wp_app1 (.tmp 26) (.tmp 30) 29 rfl (w.heap.size + 2) 31 4 56 tyTerm Tm.rep_lasts _ _ rfl HO1.out (Tm.renS f sj l[j]).1 [_, _, _, _] rfl rfl HN.out HL.out ?_
        intro v2 w2 hown2 hgrew
        have hk2 := hgrew.keeps (A := fun b => ownB (.slice va j vc) ≠ some b) (fun _ h => h)
        have hka := (Keeps.alloc (fun b => ownB (.slice va j vc) ≠ some b) w1 (.cells #[.int .i64 (Tm.renS f sj l[j]).1.kind, .int .i64 (Tm.renS f sj l[j]).1.n, .string (Tm.renS f sj l[j]).1.s, .slice sa' (Tm.renS f sj l[j]).1.args.length sc'] 31)).trans hk2
        have n1 : ownB (.slice va j vc) ≠ some w.heap.size := fun e => by have := (hlt2 _ e).1; omega
        have n2 : ownB (.slice va j vc) ≠ some wr.heap.size := fun e => by have := (hlt2 _ e).2; omega
        have n3 : ownB (.slice va j vc) ≠ some (w.heap.size + 1) := fun e => by have := (hlt2 _ e).1; omega
        have HB12 := hid (blk_keeps HB1'.out hka n1)
        have HB22 := hid (blk_keeps HB2'.out hka n3)
        have HCH3 := hid (hgrew.ch (HCH2.out.alloc (.cells #[.int .i64 (Tm.renS f sj l[j]).1.kind, .int .i64 (Tm.renS f sj l[j]).1.n, .string (Tm.renS f sj l[j]).1.s, .slice sa' (Tm.renS f sj l[j]).1.args.length sc'] 31)) (fun b hb => .inr (by have := (hlt2 b hb).1; omega)))
        have HST3 := hid (HI.out.keeps _ _ _ _ HST2.out (hka.mono fun b _ hb e => HOB2.out b e hb))
        have HOB3 : Hid (∀ b, ownB v2 = some b → ¬ M2 b) := fun b hb hm => by
          have h1 := hgrew.block
          rcases h1 with h1 | h1
          · exact HOB2.out b (h1.symm.trans hb) hm
          · have h2 := h1 b hb
            have h3 := HM2l.out b hm
            simp only [World.size_alloc] at h2
            omega
        obtain ⟨va2, vc2, hv2, hvc2⟩ := hown2.val
        rw [show ((Tm.renSL f st1 (l.take j)).1 ++ [(Tm.renS f sj l[j]).1]).length = j + 1 by rw [List.length_append, HVL.out]; rfl] at hv2
        subst hv2
        have hz2 := hgrew.size
        have HO2 := hid hown2
        simp only [World.size_alloc] at hz2
        obtain ⟨y0, y1, y2, y3, yf⟩ := blk4 HB12.out
        refine ⟨fun _ _ _ _ => ?_, ?_⟩
        · obtain ⟨q0, q1, q2, q3, q4⟩ := HQ.out
          exact ⟨hka.cell n1 q0, hka.cell n2 q1, hka.cell n2 q2, hka.cell n2 q3, hka.cell n2 q4⟩
        clear hown2 hka hk2
        simp only [Act.put, List.setIfInBounds_toArray, List.set_cons_zero, List.set_cons_succ]
        refine wpAnyF_take (i := 7) (v := ?_) rfl (by kernel_rfl) (by kernel_rfl) (by kernel_rfl) (fun _ _ _ h => h) (Or.inl ⟨by rfl, ?_⟩) (fun h => by omega) ?_
        rotate_left
        · (intro w' hw; clear hw; go_simp <;> with_reducible rfl)
        simp only [Act.put, List.setIfInBounds_toArray, List.set_cons_zero, List.set_cons_succ]
        refine wpAnyF_one (i := 8) (by kernel_rfl) (wpOp_run rfl (by rfl) ?_)
        go_simp
        refine ⟨fun k0 hk0 _ h12 => ?_, wpAnyF_done (by kernel_rfl) ?_ _⟩
        · rcases h12 with rfl | rfl
          · exact absurd (show waits _ 8 1 = true by kernel_rfl) (by rw [hk0]; decide)
          · exact absurd (show waits _ 8 2 = true by kernel_rfl) (by rw [hk0]; decide)
        have HB3 := hid (blk_set HB12.out 3 (.slice va2 (j + 1) vc2))
        have hz3 : (w2.setCell ⟨w.heap.size, 3, none⟩ (.slice va2 (j + 1) vc2)).heap.size = w2.heap.size := by simp
        have HK3 := hid (Keeps.setCell (fun b => b ≠ w.heap.size) w2 ⟨w.heap.size, 3, none⟩ (.slice va2 (j + 1) vc2) (by simp))
        clear hgrew
        go_wp2_with fail
        go_roundw
        case rel =>
          have hnw : ∀ b, M2 b → b ≠ w.heap.size := fun b hb e => by
            rcases HMM.out b hb with h | h
            · have := HMlt.out b h; omega
            · omega
          refine ⟨j + 1, _, _, M2, by omega, by go_num, by omega, HCH3.out.setCell (.inr (by simp)) _, HMM.out, HI.out.keeps _ _ _ _ HST3.out (HK3.out.mono fun b _ hb => hnw b hb), blk_keeps HB22.out HK3.out (by omega), HB3.out, ?_, HOB3.out, ?_⟩
          · rw [List.take_succ_eq_append_getElem hlt, Tm.renSL_snoc, ← HSJ.out]
          · rw [List.take_succ_eq_append_getElem hlt, Tm.renSL_snoc, ← HSJ.out]
            exact HO2.out.keeps Tm.rep_lasts HK3.out (fun b hb => by omega) (fun b hb => by have := (HO2.out.lt b hb).1; omega)
        case measure => simp [intOf]; omega
      · have : j = l.length := by omega
        subst this
        obtain ⟨z0, z1, z2, z3, zf⟩ := blk4 HB2J.out
        have hcs := cell_set
        try clear HB1 HB2 HCH HST1
        try clear x0 x1 x2 x3 xf
        go_wp2_with fail
        refine bodyPost_ret (v := .agg #[.int .i64 k, .int .i64 m, .string s, .slice va l.length vc]) (by simp [results, Tryd.results127, go_sem, hcs, z0, z1, z2, z3]) rfl ⟨[_, _, _, _], Mj, rfl, ?_, fun b hb => ?_, ?_, ?_⟩
        · refine Ch.setCell (Ch.setCell (Ch.setCell (Ch.setCell HCJ.out ?_ _) ?_ _) ?_ _) ?_ _ <;> simp
        · rcases HMJ.out b hb with h | h
          · exact .inl h
          · exact .inr (by omega)
        · have hs2 := HSJ.out
          rw [List.take_length] at hs2
          have h2 : (Tm.renS f st (.mk k n s l)).2 = sj := by rw [Tm.renS, ← HM.out]; exact hs2.symm
          rw [h2]
          have hnw : ∀ b, Mj b → b ≠ w.heap.size + 1 := fun b hb e => by
            rcases HMJ.out b hb with h | h
            · have := HMlt.out b h; omega
            · omega
          refine HI.out.keeps _ _ _ _ HSTJ.out (Keeps.trans (Keeps.trans (Keeps.trans (Keeps.setCell _ _ _ _ ?_) (Keeps.setCell _ _ _ _ ?_)) (Keeps.setCell _ _ _ _ ?_)) (Keeps.setCell _ _ _ _ ?_)) <;> exact fun h => hnw _ h rfl
        · have hO := HO.out
          rw [List.take_length] at hO
          have hsl := (hO.mono (A' := fun b => w.heap.size + 2 ≤ b ∧ ¬ Mj b) Tm.rep_lasts (fun b _ hb => hb))
          have hsl2 : SlR 4 Tm.rep (fun b => w.heap.size + 2 ≤ b ∧ ¬ Mj b) wr (Tm.renSL f st1 l).1 (.slice va l.length vc) := hO.sl' Tm.rep_lasts (by rw [Tm.renSL_length]; exact hlb) (fun b hb => ⟨by have := (HO.out.lt b hb).1; omega, HOB.out b hb⟩)
          rw [Tm.renS, ← HM.out]
          rw [Tm.rep_iff]
          refine ⟨hk, HM64.out, hs, _, rfl, ?_⟩
          refine SlR.mono Tm.rep_lasts (by omega) (SlR.keeps Tm.rep_lasts hsl2 ?_) (fun b _ hb => ⟨by omega, hb.2⟩)
          refine Keeps.trans (Keeps.trans (Keeps.trans (Keeps.setCell _ _ _ _ ?_) (Keeps.setCell _ _ _ _ ?_)) (Keeps.setCell _ _ _ _ ?_)) (Keeps.setCell _ _ _ _ ?_) <;> simp
  · have HB1 := hid (heap2 w (.cells #[.int .i64 k, .int .i64 n, .string s, .slice none 0 0] 31) (.cells #[.int .i64 0, .int .i64 0, .string ByteArray.empty, .slice none 0 0] 31)).1
    have HB2 := hid (heap2 w (.cells #[.int .i64 k, .int .i64 n, .string s, .slice none 0 0] 31) (.cells #[.int .i64 0, .int .i64 0, .string ByteArray.empty, .slice none 0 0] 31)).2
    have HMN : m = n ∧ st1 = st := by have := HM.out; rw [Tm.num, if_neg HE'.out] at this; simpa using this
    obtain ⟨rfl, rfl⟩ := HMN
    have HM64 := hid hn
    have HCH := hid (((Ch.refl M w).alloc (.cells #[.int .i64 k, .int .i64 m, .string s, .slice none 0 0] 31)).alloc (.cells #[.int .i64 0, .int .i64 0, .string ByteArray.empty, .slice none 0 0] 31))
    have HST1 := hid (HI.out.keeps _ _ _ ((w.alloc (.cells #[.int .i64 k, .int .i64 m, .string s, .slice none 0 0] 31)).alloc (.cells #[.int .i64 0, .int .i64 0, .string ByteArray.empty, .slice none 0 0] 31)) HST.out ((Keeps.alloc _ _ _).trans (Keeps.alloc _ _ _)))
    have HS4 : Hid (sz st1 ≤ sz st1 + 1) := Nat.le_succ _
    clear HST
    go_loopw [21] (fun i wr => ∃ (j : Nat) (v : Value) (sj : σ) (Mj : Nat → Prop), j ≤ l.length ∧ i = .int .i64 j ∧ w.heap.size + 2 ≤ wr.heap.size ∧ Ch M w wr ∧ (∀ b, Mj b → M b ∨ w.heap.size + 2 ≤ b) ∧ I sj Mj wr ∧
        wr.heap[w.heap.size + 1]? = some (.cells #[.int .i64 0, .int .i64 0, .string ByteArray.empty, .slice none 0 0] 31 (0, 0)) ∧
        wr.heap[w.heap.size]? = some (.cells #[.int .i64 k, .int .i64 m, .string s, v] 31 (0, 0)) ∧ sj = (Tm.renSL f st1 (l.take j)).2 ∧ (∀ b, ownB v = some b → ¬ Mj b) ∧
        OwnR wr (w.heap.size + 2) 31 4 Tm.rep (fun b => w.heap.size + 2 ≤ b ∧ ¬ Mj b) (Tm.renSL f st1 (l.take j)).1 v) (fun i _ => l.length - (intOf i).toNat)
    case atStart =>
      exact ⟨0, .slice none 0 0, st1, M, Nat.zero_le _, rfl, by simp, HCH.out, fun b hb => .inl hb, HST1.out, HB2.out, HB1.out, by simp [Tm.renSL], by simp [ownB], by simpa [Tm.renSL] using OwnR.nil ..⟩
    case round =>
      obtain ⟨j, v, sj, Mj, hj, rfl, hz, hch, hMj, hst, hB2, hB1, hsj, hob, hown⟩ := hrel
      have hvl : (Tm.renSL f st1 (l.take j)).1.length = j := by rw [Tm.renSL_length]; simp; omega
      obtain ⟨va, vc, hv, hvc⟩ := hown.val
      rw [hvl] at hv
      subst hv
      have HCJ := hid hch
      have HB1J := hid hB1
      have HB2J := hid hB2
      have HMJ := hid hMj
      have HSTJ := hid hst
      have HSJ := hid hsj
      have HOB := hid hob
      have HO := hid hown
      have HVL := hid hvl
      obtain ⟨g0, g1, g2, g3, gf⟩ := blk4 HB1J.out
      clear hch hMj hst hB2 hB1 hsj hob hown hvl
      by_cases hlt : j < l.length
      · obtain ⟨rfl, hAb⟩ := HA.out (by omega)
        obtain ⟨sa, sc, c0, c1, c2, c3, hr⟩ := tm_cells HE.out hAb (HCJ.out.keeps fun b _ h => (HAM.out b h).2) hlt
        have HR := hid hr
        have lb : b < wr.heap.size := World.block_lt_of_cell? wr _ c0
        clear hr
        try clear HB1 HB2 HCH HST1
        try clear x0 x1 x2 x3 xf hcs
        go_wp2_with fail
        generalize hW : wr.alloc (.cells #[.int .i64 l[j].kind, .int .i64 l[j].n, .string l[j].s, .slice sa l[j].args.length sc] 31) = W0
        have hW1 : W0.drew.cell? ⟨w.heap.size, 3, none⟩ = some (.slice va j vc) := by subst hW; exact (Keeps.alloc (fun _ => True) _ _).cell trivial g3
        obtain ⟨hx0, hx1, hx2, hx3, -⟩ := blk4 (show W0.drew.heap[wr.heap.size]? = _ by subst hW; exact blk_new _ _)
        refine wp_region_F (F := fun k w' => (k = 1 ∨ k = 2) → w'.cell? ⟨w.heap.size, 3, none⟩ = some (.slice va j vc) ∧ w'.cell? ⟨wr.heap.size, 0, none⟩ = some (.int .i64 l[j].kind) ∧ w'.cell? ⟨wr.heap.size, 1, none⟩ = some (.int .i64 l[j].n) ∧ w'.cell? ⟨wr.heap.size, 2, none⟩ = some (.string l[j].s) ∧ w'.cell? ⟨wr.heap.size, 3, none⟩ = some (.slice sa l[j].args.length sc)) (by kernel_rfl) ?_
        refine wpAnyF_take (i := 0) (v := ?_) rfl (by kernel_rfl) (by kernel_rfl) (by kernel_rfl) (fun _ _ _ h => h) (Or.inl ⟨by rfl, ?_⟩) (fun _ => ⟨hW1, hx0, hx1, hx2, hx3⟩) ?_
        rotate_left
        · (intro w' hw; clear hw; go_simp <;> with_reducible rfl)
        simp only [Act.put, List.setIfInBounds_toArray, List.set_cons_zero, List.set_cons_succ]
        refine wpAnyF_take (i := 1) (v := ?_) rfl (by kernel_rfl) (by kernel_rfl) (by kernel_rfl) (fun _ _ _ h => h) (Or.inl ⟨by rfl, ?_⟩) (fun _ => ⟨hW1, hx0, hx1, hx2, hx3⟩) ?_
        rotate_left
        · (intro w' hw; obtain ⟨q0, q1, q2, q3, q4⟩ := hw (by omega); go_simp <;> with_reducible rfl)
        simp only [Act.put, List.setIfInBounds_toArray, List.set_cons_zero, List.set_cons_succ]
        refine wpAnyF_take (i := 2) (v := ?_) rfl (by kernel_rfl) (by kernel_rfl) (by kernel_rfl) (fun _ _ _ h => h) (Or.inl ⟨by rfl, ?_⟩) (fun _ => ⟨hW1, hx0, hx1, hx2, hx3⟩) ?_
        rotate_left
        · (intro w' hw; obtain ⟨q0, q1, q2, q3, q4⟩ := hw (by omega); go_simp <;> with_reducible rfl)
        simp only [Act.put, List.setIfInBounds_toArray, List.set_cons_zero, List.set_cons_succ]
        refine wpAnyF_take (i := 3) (v := ?_) rfl (by kernel_rfl) (by kernel_rfl) (by kernel_rfl) (fun _ _ _ h => h) (Or.inl ⟨by rfl, ?_⟩) (fun _ => ⟨hW1, hx0, hx1, hx2, hx3⟩) ?_
        rotate_left
        · (intro w' hw; clear hw; go_simp <;> with_reducible rfl)
        simp only [Act.put, List.setIfInBounds_toArray, List.set_cons_zero, List.set_cons_succ]
        refine wpAnyF_one (i := 4) (by kernel_rfl) (wpOp_run rfl (by rfl) ?_)
        go_simp
        have hKd : Keeps (fun _ => True) wr W0.drew := by subst hW; exact (Keeps.alloc _ _ _).trans (Keeps.drew _ _)
        have hsW : W0.heap.size = wr.heap.size + 1 := by subst hW; simp
        have hrd : Tm.rep A W0.drew l[j] _ := Tm.rep_lasts.1 _ _ _ _ _ HR.out (hKd.mono fun _ _ _ => trivial)
        have hnd : sz sj + l[j].nodes ≤ 4194304 := by
          have h1 := Tm.renSL_szL HSZ.out (l.take j) st1
          rw [← HSJ.out] at h1
          have h2 := Tm.nodesL_take l j hlt
          have h3 := HND.out
          have h4 := HS4.out
          simp only [Tm.nodes] at h3
          omega
        have hMA : ∀ b, A b → b < W0.drew.heap.size ∧ ¬ Mj b := fun b hb => by
          have h1 := HAM.out b hb
          refine ⟨by simp only [World.size_drew]; omega, fun h2 => ?_⟩
          rcases HMJ.out b h2 with h3 | h3
          · exact h1.2 h3
          · omega
        refine (IH.out _ (List.getElem_mem hlt) sj Mj A _ _ (HI.out.keeps _ _ _ _ HSTJ.out (hKd.mono fun _ _ _ => trivial)) hnd hrd hMA).mono ?_
        rintro e w1 ⟨us, M2, rfl, hch1, hM2, hst2, hr⟩
        obtain ⟨sa', sc', rfl, -⟩ := Tm.rep4 hr
        have hsz := hch1.size
        simp only [World.size_drew] at hsz hM2 hr
        have hlt2 := HO.out.lt
        have hM2l := HI.out.lt _ _ _ hst2
        have hMM : ∀ b, M2 b → M b ∨ w.heap.size + 2 ≤ b := fun b hb => by
          rcases hM2 b hb with h1 | h1
          · exact HMJ.out b h1
          · exact .inr (by omega)
        have hn2 : ∀ b, b < W0.heap.size → ¬ Mj b → ¬ M2 b := fun b hb hn h => by
          rcases hM2 b h with h1 | h1
          · exact hn h1
          · omega
        have hHO : OwnR W0.drew _ _ _ _ _ _ _ := HO.out.keeps Tm.rep_lasts hKd (fun _ _ => trivial) (fun _ _ => trivial)
        have hHO2 : OwnR w1 _ _ _ _ (fun b => w.heap.size + 2 ≤ b ∧ ¬ M2 b) _ _ :=
          ((hHO.mono (A' := fun b => w.heap.size + 2 ≤ b ∧ ¬ M2 b ∧ ¬ Mj b) Tm.rep_lasts (fun b hb hb' => ⟨hb'.1, hn2 b hb hb'.2, hb'.2⟩)).keeps (B := fun b => ¬ Mj b) Tm.rep_lasts (hch1.keeps fun _ _ h => h) (fun _ h => h.2.2) HOB.out).mono Tm.rep_lasts (fun b _ hb => ⟨hb.1, hb.2.1⟩)
        have HO1 := hid hHO2
        have HOB2 : Hid (∀ b, ownB (.slice va j vc) = some b → ¬ M2 b) := fun b hb => hn2 b (by have := (hlt2 b hb).2; omega) (HOB.out b hb)
        have HN := hid (show Tm.rep (fun b => (w.heap.size + 2 ≤ b ∧ ¬ M2 b) ∧ ownB (.slice va j vc) ≠ some b) w1 _ _ from Tm.rep_lasts.2.1 _ _ _ _ _ hr fun b _ hb => ⟨⟨by omega, hb.2⟩, fun e => by have := (hlt2 b e).2; omega⟩)
        have HL := hid (show (Tm.renSL f st1 (l.take j)).1.length < 4194304 ∧ w.heap.size + 2 ≤ w1.heap.size by rw [HVL.out]; omega)
        have hnb : ∀ b, b < w.heap.size + 2 → w.heap.size ≤ b → ¬ Mj b := fun b h1 h2 h3 => by
          rcases HMJ.out b h3 with h4 | h4
          · have := HMlt.out b h4; omega
          · omega
        have HCH2 : Hid (Ch M w w1) := hid (((show Ch M w W0.drew by subst hW; exact (HCJ.out.alloc _).drew)).trans hch1 (fun b hb => by rcases HMJ.out b hb with h | h; exact .inl h; exact .inr (by omega)))
        have hkj := hch1.keeps (A := fun b => ¬ Mj b) (fun _ _ h => h)
        have nwr : ¬ Mj wr.heap.size := fun h => by have := HI.out.lt _ _ _ HSTJ.out _ h; omega
        have HQ := hid (show w1.cell? ⟨w.heap.size, 3, none⟩ = some (.slice va j vc) ∧ w1.cell? ⟨wr.heap.size, 0, none⟩ = some (.int .i64 l[j].kind) ∧ w1.cell? ⟨wr.heap.size, 1, none⟩ = some (.int .i64 l[j].n) ∧ w1.cell? ⟨wr.heap.size, 2, none⟩ = some (.string l[j].s) ∧ w1.cell? ⟨wr.heap.size, 3, none⟩ = some (.slice sa l[j].args.length sc) from
          ⟨hkj.cell (hnb _ (by omega) (by omega)) hW1, hkj.cell nwr hx0, hkj.cell nwr hx1, hkj.cell nwr hx2, hkj.cell nwr hx3⟩)
        have HB1' := hid (show w1.heap[w.heap.size]? = _ from blk_keeps (w := W0.drew) (by subst hW; exact blk_alloc HB1J.out _) hkj (hnb _ (by omega) (by omega)))
        have HB2' := hid (show w1.heap[w.heap.size + 1]? = _ from blk_keeps (w := W0.drew) (by subst hW; exact blk_alloc HB2J.out _) hkj (hnb _ (by omega) (by omega)))
        have HST2 := hid hst2
        have HM2l := hid hM2l
        have HMM := hid hMM
        clear hrd hr hch1 hHO hHO2 hst2 hM2l hMM hn2 hnb hkj nwr hM2 hMA hnd hKd
        refine ⟨fun _ _ _ _ => HQ.out, ?_⟩
        refine wpAnyF_one (i := 5) (by kernel_rfl) (wpOp_run rfl (by rfl) ?_)
        go_simp
        refine ⟨fun _ _ _ _ => ?_, ?_⟩
        · obtain ⟨q0, q1, q2, q3, q4⟩ := HQ.out
          have ka := Keeps.alloc (fun _ => True) w1 (.cells #[.int .i64 (Tm.renS f sj l[j]).1.kind, .int .i64 (Tm.renS f sj l[j]).1.n, .string (Tm.renS f sj l[j]).1.s, .slice sa' (Tm.renS f sj l[j]).1.args.length sc'] 31)
          exact ⟨ka.cell trivial q0, ka.cell trivial q1, ka.cell trivial q2, ka.cell trivial q3, ka.cell trivial q4⟩
        refine wpAnyF_one (i := 6) (by kernel_rfl) (wpOp_run rfl (by rfl) ?_)
        refine wp_app1 (.tmp 26) (.tmp 30) 29 rfl (w.heap.size + 2) 31 4 56 tyTerm Tm.rep_lasts _ _ rfl HO1.out (Tm.renS f sj l[j]).1 [_, _, _, _] rfl rfl HN.out HL.out ?_
        intro v2 w2 hown2 hgrew
        have hk2 := hgrew.keeps (A := fun b => ownB (.slice va j vc) ≠ some b) (fun _ h => h)
        have hka := (Keeps.alloc (fun b => ownB (.slice va j vc) ≠ some b) w1 (.cells #[.int .i64 (Tm.renS f sj l[j]).1.kind, .int .i64 (Tm.renS f sj l[j]).1.n, .string (Tm.renS f sj l[j]).1.s, .slice sa' (Tm.renS f sj l[j]).1.args.length sc'] 31)).trans hk2
        have n1 : ownB (.slice va j vc) ≠ some w.heap.size := fun e => by have := (hlt2 _ e).1; omega
        have n2 : ownB (.slice va j vc) ≠ some wr.heap.size := fun e => by have := (hlt2 _ e).2; omega
        have n3 : ownB (.slice va j vc) ≠ some (w.heap.size + 1) := fun e => by have := (hlt2 _ e).1; omega
        have HB12 := hid (blk_keeps HB1'.out hka n1)
        have HB22 := hid (blk_keeps HB2'.out hka n3)
        have HCH3 := hid (hgrew.ch (HCH2.out.alloc (.cells #[.int .i64 (Tm.renS f sj l[j]).1.kind, .int .i64 (Tm.renS f sj l[j]).1.n, .string (Tm.renS f sj l[j]).1.s, .slice sa' (Tm.renS f sj l[j]).1.args.length sc'] 31)) (fun b hb => .inr (by have := (hlt2 b hb).1; omega)))
        have HST3 := hid (HI.out.keeps _ _ _ _ HST2.out (hka.mono fun b _ hb e => HOB2.out b e hb))
        have HOB3 : Hid (∀ b, ownB v2 = some b → ¬ M2 b) := fun b hb hm => by
          have h1 := hgrew.block
          rcases h1 with h1 | h1
          · exact HOB2.out b (h1.symm.trans hb) hm
          · have h2 := h1 b hb
            have h3 := HM2l.out b hm
            simp only [World.size_alloc] at h2
            omega
        obtain ⟨va2, vc2, hv2, hvc2⟩ := hown2.val
        rw [show ((Tm.renSL f st1 (l.take j)).1 ++ [(Tm.renS f sj l[j]).1]).length = j + 1 by rw [List.length_append, HVL.out]; rfl] at hv2
        subst hv2
        have hz2 := hgrew.size
        have HO2 := hid hown2
        simp only [World.size_alloc] at hz2
        obtain ⟨y0, y1, y2, y3, yf⟩ := blk4 HB12.out
        refine ⟨fun _ _ _ _ => ?_, ?_⟩
        · obtain ⟨q0, q1, q2, q3, q4⟩ := HQ.out
          exact ⟨hka.cell n1 q0, hka.cell n2 q1, hka.cell n2 q2, hka.cell n2 q3, hka.cell n2 q4⟩
        clear hown2 hka hk2
        simp only [Act.put, List.setIfInBounds_toArray, List.set_cons_zero, List.set_cons_succ]
        refine wpAnyF_take (i := 7) (v := ?_) rfl (by kernel_rfl) (by kernel_rfl) (by kernel_rfl) (fun _ _ _ h => h) (Or.inl ⟨by rfl, ?_⟩) (fun h => by omega) ?_
        rotate_left
        · (intro w' hw; clear hw; go_simp <;> with_reducible rfl)
        simp only [Act.put, List.setIfInBounds_toArray, List.set_cons_zero, List.set_cons_succ]
        refine wpAnyF_one (i := 8) (by kernel_rfl) (wpOp_run rfl (by rfl) ?_)
        go_simp
        refine ⟨fun k0 hk0 _ h12 => ?_, wpAnyF_done (by kernel_rfl) ?_ _⟩
        · rcases h12 with rfl | rfl
          · exact absurd (show waits _ 8 1 = true by kernel_rfl) (by rw [hk0]; decide)
          · exact absurd (show waits _ 8 2 = true by kernel_rfl) (by rw [hk0]; decide)
        have HB3 := hid (blk_set HB12.out 3 (.slice va2 (j + 1) vc2))
        have hz3 : (w2.setCell ⟨w.heap.size, 3, none⟩ (.slice va2 (j + 1) vc2)).heap.size = w2.heap.size := by simp
        have HK3 := hid (Keeps.setCell (fun b => b ≠ w.heap.size) w2 ⟨w.heap.size, 3, none⟩ (.slice va2 (j + 1) vc2) (by simp))
        clear hgrew
        go_wp2_with fail
        go_roundw
        case rel =>
          have hnw : ∀ b, M2 b → b ≠ w.heap.size := fun b hb e => by
            rcases HMM.out b hb with h | h
            · have := HMlt.out b h; omega
            · omega
          refine ⟨j + 1, _, _, M2, by omega, by go_num, by omega, HCH3.out.setCell (.inr (by simp)) _, HMM.out, HI.out.keeps _ _ _ _ HST3.out (HK3.out.mono fun b _ hb => hnw b hb), blk_keeps HB22.out HK3.out (by omega), HB3.out, ?_, HOB3.out, ?_⟩
          · rw [List.take_succ_eq_append_getElem hlt, Tm.renSL_snoc, ← HSJ.out]
          · rw [List.take_succ_eq_append_getElem hlt, Tm.renSL_snoc, ← HSJ.out]
            exact HO2.out.keeps Tm.rep_lasts HK3.out (fun b hb => by omega) (fun b hb => by have := (HO2.out.lt b hb).1; omega)
        case measure => simp [intOf]; omega
      · have : j = l.length := by omega
        subst this
        obtain ⟨z0, z1, z2, z3, zf⟩ := blk4 HB2J.out
        have hcs := cell_set
        try clear HB1 HB2 HCH HST1
        try clear x0 x1 x2 x3 xf
        go_wp2_with fail
        refine bodyPost_ret (v := .agg #[.int .i64 k, .int .i64 m, .string s, .slice va l.length vc]) (by simp [results, Tryd.results127, go_sem, hcs, z0, z1, z2, z3]) rfl ⟨[_, _, _, _], Mj, rfl, ?_, fun b hb => ?_, ?_, ?_⟩
        · refine Ch.setCell (Ch.setCell (Ch.setCell (Ch.setCell HCJ.out ?_ _) ?_ _) ?_ _) ?_ _ <;> simp
        · rcases HMJ.out b hb with h | h
          · exact .inl h
          · exact .inr (by omega)
        · have hs2 := HSJ.out
          rw [List.take_length] at hs2
          have h2 : (Tm.renS f st1 (.mk k m s l)).2 = sj := by rw [Tm.renS, ← HM.out]; exact hs2.symm
          rw [h2]
          have hnw : ∀ b, Mj b → b ≠ w.heap.size + 1 := fun b hb e => by
            rcases HMJ.out b hb with h | h
            · have := HMlt.out b h; omega
            · omega
          refine HI.out.keeps _ _ _ _ HSTJ.out (Keeps.trans (Keeps.trans (Keeps.trans (Keeps.setCell _ _ _ _ ?_) (Keeps.setCell _ _ _ _ ?_)) (Keeps.setCell _ _ _ _ ?_)) (Keeps.setCell _ _ _ _ ?_)) <;> exact fun h => hnw _ h rfl
        · have hO := HO.out
          rw [List.take_length] at hO
          have hsl := (hO.mono (A' := fun b => w.heap.size + 2 ≤ b ∧ ¬ Mj b) Tm.rep_lasts (fun b _ hb => hb))
          have hsl2 : SlR 4 Tm.rep (fun b => w.heap.size + 2 ≤ b ∧ ¬ Mj b) wr (Tm.renSL f st1 l).1 (.slice va l.length vc) := hO.sl' Tm.rep_lasts (by rw [Tm.renSL_length]; exact hlb) (fun b hb => ⟨by have := (HO.out.lt b hb).1; omega, HOB.out b hb⟩)
          rw [Tm.renS, ← HM.out]
          rw [Tm.rep_iff]
          refine ⟨hk, HM64.out, hs, _, rfl, ?_⟩
          refine SlR.mono Tm.rep_lasts (by omega) (SlR.keeps Tm.rep_lasts hsl2 ?_) (fun b _ hb => ⟨by omega, hb.2⟩)
          refine Keeps.trans (Keeps.trans (Keeps.trans (Keeps.setCell _ _ _ _ ?_) (Keeps.setCell _ _ _ _ ?_)) (Keeps.setCell _ _ _ _ ?_)) (Keeps.setCell _ _ _ _ ?_) <;> simp
theorem renS_ok {σ : Type} {I : σ → (Nat → Prop) → World → Prop} {f : σ → Int → Int × σ} {sz : σ → Nat} {p5 p3 : Addr} (hI : StLaw I) (hsz : ∀ st n, sz (f st n).2 ≤ sz st + 1) (hc : CloS I f sz p5 p3) : ∀ t, RenSOK I f sz p5 p3 t := by
  intro t
  induction t using Tm.induct with
  | h k n s l ih => exact renS_of hI hsz hc k n s l ih
end Go.Proofs.YtlpmfkpefoegeabDoor
