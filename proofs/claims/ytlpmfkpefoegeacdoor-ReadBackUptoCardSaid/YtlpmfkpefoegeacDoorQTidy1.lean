/-
  term.Tidy$1: the closure that walks.
-/
import Derived.Test.YtlpmfkpefoegeacDoorQPlace
namespace Go.Proofs.YtlpmfkpefoegeacDoor
set_option linter.unusedVariables false
set_option linter.unusedSimpArgs false
open Go.RowKit
def TdInv (pb bs bw : Nat) (st : List Int) (M : Nat → Prop) (w : World) : Prop :=
  ∃ M0, PlInv pb bs st M0 w ∧ w.cell? ⟨bw, 0, none⟩ = some (.func (.func 19) #[] #[.pointer (some ⟨bs, 0, none⟩), .pointer (some ⟨bw, 0, none⟩)]) ∧ (∀ b, M b ↔ (M0 b ∨ b = bw)) ∧ ¬ M0 bw
theorem TdInv.cw {pb bs bw : Nat} {st : List Int} {M : Nat → Prop} {w : World} (h : TdInv pb bs bw st M w) : w.cell? ⟨bw, 0, none⟩ = some (.func (.func 19) #[] #[.pointer (some ⟨bs, 0, none⟩), .pointer (some ⟨bw, 0, none⟩)]) := by
  obtain ⟨_, _, h, _⟩ := h; exact h
theorem TdInv.mw {pb bs bw : Nat} {st : List Int} {M : Nat → Prop} {w : World} (h : TdInv pb bs bw st M w) : M bw := by
  obtain ⟨_, _, _, h, _⟩ := h; exact (h bw).2 (.inr rfl)
theorem tdInv_law (pb bs bw : Nat) : StLaw (TdInv pb bs bw) := by
  refine ⟨fun st M w h b hb => ?_, fun st M w w' h hk => ?_⟩
  · obtain ⟨M0, h1, h2, h3, h4⟩ := h
    rcases (h3 b).1 hb with h5 | rfl
    · exact (plInv_law pb bs).lt _ _ _ h1 b h5
    · exact World.block_lt_of_cell? w _ h2
  · obtain ⟨M0, h1, h2, h3, h4⟩ := h
    exact ⟨M0, (plInv_law pb bs).keeps _ _ _ _ h1 (hk.mono fun b _ hb => (h3 b).2 (.inl hb)), hk.cell ((h3 bw).2 (.inr rfl)) h2, h3, h4⟩
theorem place_td (pb bs bw : Nat) (st : List Int) (M : Nat → Prop) (w : World) (n : Int) (hi : TdInv pb bs bw st M w) (hsz : st.length < 4194304) (hn : I64 n) :
    Calls Tryd.prog 20 #[.pointer (some ⟨bs, 0, none⟩), .int .i64 n] w (NumPost (TdInv pb bs bw) M w (seenF st n)) := by
  obtain ⟨M0, h1, h2, h3, h4⟩ := hi
  refine (place_ok pb bs st M0 w n h1 hsz hn).mono ?_
  rintro e w' ⟨rfl, h5, M1, h6, h7, h8⟩
  have hbw : bw < w.heap.size := World.block_lt_of_cell? w ⟨bw, 0, none⟩ h2
  refine ⟨rfl, h5, fun b => M1 b ∨ b = bw, h6.mono (fun b _ hb => (h3 b).2 (.inl hb)), fun b hb => ?_, ⟨M1, h8, ?_, fun b => Iff.rfl, fun hb => ?_⟩⟩
  · rcases hb with hb | rfl
    · rcases h7 b hb with h9 | h9
      · exact .inl ((h3 b).2 (.inl h9))
      · exact .inr h9
    · exact .inl ((h3 _).2 (.inr rfl))
  · rw [← h2]; exact World.cell?_of_block (h6.block _ hbw h4)
  · rcases h7 bw hb with h9 | h9
    · exact h4 h9
    · omega
namespace Tm
theorem seenF_ge (st : List Int) (n : Int) : st.length ≤ (seenF st n).2.length := by
  unfold seenF
  split <;> simp
theorem num_ge (st : List Int) (k n : Int) : st.length ≤ (num seenF st k n).2.length := by
  unfold num
  split
  · exact seenF_ge st n
  · exact Nat.le_refl _
theorem renS_ge : ∀ (t : Tm) (st : List Int), st.length ≤ (renS seenF st t).2.length := by
  intro t
  induction t using induct with
  | h k n s l ih =>
    intro st
    have hL : ∀ (r : List Tm), (∀ t ∈ r, t ∈ l) → ∀ st : List Int, st.length ≤ (renSL seenF st r).2.length := by
      intro r
      induction r with
      | nil => intro _ st; simp [renSL]
      | cons x r ihr =>
        intro hm st
        simp only [renSL]
        exact Nat.le_trans (ih x (hm x (List.mem_cons_self ..)) st) (ihr (fun t ht => hm t (List.mem_cons_of_mem _ ht)) _)
    simp only [renS]
    exact Nat.le_trans (num_ge st k n) (hL l (fun _ h => h) _)
theorem renSL_ge : ∀ (l : List Tm) (st : List Int), st.length ≤ (renSL seenF st l).2.length
  | [], st => by simp [renSL]
  | x :: r, st => by
    simp only [renSL]
    exact Nat.le_trans (renS_ge x st) (renSL_ge r _)
theorem renSL_part : ∀ (l : List Tm) (st : List Int) (j : Nat) (hj : j < l.length), (renS seenF (renSL seenF st (l.take j)).2 l[j]).2.length ≤ (renSL seenF st l).2.length
  | x :: r, st, 0, _ => by
    simp only [List.take_zero, renSL, List.getElem_cons_zero]
    exact renSL_ge r _
  | x :: r, st, j + 1, hj => by
    simp only [List.take_succ_cons, renSL, List.getElem_cons_succ]
    exact renSL_part r _ j (by simpa using hj)
end Tm
def Tidy1OK (pb bs bw : Nat) (t : Tm) : Prop := ∀ (st : List Int) (M A : Nat → Prop) (w : World) (vs : List Value), TdInv pb bs bw st M w → (t.renS seenF st).2.length ≤ 4194303 → Tm.rep A w t vs → (∀ b, A b → b < w.heap.size ∧ ¬ M b) →
  Calls Tryd.prog 19 #[.agg vs.toArray, .pointer (some ⟨bs, 0, none⟩), .pointer (some ⟨bw, 0, none⟩)] w (RenPost (TdInv pb bs bw) M w (t.renS seenF st))
set_option maxHeartbeats 1600000 in
theorem tidy1_of (pb bs bw : Nat) (k n : Int) (s : ByteArray) (l : List Tm) (ih : ∀ t ∈ l, Tidy1OK pb bs bw t) : Tidy1OK pb bs bw (.mk k n s l) := by
  intro st M A w vs hst hnd hv hA
  rw [Tm.rep_iff] at hv
  obtain ⟨hk, hn, hs, v, rfl, hl⟩ := hv
  obtain ⟨a, cap, b, off, rfl, hlc, hcm, hlb, ha, he⟩ := hl.at
  have HE := hid he
  have HA := hid ha
  have IH := hid ih
  have HI := hid (tdInv_law pb bs bw)
  have HSZ := hid seenF_sz
  have HST := hid hst
  have HAM := hid hA
  have HND := hid hnd
  have HMlt := hid ((tdInv_law pb bs bw).lt _ _ _ hst)
  clear he ha hl ih hst hA hnd
  obtain ⟨m, st1, hm⟩ : ∃ m st1, (m, st1) = Tm.num seenF st k n := ⟨_, _, rfl⟩
  have HM := hid hm
  clear hm
  by_cases e : k = 0
  all_goals
    try have e' : (k == 0) = false := by simpa using e
    try have e' : (k == 0) = true := by simpa using e
    have HE' := hid e
    clear e
    go_enter Tryd.func19, Tryd.ntmps19
    go_wp2_with fail
  · have hst0 := HI.out.keeps _ _ _ (((w.alloc (.cells #[.int .i64 k, .int .i64 n, .string s, .slice a l.length cap] 27)).alloc (.cells #[.int .i64 0, .int .i64 0, .string ByteArray.empty, .slice none 0 0] 27)).alloc (.cells #[.int .i64 k, .int .i64 n, .string s, .slice a l.length cap] 27)) HST.out (((Keeps.alloc _ _ _).trans (Keeps.alloc _ _ _)).trans (Keeps.alloc _ _ _))
    have hcl := place_td pb bs bw st M _ n hst0 (by have h1 := HND.out; have h2 := Tm.renS_ge (.mk k n s l) st; omega) hn
    rw [show seenF st n = (m, st1) by rw [HM.out, Tm.num, if_pos HE'.out]] at hcl
    refine hcl.mono ?_
    rintro e w1 ⟨rfl, hm64, M1, hch, hM1, hst1⟩
    have hq1 := heap3 w (.cells #[.int .i64 k, .int .i64 n, .string s, .slice a l.length cap] 27) (.cells #[.int .i64 0, .int .i64 0, .string ByteArray.empty, .slice none 0 0] 27) (.cells #[.int .i64 k, .int .i64 n, .string s, .slice a l.length cap] 27)
    have hMl := HMlt.out
    have hz1 := hch.size
    simp only [World.size_alloc] at hz1
    have HB0 := hid ((hch.block _ (by simp <;> omega) (fun h => by have := hMl _ h; omega)).trans hq1.1)
    have HB2 := hid ((hch.block _ (by simp <;> omega) (fun h => by have := hMl _ h; omega)).trans hq1.2.1)
    have HB1 := hid ((hch.block _ (by simp <;> omega) (fun h => by have := hMl _ h; omega)).trans hq1.2.2)
    have HM1 : Hid (∀ b, M1 b → M b ∨ w.heap.size + 3 ≤ b) := fun b hb => by have := hM1 b hb; simpa [Nat.add_assoc] using this
    have HCH := hid (((((Ch.refl M w).alloc _).alloc _).alloc _).trans hch (fun b hb => .inl hb))
    have HST1 := hid hst1
    have HM64 := hid (show I64 m from hm64)
    obtain ⟨x0, x1, x2, x3, xf⟩ := blk4 HB1.out
    obtain ⟨z0, z1, z2, z3, zf⟩ := blk4 HB0.out
    have hcs := cell_set
    have HS4 : Hid (st1.length ≤ st.length + 1) := by
      have h5 := congrArg Prod.snd HM.out
      simp only [Tm.num, if_pos HE'.out] at h5
      rw [h5]
      exact HSZ.out st n
    clear hst0 hq1 hMl hch hM1 hst1 hm64 hcl HST
    go_wp2_with fail
    go_loopw [20] (fun i wr => ∃ (j : Nat) (v : Value) (sj : List Int) (Mj : Nat → Prop), j ≤ l.length ∧ i = .int .i64 j ∧ w.heap.size + 3 ≤ wr.heap.size ∧ Ch M w wr ∧ (∀ b, Mj b → M b ∨ w.heap.size + 3 ≤ b) ∧ TdInv pb bs bw sj Mj wr ∧
        wr.heap[w.heap.size + 1]? = some (.cells #[.int .i64 0, .int .i64 0, .string ByteArray.empty, .slice none 0 0] 27 (0, 0)) ∧
        wr.heap[w.heap.size + 1 + 1]? = some (.cells #[.int .i64 k, .int .i64 m, .string s, v] 27 (0, 0)) ∧ sj = (Tm.renSL seenF st1 (l.take j)).2 ∧ (∀ b, ownB v = some b → ¬ Mj b) ∧
        OwnR wr (w.heap.size + 3) 27 4 Tm.rep (fun b => w.heap.size + 3 ≤ b ∧ ¬ Mj b) (Tm.renSL seenF st1 (l.take j)).1 v) (fun i _ => l.length - (intOf i).toNat)
    case atStart =>
      refine ⟨0, .slice none 0 0, st1, M1, Nat.zero_le _, rfl, by simp; omega, (HCH.out.setCell (by simp <;> omega) _).setCell (by simp <;> omega) _, HM1.out, HI.out.keeps _ _ _ _ HST1.out ((Keeps.setCell _ _ _ _ ?_).trans (Keeps.setCell _ _ _ _ ?_)), ?_, ?_, by simp [Tm.renSL], by simp [ownB], by simpa [Tm.renSL] using OwnR.nil ..⟩
      · exact fun (h : M1 (w.heap.size + 1 + 1)) => (HM1.out _ h).elim (fun h1 => by have := HMlt.out _ h1; omega) (fun h1 => by omega)
      · exact fun (h : M1 (w.heap.size + 1 + 1)) => (HM1.out _ h).elim (fun h1 => by have := HMlt.out _ h1; omega) (fun h1 => by omega)
      · exact blk_keeps (A := fun b => b ≠ w.heap.size + 1 + 1) HB2.out ((Keeps.setCell _ _ _ _ (by simp)).trans (Keeps.setCell _ _ _ _ (by simp))) (by omega)
      · exact blk_set (blk_set HB1.out 1 _) 3 _
    case round =>
      obtain ⟨j, v, sj, Mj, hj, rfl, hz, hch, hMj, hst, hB2, hB1, hsj, hob, hown⟩ := hrel
      have hvl : (Tm.renSL seenF st1 (l.take j)).1.length = j := by rw [Tm.renSL_length]; simp; omega
      obtain ⟨va, vc, hv, hvc⟩ := hown.val
      rw [hvl] at hv
      subst hv
      have HCJ := hid hch
      have HB1J := hid hB1
      have HB2J := hid hB2
      have HMJ := hid hMj
      have HSTJ := hid hst
      have HSJ := hid hsj
      have HOB := hid hob
      have HO := hid hown
      have HVL := hid hvl
      obtain ⟨g0, g1, g2, g3, gf⟩ := blk4 HB1J.out
      clear hch hMj hst hB2 hB1 hsj hob hown hvl
      by_cases hlt : j < l.length
      · obtain ⟨rfl, hAb⟩ := HA.out (by omega)
        obtain ⟨sa, sc, c0, c1, c2, c3, hr⟩ := tm_cells HE.out hAb (HCJ.out.keeps fun b _ h => (HAM.out b h).2) hlt
        have HR := hid hr
        have lb : b < wr.heap.size := World.block_lt_of_cell? wr _ c0
        clear hr
        try clear HB0
        try clear HB1 HB2 HCH HST1
        try clear x0 x1 x2 x3 xf z0 z1 z2 z3 zf hcs
        go_wp2_with fail
        generalize hW : wr.alloc (.cells #[.int .i64 l[j].kind, .int .i64 l[j].n, .string l[j].s, .slice sa l[j].args.length sc] 27) = W0
        have hW1 : W0.drew.cell? ⟨w.heap.size + 1 + 1, 3, none⟩ = some (.slice va j vc) := by subst hW; exact (Keeps.alloc (fun _ => True) _ _).cell trivial g3
        obtain ⟨hx0, hx1, hx2, hx3, -⟩ := blk4 (show W0.drew.heap[wr.heap.size]? = _ by subst hW; exact blk_new _ _)
        have hxw : W0.drew.cell? ⟨bw, 0, none⟩ = some (.func (.func 19) #[] #[.pointer (some ⟨bs, 0, none⟩), .pointer (some ⟨bw, 0, none⟩)]) := by subst hW; exact (Keeps.alloc (fun _ => True) _ _).cell trivial HSTJ.out.cw
        refine wp_region_F (F := fun k w' => (k = 1 ∨ k = 2 ∨ k = 3) → w'.cell? ⟨w.heap.size + 1 + 1, 3, none⟩ = some (.slice va j vc) ∧ w'.cell? ⟨wr.heap.size, 0, none⟩ = some (.int .i64 l[j].kind) ∧ w'.cell? ⟨wr.heap.size, 1, none⟩ = some (.int .i64 l[j].n) ∧ w'.cell? ⟨wr.heap.size, 2, none⟩ = some (.string l[j].s) ∧ w'.cell? ⟨wr.heap.size, 3, none⟩ = some (.slice sa l[j].args.length sc) ∧ w'.cell? ⟨bw, 0, none⟩ = some (.func (.func 19) #[] #[.pointer (some ⟨bs, 0, none⟩), .pointer (some ⟨bw, 0, none⟩)])) (by kernel_rfl) ?_
        refine wpTk (i := 0) (v := ?_) rfl (Or.inl ⟨by rfl, ?_⟩) (fun _ => ⟨hW1, hx0, hx1, hx2, hx3, hxw⟩) ?_
        rotate_left
        · (intro w' hw; clear hw; go_simp <;> with_reducible rfl)
        try simp only [Act.put, List.setIfInBounds_toArray, List.set_cons_zero, List.set_cons_succ]
        refine wpTk (i := 1) (v := ?_) rfl (Or.inl ⟨by rfl, ?_⟩) (fun _ => ⟨hW1, hx0, hx1, hx2, hx3, hxw⟩) ?_
        rotate_left
        · (intro w' hw; obtain ⟨q0, q1, q2, q3, q4, q5⟩ := hw (by omega); go_simp <;> with_reducible rfl)
        try simp only [Act.put, List.setIfInBounds_toArray, List.set_cons_zero, List.set_cons_succ]
        refine wpTk (i := 2) (v := ?_) rfl (Or.inl ⟨by rfl, ?_⟩) (fun _ => ⟨hW1, hx0, hx1, hx2, hx3, hxw⟩) ?_
        rotate_left
        · (intro w' hw; obtain ⟨q0, q1, q2, q3, q4, q5⟩ := hw (by omega); go_simp <;> with_reducible rfl)
        try simp only [Act.put, List.setIfInBounds_toArray, List.set_cons_zero, List.set_cons_succ]
        refine wpTk (i := 3) (v := ?_) rfl (Or.inl ⟨by rfl, ?_⟩) (fun _ => ⟨hW1, hx0, hx1, hx2, hx3, hxw⟩) ?_
        rotate_left
        · (intro w' hw; obtain ⟨q0, q1, q2, q3, q4, q5⟩ := hw (by omega); go_simp <;> with_reducible rfl)
        try simp only [Act.put, List.setIfInBounds_toArray, List.set_cons_zero, List.set_cons_succ]
        refine wpAnyF_one (i := 4) (by kernel_rfl) (wpOp_run rfl (by rfl) ?_)
        go_simp
        have hKd : Keeps (fun _ => True) wr W0.drew := by subst hW; exact (Keeps.alloc _ _ _).trans (Keeps.drew _ _)
        have hsW : W0.heap.size = wr.heap.size + 1 := by subst hW; simp
        have hrd : Tm.rep A W0.drew l[j] _ := Tm.rep_lasts.1 _ _ _ _ _ HR.out (hKd.mono fun _ _ _ => trivial)
        have hnd : (Tm.renS seenF sj l[j]).2.length ≤ 4194303 := by
          have h1 := Tm.renSL_part l st1 j hlt
          have h3 := HND.out
          simp only [Tm.renS] at h3
          rw [← HM.out] at h3
          dsimp only at h3
          rw [HSJ.out]
          omega
        have hMA : ∀ b, A b → b < W0.drew.heap.size ∧ ¬ Mj b := fun b hb => by
          have h1 := HAM.out b hb
          refine ⟨by simp only [World.size_drew]; omega, fun h2 => ?_⟩
          rcases HMJ.out b h2 with h3 | h3
          · exact h1.2 h3
          · omega
        refine (IH.out _ (List.getElem_mem hlt) sj Mj A _ _ (HI.out.keeps _ _ _ _ HSTJ.out (hKd.mono fun _ _ _ => trivial)) hnd hrd hMA).mono ?_
        rintro e w1 ⟨us, M2, rfl, hch1, hM2, hst2, hr⟩
        obtain ⟨sa', sc', rfl, -⟩ := Tm.rep4 hr
        have hsz := hch1.size
        simp only [World.size_drew] at hsz hM2 hr
        have hlt2 := HO.out.lt
        have hM2l := HI.out.lt _ _ _ hst2
        have hMM : ∀ b, M2 b → M b ∨ w.heap.size + 3 ≤ b := fun b hb => by
          rcases hM2 b hb with h1 | h1
          · exact HMJ.out b h1
          · exact .inr (by omega)
        have hn2 : ∀ b, b < W0.heap.size → ¬ Mj b → ¬ M2 b := fun b hb hn h => by
          rcases hM2 b h with h1 | h1
          · exact hn h1
          · omega
        have hHO : OwnR W0.drew _ _ _ _ _ _ _ := HO.out.keeps Tm.rep_lasts hKd (fun _ _ => trivial) (fun _ _ => trivial)
        have hHO2 : OwnR w1 _ _ _ _ (fun b => w.heap.size + 3 ≤ b ∧ ¬ M2 b) _ _ :=
          ((hHO.mono (A' := fun b => w.heap.size + 3 ≤ b ∧ ¬ M2 b ∧ ¬ Mj b) Tm.rep_lasts (fun b hb hb' => ⟨hb'.1, hn2 b hb hb'.2, hb'.2⟩)).keeps (B := fun b => ¬ Mj b) Tm.rep_lasts (hch1.keeps fun _ _ h => h) (fun _ h => h.2.2) HOB.out).mono Tm.rep_lasts (fun b _ hb => ⟨hb.1, hb.2.1⟩)
        have HO1 := hid hHO2
        have HOB2 : Hid (∀ b, ownB (.slice va j vc) = some b → ¬ M2 b) := fun b hb => hn2 b (by have := (hlt2 b hb).2; omega) (HOB.out b hb)
        have HN := hid (show Tm.rep (fun b => (w.heap.size + 3 ≤ b ∧ ¬ M2 b) ∧ ownB (.slice va j vc) ≠ some b) w1 _ _ from Tm.rep_lasts.2.1 _ _ _ _ _ hr fun b _ hb => ⟨⟨by omega, hb.2⟩, fun e => by have := (hlt2 b e).2; omega⟩)
        have HL := hid (show (Tm.renSL seenF st1 (l.take j)).1.length < 4194304 ∧ w.heap.size + 3 ≤ w1.heap.size by rw [HVL.out]; omega)
        have hnb : ∀ b, b < w.heap.size + 3 → w.heap.size ≤ b → ¬ Mj b := fun b h1 h2 h3 => by
          rcases HMJ.out b h3 with h4 | h4
          · have := HMlt.out b h4; omega
          · omega
        have HCH2 : Hid (Ch M w w1) := hid (((show Ch M w W0.drew by subst hW; exact (HCJ.out.alloc _).drew)).trans hch1 (fun b hb => by rcases HMJ.out b hb with h | h; exact .inl h; exact .inr (by omega)))
        have hkj := hch1.keeps (A := fun b => ¬ Mj b) (fun _ _ h => h)
        have nwr : ¬ Mj wr.heap.size := fun h => by have := HI.out.lt _ _ _ HSTJ.out _ h; omega
        have HQ := hid (show w1.cell? ⟨w.heap.size + 1 + 1, 3, none⟩ = some (.slice va j vc) ∧ w1.cell? ⟨wr.heap.size, 0, none⟩ = some (.int .i64 l[j].kind) ∧ w1.cell? ⟨wr.heap.size, 1, none⟩ = some (.int .i64 l[j].n) ∧ w1.cell? ⟨wr.heap.size, 2, none⟩ = some (.string l[j].s) ∧ w1.cell? ⟨wr.heap.size, 3, none⟩ = some (.slice sa l[j].args.length sc) ∧ w1.cell? ⟨bw, 0, none⟩ = some (.func (.func 19) #[] #[.pointer (some ⟨bs, 0, none⟩), .pointer (some ⟨bw, 0, none⟩)]) from
          ⟨hkj.cell (hnb _ (by omega) (by omega)) hW1, hkj.cell nwr hx0, hkj.cell nwr hx1, hkj.cell nwr hx2, hkj.cell nwr hx3, hst2.cw⟩)
        have HB1' := hid (show w1.heap[w.heap.size + 1 + 1]? = _ from blk_keeps (w := W0.drew) (by subst hW; exact blk_alloc HB1J.out _) hkj (hnb _ (by omega) (by omega)))
        have HB2' := hid (show w1.heap[w.heap.size + 1]? = _ from blk_keeps (w := W0.drew) (by subst hW; exact blk_alloc HB2J.out _) hkj (hnb _ (by omega) (by omega)))
        have HST2 := hid hst2
        have HM2l := hid hM2l
        have HMM := hid hMM
        clear hrd hr hch1 hHO hHO2 hst2 hM2l hMM hn2 hnb hkj nwr hM2 hMA hnd hKd
        refine ⟨fun _ _ _ _ => HQ.out, ?_⟩
        refine wpAnyF_one (i := 5) (by kernel_rfl) (wpOp_run rfl (by rfl) ?_)
        go_simp
        refine ⟨fun _ _ _ _ => ?_, ?_⟩
        · obtain ⟨q0, q1, q2, q3, q4, q5⟩ := HQ.out
          have ka := Keeps.alloc (fun _ => True) w1 (.cells #[.int .i64 (Tm.renS seenF sj l[j]).1.kind, .int .i64 (Tm.renS seenF sj l[j]).1.n, .string (Tm.renS seenF sj l[j]).1.s, .slice sa' (Tm.renS seenF sj l[j]).1.args.length sc'] 27)
          exact ⟨ka.cell trivial q0, ka.cell trivial q1, ka.cell trivial q2, ka.cell trivial q3, ka.cell trivial q4, ka.cell trivial q5⟩
        refine wpAnyF_one (i := 6) (by kernel_rfl) (wpOp_run rfl (by rfl) ?_)
        refine wp_app1 (.tmp 25) (.tmp 29) 22 rfl (w.heap.size + 3) 27 4 56 tyTerm Tm.rep_lasts _ _ rfl HO1.out (Tm.renS seenF sj l[j]).1 [_, _, _, _] rfl rfl HN.out HL.out ?_
        intro v2 w2 hown2 hgrew
        have hk2 := hgrew.keeps (A := fun b => ownB (.slice va j vc) ≠ some b) (fun _ h => h)
        have hka := (Keeps.alloc (fun b => ownB (.slice va j vc) ≠ some b) w1 (.cells #[.int .i64 (Tm.renS seenF sj l[j]).1.kind, .int .i64 (Tm.renS seenF sj l[j]).1.n, .string (Tm.renS seenF sj l[j]).1.s, .slice sa' (Tm.renS seenF sj l[j]).1.args.length sc'] 27)).trans hk2
        have n1 : ownB (.slice va j vc) ≠ some (w.heap.size + 1 + 1) := fun e => by have := (hlt2 _ e).1; omega
        have n2 : ownB (.slice va j vc) ≠ some wr.heap.size := fun e => by have := (hlt2 _ e).2; omega
        have n3 : ownB (.slice va j vc) ≠ some (w.heap.size + 1) := fun e => by have := (hlt2 _ e).1; omega
        have n4 : ownB (.slice va j vc) ≠ some bw := fun e => HOB.out bw e HSTJ.out.mw
        have HB12 := hid (blk_keeps HB1'.out hka n1)
        have HB22 := hid (blk_keeps HB2'.out hka n3)
        have HCH3 := hid (hgrew.ch (HCH2.out.alloc (.cells #[.int .i64 (Tm.renS seenF sj l[j]).1.kind, .int .i64 (Tm.renS seenF sj l[j]).1.n, .string (Tm.renS seenF sj l[j]).1.s, .slice sa' (Tm.renS seenF sj l[j]).1.args.length sc'] 27)) (fun b hb => .inr (by have := (hlt2 b hb).1; omega)))
        have HST3 := hid (HI.out.keeps _ _ _ _ HST2.out (hka.mono fun b _ hb e => HOB2.out b e hb))
        have HOB3 : Hid (∀ b, ownB v2 = some b → ¬ M2 b) := fun b hb hm => by
          have h1 := hgrew.block
          rcases h1 with h1 | h1
          · exact HOB2.out b (h1.symm.trans hb) hm
          · have h2 := h1 b hb
            have h3 := HM2l.out b hm
            simp only [World.size_alloc] at h2
            omega
        obtain ⟨va2, vc2, hv2, hvc2⟩ := hown2.val
        rw [show ((Tm.renSL seenF st1 (l.take j)).1 ++ [(Tm.renS seenF sj l[j]).1]).length = j + 1 by rw [List.length_append, HVL.out]; rfl] at hv2
        subst hv2
        have hz2 := hgrew.size
        have HO2 := hid hown2
        simp only [World.size_alloc] at hz2
        obtain ⟨y0, y1, y2, y3, yf⟩ := blk4 HB12.out
        refine ⟨fun _ _ _ _ => ?_, ?_⟩
        · obtain ⟨q0, q1, q2, q3, q4, q5⟩ := HQ.out
          exact ⟨hka.cell n1 q0, hka.cell n2 q1, hka.cell n2 q2, hka.cell n2 q3, hka.cell n2 q4, hka.cell n4 q5⟩
        clear hown2 hka hk2
        simp only [Act.put, List.setIfInBounds_toArray, List.set_cons_zero, List.set_cons_succ]
        refine wpTk (i := 7) (v := ?_) rfl (Or.inl ⟨by rfl, ?_⟩) (fun h => by omega) ?_
        rotate_left
        · (intro w' hw; clear hw; go_simp <;> with_reducible rfl)
        try simp only [Act.put, List.setIfInBounds_toArray, List.set_cons_zero, List.set_cons_succ]
        refine wpAnyF_one (i := 8) (by kernel_rfl) (wpOp_run rfl (by rfl) ?_)
        go_simp
        refine ⟨fun k0 hk0 _ h12 => ?_, wpAnyF_done (by kernel_rfl) ?_ _⟩
        · rcases h12 with rfl | rfl | rfl
          · exact absurd (show waits _ 8 1 = true by kernel_rfl) (by rw [hk0]; decide)
          · exact absurd (show waits _ 8 2 = true by kernel_rfl) (by rw [hk0]; decide)
          · exact absurd (show waits _ 8 3 = true by kernel_rfl) (by rw [hk0]; decide)
        have HB3 := hid (blk_set HB12.out 3 (.slice va2 (j + 1) vc2))
        have hz3 : (w2.setCell ⟨w.heap.size + 1 + 1, 3, none⟩ (.slice va2 (j + 1) vc2)).heap.size = w2.heap.size := by simp
        have HK3 := hid (Keeps.setCell (fun b => b ≠ w.heap.size + 1 + 1) w2 ⟨w.heap.size + 1 + 1, 3, none⟩ (.slice va2 (j + 1) vc2) (by simp))
        clear hgrew
        go_wp2_with fail
        go_roundw
        case rel =>
          have hnw : ∀ b, M2 b → b ≠ w.heap.size + 1 + 1 := fun b hb e => by
            rcases HMM.out b hb with h | h
            · have := HMlt.out b h; omega
            · omega
          refine ⟨j + 1, _, _, M2, by omega, by go_num, by omega, HCH3.out.setCell (.inr (by simp <;> omega)) _, HMM.out, HI.out.keeps _ _ _ _ HST3.out (HK3.out.mono fun b _ hb => hnw b hb), blk_keeps HB22.out HK3.out (by omega), HB3.out, ?_, HOB3.out, ?_⟩
          · rw [List.take_succ_eq_append_getElem hlt, Tm.renSL_snoc, ← HSJ.out]
          · rw [List.take_succ_eq_append_getElem hlt, Tm.renSL_snoc, ← HSJ.out]
            exact HO2.out.keeps Tm.rep_lasts HK3.out (fun b hb => by omega) (fun b hb => by have := (HO2.out.lt b hb).1; omega)
        case measure => simp [intOf]; omega
      · have : j = l.length := by omega
        subst this
        try clear z0 z1 z2 z3 zf
        obtain ⟨z0, z1, z2, z3, zf⟩ := blk4 HB2J.out
        try clear hcs
        have hcs := cell_set
        try clear HB0
        try clear HB1 HB2 HCH HST1
        try clear x0 x1 x2 x3 xf
        go_wp2_with fail
        refine bodyPost_ret (v := .agg #[.int .i64 k, .int .i64 m, .string s, .slice va l.length vc]) (by simp [results, Tryd.results19, go_sem, hcs, z0, z1, z2, z3]) rfl ⟨[_, _, _, _], Mj, rfl, ?_, fun b hb => ?_, ?_, ?_⟩
        · refine Ch.setCell (Ch.setCell (Ch.setCell (Ch.setCell HCJ.out ?_ _) ?_ _) ?_ _) ?_ _ <;> simp
        · rcases HMJ.out b hb with h | h
          · exact .inl h
          · exact .inr (by omega)
        · have hs2 := HSJ.out
          rw [List.take_length] at hs2
          have h2 : (Tm.renS seenF st (.mk k n s l)).2 = sj := by rw [Tm.renS, ← HM.out]; exact hs2.symm
          rw [h2]
          have hnw : ∀ b, Mj b → b ≠ w.heap.size + 1 := fun b hb e => by
            rcases HMJ.out b hb with h | h
            · have := HMlt.out b h; omega
            · omega
          refine HI.out.keeps _ _ _ _ HSTJ.out (Keeps.trans (Keeps.trans (Keeps.trans (Keeps.setCell _ _ _ _ ?_) (Keeps.setCell _ _ _ _ ?_)) (Keeps.setCell _ _ _ _ ?_)) (Keeps.setCell _ _ _ _ ?_)) <;> exact fun h => hnw _ h rfl
        · have hO := HO.out
          rw [List.take_length] at hO
          have hsl := (hO.mono (A' := fun b => w.heap.size + 3 ≤ b ∧ ¬ Mj b) Tm.rep_lasts (fun b _ hb => hb))
          have hsl2 : SlR 4 Tm.rep (fun b => w.heap.size + 3 ≤ b ∧ ¬ Mj b) wr (Tm.renSL seenF st1 l).1 (.slice va l.length vc) := hO.sl' Tm.rep_lasts (by rw [Tm.renSL_length]; exact hlb) (fun b hb => ⟨by have := (HO.out.lt b hb).1; omega, HOB.out b hb⟩)
          rw [Tm.renS, ← HM.out]
          rw [Tm.rep_iff]
          refine ⟨hk, HM64.out, hs, _, rfl, ?_⟩
          refine SlR.mono Tm.rep_lasts (by omega) (SlR.keeps Tm.rep_lasts hsl2 ?_) (fun b _ hb => ⟨by omega, hb.2⟩)
          refine Keeps.trans (Keeps.trans (Keeps.trans (Keeps.setCell _ _ _ _ ?_) (Keeps.setCell _ _ _ _ ?_)) (Keeps.setCell _ _ _ _ ?_)) (Keeps.setCell _ _ _ _ ?_) <;> simp
  · have HB1 := hid (heap3 w (.cells #[.int .i64 k, .int .i64 n, .string s, .slice a l.length cap] 27) (.cells #[.int .i64 0, .int .i64 0, .string ByteArray.empty, .slice none 0 0] 27) (.cells #[.int .i64 k, .int .i64 n, .string s, .slice none 0 0] 27)).2.2
    have HB2 := hid (heap3 w (.cells #[.int .i64 k, .int .i64 n, .string s, .slice a l.length cap] 27) (.cells #[.int .i64 0, .int .i64 0, .string ByteArray.empty, .slice none 0 0] 27) (.cells #[.int .i64 k, .int .i64 n, .string s, .slice none 0 0] 27)).2.1
    have HMN : m = n ∧ st1 = st := by have := HM.out; rw [Tm.num, if_neg HE'.out] at this; simpa using this
    obtain ⟨rfl, rfl⟩ := HMN
    have HM64 := hid hn
    have HCH := hid ((((Ch.refl M w).alloc (.cells #[.int .i64 k, .int .i64 m, .string s, .slice a l.length cap] 27)).alloc (.cells #[.int .i64 0, .int .i64 0, .string ByteArray.empty, .slice none 0 0] 27)).alloc (.cells #[.int .i64 k, .int .i64 m, .string s, .slice none 0 0] 27))
    have HST1 := hid (HI.out.keeps _ _ _ (((w.alloc (.cells #[.int .i64 k, .int .i64 m, .string s, .slice a l.length cap] 27)).alloc (.cells #[.int .i64 0, .int .i64 0, .string ByteArray.empty, .slice none 0 0] 27)).alloc (.cells #[.int .i64 k, .int .i64 m, .string s, .slice none 0 0] 27)) HST.out (((Keeps.alloc _ _ _).trans (Keeps.alloc _ _ _)).trans (Keeps.alloc _ _ _)))
    have HS4 : Hid (st1.length ≤ st1.length + 1) := Nat.le_succ _
    clear HST
    go_loopw [20] (fun i wr => ∃ (j : Nat) (v : Value) (sj : List Int) (Mj : Nat → Prop), j ≤ l.length ∧ i = .int .i64 j ∧ w.heap.size + 3 ≤ wr.heap.size ∧ Ch M w wr ∧ (∀ b, Mj b → M b ∨ w.heap.size + 3 ≤ b) ∧ TdInv pb bs bw sj Mj wr ∧
        wr.heap[w.heap.size + 1]? = some (.cells #[.int .i64 0, .int .i64 0, .string ByteArray.empty, .slice none 0 0] 27 (0, 0)) ∧
        wr.heap[w.heap.size + 1 + 1]? = some (.cells #[.int .i64 k, .int .i64 m, .string s, v] 27 (0, 0)) ∧ sj = (Tm.renSL seenF st1 (l.take j)).2 ∧ (∀ b, ownB v = some b → ¬ Mj b) ∧
        OwnR wr (w.heap.size + 3) 27 4 Tm.rep (fun b => w.heap.size + 3 ≤ b ∧ ¬ Mj b) (Tm.renSL seenF st1 (l.take j)).1 v) (fun i _ => l.length - (intOf i).toNat)
    case atStart =>
      exact ⟨0, .slice none 0 0, st1, M, Nat.zero_le _, rfl, by simp, HCH.out, fun b hb => .inl hb, HST1.out, HB2.out, HB1.out, by simp [Tm.renSL], by simp [ownB], by simpa [Tm.renSL] using OwnR.nil ..⟩
    case round =>
      obtain ⟨j, v, sj, Mj, hj, rfl, hz, hch, hMj, hst, hB2, hB1, hsj, hob, hown⟩ := hrel
      have hvl : (Tm.renSL seenF st1 (l.take j)).1.length = j := by rw [Tm.renSL_length]; simp; omega
      obtain ⟨va, vc, hv, hvc⟩ := hown.val
      rw [hvl] at hv
      subst hv
      have HCJ := hid hch
      have HB1J := hid hB1
      have HB2J := hid hB2
      have HMJ := hid hMj
      have HSTJ := hid hst
      have HSJ := hid hsj
      have HOB := hid hob
      have HO := hid hown
      have HVL := hid hvl
      obtain ⟨g0, g1, g2, g3, gf⟩ := blk4 HB1J.out
      clear hch hMj hst hB2 hB1 hsj hob hown hvl
      by_cases hlt : j < l.length
      · obtain ⟨rfl, hAb⟩ := HA.out (by omega)
        obtain ⟨sa, sc, c0, c1, c2, c3, hr⟩ := tm_cells HE.out hAb (HCJ.out.keeps fun b _ h => (HAM.out b h).2) hlt
        have HR := hid hr
        have lb : b < wr.heap.size := World.block_lt_of_cell? wr _ c0
        clear hr
        try clear HB0
        try clear HB1 HB2 HCH HST1
        try clear x0 x1 x2 x3 xf z0 z1 z2 z3 zf hcs
        go_wp2_with fail
        generalize hW : wr.alloc (.cells #[.int .i64 l[j].kind, .int .i64 l[j].n, .string l[j].s, .slice sa l[j].args.length sc] 27) = W0
        have hW1 : W0.drew.cell? ⟨w.heap.size + 1 + 1, 3, none⟩ = some (.slice va j vc) := by subst hW; exact (Keeps.alloc (fun _ => True) _ _).cell trivial g3
        obtain ⟨hx0, hx1, hx2, hx3, -⟩ := blk4 (show W0.drew.heap[wr.heap.size]? = _ by subst hW; exact blk_new _ _)
        have hxw : W0.drew.cell? ⟨bw, 0, none⟩ = some (.func (.func 19) #[] #[.pointer (some ⟨bs, 0, none⟩), .pointer (some ⟨bw, 0, none⟩)]) := by subst hW; exact (Keeps.alloc (fun _ => True) _ _).cell trivial HSTJ.out.cw
        refine wp_region_F (F := fun k w' => (k = 1 ∨ k = 2 ∨ k = 3) → w'.cell? ⟨w.heap.size + 1 + 1, 3, none⟩ = some (.slice va j vc) ∧ w'.cell? ⟨wr.heap.size, 0, none⟩ = some (.int .i64 l[j].kind) ∧ w'.cell? ⟨wr.heap.size, 1, none⟩ = some (.int .i64 l[j].n) ∧ w'.cell? ⟨wr.heap.size, 2, none⟩ = some (.string l[j].s) ∧ w'.cell? ⟨wr.heap.size, 3, none⟩ = some (.slice sa l[j].args.length sc) ∧ w'.cell? ⟨bw, 0, none⟩ = some (.func (.func 19) #[] #[.pointer (some ⟨bs, 0, none⟩), .pointer (some ⟨bw, 0, none⟩)])) (by kernel_rfl) ?_
        refine wpTk (i := 0) (v := ?_) rfl (Or.inl ⟨by rfl, ?_⟩) (fun _ => ⟨hW1, hx0, hx1, hx2, hx3, hxw⟩) ?_
        rotate_left
        · (intro w' hw; clear hw; go_simp <;> with_reducible rfl)
        try simp only [Act.put, List.setIfInBounds_toArray, List.set_cons_zero, List.set_cons_succ]
        refine wpTk (i := 1) (v := ?_) rfl (Or.inl ⟨by rfl, ?_⟩) (fun _ => ⟨hW1, hx0, hx1, hx2, hx3, hxw⟩) ?_
        rotate_left
        · (intro w' hw; obtain ⟨q0, q1, q2, q3, q4, q5⟩ := hw (by omega); go_simp <;> with_reducible rfl)
        try simp only [Act.put, List.setIfInBounds_toArray, List.set_cons_zero, List.set_cons_succ]
        refine wpTk (i := 2) (v := ?_) rfl (Or.inl ⟨by rfl, ?_⟩) (fun _ => ⟨hW1, hx0, hx1, hx2, hx3, hxw⟩) ?_
        rotate_left
        · (intro w' hw; obtain ⟨q0, q1, q2, q3, q4, q5⟩ := hw (by omega); go_simp <;> with_reducible rfl)
        try simp only [Act.put, List.setIfInBounds_toArray, List.set_cons_zero, List.set_cons_succ]
        refine wpTk (i := 3) (v := ?_) rfl (Or.inl ⟨by rfl, ?_⟩) (fun _ => ⟨hW1, hx0, hx1, hx2, hx3, hxw⟩) ?_
        rotate_left
        · (intro w' hw; obtain ⟨q0, q1, q2, q3, q4, q5⟩ := hw (by omega); go_simp <;> with_reducible rfl)
        try simp only [Act.put, List.setIfInBounds_toArray, List.set_cons_zero, List.set_cons_succ]
        refine wpAnyF_one (i := 4) (by kernel_rfl) (wpOp_run rfl (by rfl) ?_)
        go_simp
        have hKd : Keeps (fun _ => True) wr W0.drew := by subst hW; exact (Keeps.alloc _ _ _).trans (Keeps.drew _ _)
        have hsW : W0.heap.size = wr.heap.size + 1 := by subst hW; simp
        have hrd : Tm.rep A W0.drew l[j] _ := Tm.rep_lasts.1 _ _ _ _ _ HR.out (hKd.mono fun _ _ _ => trivial)
        have hnd : (Tm.renS seenF sj l[j]).2.length ≤ 4194303 := by
          have h1 := Tm.renSL_part l st1 j hlt
          have h3 := HND.out
          simp only [Tm.renS] at h3
          rw [← HM.out] at h3
          dsimp only at h3
          rw [HSJ.out]
          omega
        have hMA : ∀ b, A b → b < W0.drew.heap.size ∧ ¬ Mj b := fun b hb => by
          have h1 := HAM.out b hb
          refine ⟨by simp only [World.size_drew]; omega, fun h2 => ?_⟩
          rcases HMJ.out b h2 with h3 | h3
          · exact h1.2 h3
          · omega
        refine (IH.out _ (List.getElem_mem hlt) sj Mj A _ _ (HI.out.keeps _ _ _ _ HSTJ.out (hKd.mono fun _ _ _ => trivial)) hnd hrd hMA).mono ?_
        rintro e w1 ⟨us, M2, rfl, hch1, hM2, hst2, hr⟩
        obtain ⟨sa', sc', rfl, -⟩ := Tm.rep4 hr
        have hsz := hch1.size
        simp only [World.size_drew] at hsz hM2 hr
        have hlt2 := HO.out.lt
        have hM2l := HI.out.lt _ _ _ hst2
        have hMM : ∀ b, M2 b → M b ∨ w.heap.size + 3 ≤ b := fun b hb => by
          rcases hM2 b hb with h1 | h1
          · exact HMJ.out b h1
          · exact .inr (by omega)
        have hn2 : ∀ b, b < W0.heap.size → ¬ Mj b → ¬ M2 b := fun b hb hn h => by
          rcases hM2 b h with h1 | h1
          · exact hn h1
          · omega
        have hHO : OwnR W0.drew _ _ _ _ _ _ _ := HO.out.keeps Tm.rep_lasts hKd (fun _ _ => trivial) (fun _ _ => trivial)
        have hHO2 : OwnR w1 _ _ _ _ (fun b => w.heap.size + 3 ≤ b ∧ ¬ M2 b) _ _ :=
          ((hHO.mono (A' := fun b => w.heap.size + 3 ≤ b ∧ ¬ M2 b ∧ ¬ Mj b) Tm.rep_lasts (fun b hb hb' => ⟨hb'.1, hn2 b hb hb'.2, hb'.2⟩)).keeps (B := fun b => ¬ Mj b) Tm.rep_lasts (hch1.keeps fun _ _ h => h) (fun _ h => h.2.2) HOB.out).mono Tm.rep_lasts (fun b _ hb => ⟨hb.1, hb.2.1⟩)
        have HO1 := hid hHO2
        have HOB2 : Hid (∀ b, ownB (.slice va j vc) = some b → ¬ M2 b) := fun b hb => hn2 b (by have := (hlt2 b hb).2; omega) (HOB.out b hb)
        have HN := hid (show Tm.rep (fun b => (w.heap.size + 3 ≤ b ∧ ¬ M2 b) ∧ ownB (.slice va j vc) ≠ some b) w1 _ _ from Tm.rep_lasts.2.1 _ _ _ _ _ hr fun b _ hb => ⟨⟨by omega, hb.2⟩, fun e => by have := (hlt2 b e).2; omega⟩)
        have HL := hid (show (Tm.renSL seenF st1 (l.take j)).1.length < 4194304 ∧ w.heap.size + 3 ≤ w1.heap.size by rw [HVL.out]; omega)
        have hnb : ∀ b, b < w.heap.size + 3 → w.heap.size ≤ b → ¬ Mj b := fun b h1 h2 h3 => by
          rcases HMJ.out b h3 with h4 | h4
          · have := HMlt.out b h4; omega
          · omega
        have HCH2 : Hid (Ch M w w1) := hid (((show Ch M w W0.drew by subst hW; exact (HCJ.out.alloc _).drew)).trans hch1 (fun b hb => by rcases HMJ.out b hb with h | h; exact .inl h; exact .inr (by omega)))
        have hkj := hch1.keeps (A := fun b => ¬ Mj b) (fun _ _ h => h)
        have nwr : ¬ Mj wr.heap.size := fun h => by have := HI.out.lt _ _ _ HSTJ.out _ h; omega
        have HQ := hid (show w1.cell? ⟨w.heap.size + 1 + 1, 3, none⟩ = some (.slice va j vc) ∧ w1.cell? ⟨wr.heap.size, 0, none⟩ = some (.int .i64 l[j].kind) ∧ w1.cell? ⟨wr.heap.size, 1, none⟩ = some (.int .i64 l[j].n) ∧ w1.cell? ⟨wr.heap.size, 2, none⟩ = some (.string l[j].s) ∧ w1.cell? ⟨wr.heap.size, 3, none⟩ = some (.slice sa l[j].args.length sc) ∧ w1.cell? ⟨bw, 0, none⟩ = some (.func (.func 19) #[] #[.pointer (some ⟨bs, 0, none⟩), .pointer (some ⟨bw, 0, none⟩)]) from
          ⟨hkj.cell (hnb _ (by omega) (by omega)) hW1, hkj.cell nwr hx0, hkj.cell nwr hx1, hkj.cell nwr hx2, hkj.cell nwr hx3, hst2.cw⟩)
        have HB1' := hid (show w1.heap[w.heap.size + 1 + 1]? = _ from blk_keeps (w := W0.drew) (by subst hW; exact blk_alloc HB1J.out _) hkj (hnb _ (by omega) (by omega)))
        have HB2' := hid (show w1.heap[w.heap.size + 1]? = _ from blk_keeps (w := W0.drew) (by subst hW; exact blk_alloc HB2J.out _) hkj (hnb _ (by omega) (by omega)))
        have HST2 := hid hst2
        have HM2l := hid hM2l
        have HMM := hid hMM
        clear hrd hr hch1 hHO hHO2 hst2 hM2l hMM hn2 hnb hkj nwr hM2 hMA hnd hKd
        refine ⟨fun _ _ _ _ => HQ.out, ?_⟩
        refine wpAnyF_one (i := 5) (by kernel_rfl) (wpOp_run rfl (by rfl) ?_)
        go_simp
        refine ⟨fun _ _ _ _ => ?_, ?_⟩
        · obtain ⟨q0, q1, q2, q3, q4, q5⟩ := HQ.out
          have ka := Keeps.alloc (fun _ => True) w1 (.cells #[.int .i64 (Tm.renS seenF sj l[j]).1.kind, .int .i64 (Tm.renS seenF sj l[j]).1.n, .string (Tm.renS seenF sj l[j]).1.s, .slice sa' (Tm.renS seenF sj l[j]).1.args.length sc'] 27)
          exact ⟨ka.cell trivial q0, ka.cell trivial q1, ka.cell trivial q2, ka.cell trivial q3, ka.cell trivial q4, ka.cell trivial q5⟩
        refine wpAnyF_one (i := 6) (by kernel_rfl) (wpOp_run rfl (by rfl) ?_)
        refine wp_app1 (.tmp 25) (.tmp 29) 22 rfl (w.heap.size + 3) 27 4 56 tyTerm Tm.rep_lasts _ _ rfl HO1.out (Tm.renS seenF sj l[j]).1 [_, _, _, _] rfl rfl HN.out HL.out ?_
        intro v2 w2 hown2 hgrew
        have hk2 := hgrew.keeps (A := fun b => ownB (.slice va j vc) ≠ some b) (fun _ h => h)
        have hka := (Keeps.alloc (fun b => ownB (.slice va j vc) ≠ some b) w1 (.cells #[.int .i64 (Tm.renS seenF sj l[j]).1.kind, .int .i64 (Tm.renS seenF sj l[j]).1.n, .string (Tm.renS seenF sj l[j]).1.s, .slice sa' (Tm.renS seenF sj l[j]).1.args.length sc'] 27)).trans hk2
        have n1 : ownB (.slice va j vc) ≠ some (w.heap.size + 1 + 1) := fun e => by have := (hlt2 _ e).1; omega
        have n2 : ownB (.slice va j vc) ≠ some wr.heap.size := fun e => by have := (hlt2 _ e).2; omega
        have n3 : ownB (.slice va j vc) ≠ some (w.heap.size + 1) := fun e => by have := (hlt2 _ e).1; omega
        have n4 : ownB (.slice va j vc) ≠ some bw := fun e => HOB.out bw e HSTJ.out.mw
        have HB12 := hid (blk_keeps HB1'.out hka n1)
        have HB22 := hid (blk_keeps HB2'.out hka n3)
        have HCH3 := hid (hgrew.ch (HCH2.out.alloc (.cells #[.int .i64 (Tm.renS seenF sj l[j]).1.kind, .int .i64 (Tm.renS seenF sj l[j]).1.n, .string (Tm.renS seenF sj l[j]).1.s, .slice sa' (Tm.renS seenF sj l[j]).1.args.length sc'] 27)) (fun b hb => .inr (by have := (hlt2 b hb).1; omega)))
        have HST3 := hid (HI.out.keeps _ _ _ _ HST2.out (hka.mono fun b _ hb e => HOB2.out b e hb))
        have HOB3 : Hid (∀ b, ownB v2 = some b → ¬ M2 b) := fun b hb hm => by
          have h1 := hgrew.block
          rcases h1 with h1 | h1
          · exact HOB2.out b (h1.symm.trans hb) hm
          · have h2 := h1 b hb
            have h3 := HM2l.out b hm
            simp only [World.size_alloc] at h2
            omega
        obtain ⟨va2, vc2, hv2, hvc2⟩ := hown2.val
        rw [show ((Tm.renSL seenF st1 (l.take j)).1 ++ [(Tm.renS seenF sj l[j]).1]).length = j + 1 by rw [List.length_append, HVL.out]; rfl] at hv2
        subst hv2
        have hz2 := hgrew.size
        have HO2 := hid hown2
        simp only [World.size_alloc] at hz2
        obtain ⟨y0, y1, y2, y3, yf⟩ := blk4 HB12.out
        refine ⟨fun _ _ _ _ => ?_, ?_⟩
        · obtain ⟨q0, q1, q2, q3, q4, q5⟩ := HQ.out
          exact ⟨hka.cell n1 q0, hka.cell n2 q1, hka.cell n2 q2, hka.cell n2 q3, hka.cell n2 q4, hka.cell n4 q5⟩
        clear hown2 hka hk2
        simp only [Act.put, List.setIfInBounds_toArray, List.set_cons_zero, List.set_cons_succ]
        refine wpTk (i := 7) (v := ?_) rfl (Or.inl ⟨by rfl, ?_⟩) (fun h => by omega) ?_
        rotate_left
        · (intro w' hw; clear hw; go_simp <;> with_reducible rfl)
        try simp only [Act.put, List.setIfInBounds_toArray, List.set_cons_zero, List.set_cons_succ]
        refine wpAnyF_one (i := 8) (by kernel_rfl) (wpOp_run rfl (by rfl) ?_)
        go_simp
        refine ⟨fun k0 hk0 _ h12 => ?_, wpAnyF_done (by kernel_rfl) ?_ _⟩
        · rcases h12 with rfl | rfl | rfl
          · exact absurd (show waits _ 8 1 = true by kernel_rfl) (by rw [hk0]; decide)
          · exact absurd (show waits _ 8 2 = true by kernel_rfl) (by rw [hk0]; decide)
          · exact absurd (show waits _ 8 3 = true by kernel_rfl) (by rw [hk0]; decide)
        have HB3 := hid (blk_set HB12.out 3 (.slice va2 (j + 1) vc2))
        have hz3 : (w2.setCell ⟨w.heap.size + 1 + 1, 3, none⟩ (.slice va2 (j + 1) vc2)).heap.size = w2.heap.size := by simp
        have HK3 := hid (Keeps.setCell (fun b => b ≠ w.heap.size + 1 + 1) w2 ⟨w.heap.size + 1 + 1, 3, none⟩ (.slice va2 (j + 1) vc2) (by simp))
        clear hgrew
        go_wp2_with fail
        go_roundw
        case rel =>
          have hnw : ∀ b, M2 b → b ≠ w.heap.size + 1 + 1 := fun b hb e => by
            rcases HMM.out b hb with h | h
            · have := HMlt.out b h; omega
            · omega
          refine ⟨j + 1, _, _, M2, by omega, by go_num, by omega, HCH3.out.setCell (.inr (by simp <;> omega)) _, HMM.out, HI.out.keeps _ _ _ _ HST3.out (HK3.out.mono fun b _ hb => hnw b hb), blk_keeps HB22.out HK3.out (by omega), HB3.out, ?_, HOB3.out, ?_⟩
          · rw [List.take_succ_eq_append_getElem hlt, Tm.renSL_snoc, ← HSJ.out]
          · rw [List.take_succ_eq_append_getElem hlt, Tm.renSL_snoc, ← HSJ.out]
            exact HO2.out.keeps Tm.rep_lasts HK3.out (fun b hb => by omega) (fun b hb => by have := (HO2.out.lt b hb).1; omega)
        case measure => simp [intOf]; omega
      · have : j = l.length := by omega
        subst this
        try clear z0 z1 z2 z3 zf
        obtain ⟨z0, z1, z2, z3, zf⟩ := blk4 HB2J.out
        try clear hcs
        have hcs := cell_set
        try clear HB0
        try clear HB1 HB2 HCH HST1
        try clear x0 x1 x2 x3 xf
        go_wp2_with fail
        refine bodyPost_ret (v := .agg #[.int .i64 k, .int .i64 m, .string s, .slice va l.length vc]) (by simp [results, Tryd.results19, go_sem, hcs, z0, z1, z2, z3]) rfl ⟨[_, _, _, _], Mj, rfl, ?_, fun b hb => ?_, ?_, ?_⟩
        · refine Ch.setCell (Ch.setCell (Ch.setCell (Ch.setCell HCJ.out ?_ _) ?_ _) ?_ _) ?_ _ <;> simp
        · rcases HMJ.out b hb with h | h
          · exact .inl h
          · exact .inr (by omega)
        · have hs2 := HSJ.out
          rw [List.take_length] at hs2
          have h2 : (Tm.renS seenF st1 (.mk k m s l)).2 = sj := by rw [Tm.renS, ← HM.out]; exact hs2.symm
          rw [h2]
          have hnw : ∀ b, Mj b → b ≠ w.heap.size + 1 := fun b hb e => by
            rcases HMJ.out b hb with h | h
            · have := HMlt.out b h; omega
            · omega
          refine HI.out.keeps _ _ _ _ HSTJ.out (Keeps.trans (Keeps.trans (Keeps.trans (Keeps.setCell _ _ _ _ ?_) (Keeps.setCell _ _ _ _ ?_)) (Keeps.setCell _ _ _ _ ?_)) (Keeps.setCell _ _ _ _ ?_)) <;> exact fun h => hnw _ h rfl
        · have hO := HO.out
          rw [List.take_length] at hO
          have hsl := (hO.mono (A' := fun b => w.heap.size + 3 ≤ b ∧ ¬ Mj b) Tm.rep_lasts (fun b _ hb => hb))
          have hsl2 : SlR 4 Tm.rep (fun b => w.heap.size + 3 ≤ b ∧ ¬ Mj b) wr (Tm.renSL seenF st1 l).1 (.slice va l.length vc) := hO.sl' Tm.rep_lasts (by rw [Tm.renSL_length]; exact hlb) (fun b hb => ⟨by have := (HO.out.lt b hb).1; omega, HOB.out b hb⟩)
          rw [Tm.renS, ← HM.out]
          rw [Tm.rep_iff]
          refine ⟨hk, HM64.out, hs, _, rfl, ?_⟩
          refine SlR.mono Tm.rep_lasts (by omega) (SlR.keeps Tm.rep_lasts hsl2 ?_) (fun b _ hb => ⟨by omega, hb.2⟩)
          refine Keeps.trans (Keeps.trans (Keeps.trans (Keeps.setCell _ _ _ _ ?_) (Keeps.setCell _ _ _ _ ?_)) (Keeps.setCell _ _ _ _ ?_)) (Keeps.setCell _ _ _ _ ?_) <;> simp
theorem tidy1_ok (pb bs bw : Nat) : ∀ t, Tidy1OK pb bs bw t := by
  intro t
  induction t using Tm.induct with
  | h k n s l ih => exact tidy1_of pb bs bw k n s l ih
end Go.Proofs.YtlpmfkpefoegeacDoor
