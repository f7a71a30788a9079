/-
  The document's PrintTerm.
-/
import Derived.Test.YtlpmfkpefoegeacGreatDoorQDec
import Derived.Test.YtlpmfkpefoegeacGreatDoorQJoinL
import Derived.Test.YtlpmfkpefoegeacGreatDoorPRead2
import Derived.Test.YtlpmfkpefoegeacGreatDoorQNodesOf
import Derived.Test.YtlpmfkpefoegeacGreatDoorQRd6
import Derived.Test.YtlpmfkpefoegeacGreatDoorPPrint
namespace Go.Proofs.YtlpmfkpefoegeacGreatDoor
set_option linter.unusedVariables false
set_option linter.unusedSimpArgs false
open Go.RowKit
def prOk (s : Str) : Prop := s.length ≤ 5000000000000
theorem prR_lasts : Lasts (flatR strV prOk) := flatR_lasts strV_one
theorem printA_tail : ∀ r : List Tm, printA 44 r = Lib.joinTail [44] (r.map printF)
  | [] => rfl
  | t :: r => by rw [printA, printA_tail r]; simp [Lib.joinTail]
theorem printA_join (l : List Tm) (h : l ≠ []) : printA 40 l = 40 :: Lib.join (l.map printF) [44] := by
  cases l with
  | nil => exact absurd rfl h
  | cons t r => rw [printA, List.map_cons, Lib.join_cons, printA_tail]
theorem abc_at : ∀ k : Nat, k ≤ 25 → (⟨#[65, 66, 67, 68, 69, 70, 71, 72, 73, 74, 75, 76, 77, 78, 79, 80, 81, 82, 83, 84, 85, 86, 87, 88, 89, 90]⟩ : ByteArray).extract k (k + 1) = bs [UInt8.ofNat (65 + k)] := by
  have h : ∀ k ∈ List.range 26, (⟨#[65, 66, 67, 68, 69, 70, 71, 72, 73, 74, 75, 76, 77, 78, 79, 80, 81, 82, 83, 84, 85, 86, 87, 88, 89, 90]⟩ : ByteArray).extract k (k + 1) = bs [UInt8.ofNat (65 + k)] := by decide
  exact fun k hk => h k (List.mem_range.2 (by omega))
theorem printL_len (l : List Tm) (h : ∀ x ∈ l, ∃ A w us, Tm.rep A w x us) : (printA 40 l).length ≤ wtL l := by
  have : ∀ (l : List Tm) (c : UInt8), (∀ x ∈ l, ∃ A w us, Tm.rep A w x us) → (printA c l).length ≤ wtL l := by
    intro l
    induction l with
    | nil => intro c _; simp [printA, wtL]
    | cons x r ih =>
      intro c hm
      have h1 := printF_len x (fun _ => trivial) (hm x (by simp))
      have h2 := ih 44 fun y hy => hm y (by simp [hy])
      simp only [printA, wtL, List.length_cons, List.length_append]
      omega
  exact this l 40 h
def PrTOK (t : Tm) : Prop := ∀ (A : Nat → Prop) (w : World) (us : List Value), t.nodes ≤ 4194304 → Tm.rep A w t us →
  Calls Tryz.prog 19 #[.agg us.toArray] w (Pure w (fun v _ => v = .string (bs (printF t))))
set_option maxRecDepth 100000 in
set_option maxHeartbeats 16000000 in
theorem prt_of (k n : Int) (s : ByteArray) (l : List Tm) (ih : ∀ t ∈ l, PrTOK t) : PrTOK (.mk k n s l) := by
  intro A w us hnd hv
  rw [Tm.rep_iff] at hv
  obtain ⟨hk, hn, hs, v, rfl, hl⟩ := hv
  have hwl := wt_nodesL hl
  obtain ⟨a, cap, b, off, rfl, hlc, hcm, hlb, ha, he⟩ := hl.at
  have HE := hid he
  have HA := hid ha
  have IH := hid ih
  have HN := hid hn
  have HND := hid hnd
  have hwl2 : wtL l ≤ 4194304 * 1048600 := Nat.le_trans hwl (by simp only [Tm.nodes] at hnd; exact Nat.mul_le_mul_right _ (by omega))
  have hn0 := hn.1
  have hn1 := hn.2
  have HB0 := hid ((Below.refl w.heap.size w).alloc (Nat.le_refl _) (.cells #[.int .i64 k, .int .i64 n, .string s, .slice a l.length cap] 34))
  unfold maxLen at hcm
  clear he ha hl ih hnd hn hwl
  by_cases h0 : k = 0
  · subst h0
    have HP := hid (show printF (.mk 0 n s l) = if n < 0 ∨ 25 < n then [90, 122] else [UInt8.ofNat (65 + n.toNat)] by unfold printF; rw [if_pos rfl])
    by_cases hlo : n < 0
    · have hd : decide (n < 0) = true := by simpa using hlo
      have HP2 := hid (HP.out.trans (if_pos (.inl hlo)))
      clear hlo
      go_enter Tryz.func19, Tryz.ntmps19
      go_wp2_with fail
      go_ret
      rw [HP2.out]
      exact ⟨_, rfl, HB0.out, rfl⟩
    · have hd : decide (n < 0) = false := by simpa using hlo
      by_cases hhi : 25 < n
      · have hd2 : decide (25 < n) = true := by simpa using hhi
        have HP2 := hid (HP.out.trans (if_pos (.inr hhi)))
        clear hlo hhi
        go_enter Tryz.func19, Tryz.ntmps19
        go_wp2_with fail
        go_ret
        rw [HP2.out]
        exact ⟨_, rfl, HB0.out, rfl⟩
      · have hd2 : decide (25 < n) = false := by simpa using hhi
        have HP2 := hid (HP.out.trans (if_neg (by omega)))
        have hlo' : 0 ≤ n := by omega
        have hhi' : n ≤ 25 := by omega
        clear hlo hhi
        have HX := hid (abc_at n.toNat (by omega))
        have HU := hid (show (n + 1).toNat = n.toNat + 1 by omega)
        go_enter Tryz.func19, Tryz.ntmps19
        go_wp2_with fail
        go_ret
        rw [HP2.out, ← HX.out, ← HU.out]
        exact ⟨_, rfl, HB0.out, rfl⟩
  have hk0 : (k == 0) = false := by simpa using h0
  by_cases h2 : k = 2
  · subst h2
    have HP2 := hid (show printF (.mk 2 n s l) = Lib.itoa n by unfold printF; rw [if_neg (by omega), if_pos rfl])
    clear h0 hk0
    go_enter Tryz.func19, Tryz.ntmps19
    go_wp2_with fail
    refine (decimal_ok n.natAbs n rfl HN.out _).mono ?_
    rintro e w1 ⟨rfl, rfl⟩
    go_wp2_with fail
    go_ret
    rw [HP2.out]
    exact ⟨_, rfl, HB0.out, rfl⟩
  have hk2 : (k == 2) = false := by simpa using h2
  by_cases h13 : k = 1 ∨ k = 3
  · have HP2 := hid (show printF (.mk k n s l) = s.data.toList ++ printA 40 l ++ (if l = [] then [] else [41]) by unfold printF; rw [if_neg h0, if_neg h2, if_pos h13])
    clear h0 h2
    rcases h13 with rfl | rfl
    · go_enter Tryz.func19, Tryz.ntmps19
      go_wp2_with fail
      obtain ⟨W1, hW1⟩ : ∃ W1, W1 = w.alloc (.cells #[.int .i64 1, .int .i64 n, .string s, .slice a l.length cap] 34) := ⟨_, rfl⟩
      have HX1 := hid (show W1.heap[w.heap.size]? = some (.cells #[.int .i64 1, .int .i64 n, .string s, .slice a l.length cap] 34 (0, 0)) by rw [hW1]; exact blk_new _ _)
      rw [← hW1] at HB0
      rw [← hW1]
      have hzw : W1.heap.size = w.heap.size + 1 := by rw [hW1]; simp
      have HZW := hid hzw
      clear hW1 hzw
      go_loopw [3, 49] (fun u3 u49 wr => ∃ j : Nat, j ≤ l.length ∧ u49 = .int .i64 (j : Int) ∧ OwnF strV prOk 9 1 wr W1.heap.size ((l.take j).map printF) u3 ∧ Below w.heap.size w wr ∧ Below W1.heap.size W1 wr) (fun _ u49 _ => l.length - (intOf u49).toNat)
      case atStart => exact ⟨0, Nat.zero_le _, rfl, OwnF.nil, HB0.out, Below.refl _ _⟩
      case round =>
        obtain ⟨j, hj, rfl, ho, hb, hb1⟩ := hrel
        have HO := hid ho
        have HB := hid hb
        have HBW := hid hb1
        have hj0 : (0 : Int) ≤ (j : Int) := Int.natCast_nonneg _
        have HLM := hid (show ((l.take j).map printF).length = j by rw [List.length_map, List.length_take]; omega)
        obtain ⟨oa, oc, hov, hol, hom⟩ := ho.val
        rw [HLM.out] at hov hol
        subst hov
        unfold maxLen at hom
        clear ho hb hb1
        by_cases hlt : j < l.length
        · obtain ⟨rfl, hAb⟩ := HA.out (by omega)
          have hlt' : (j : Int) < (l.length : Int) := by omega
          obtain ⟨sa, sc, c0, c1, c2, c3, hr⟩ := tm_cells HE.out hAb (Keeps.of_below HB.out) hlt
          have lb : b < wr.heap.size := World.block_lt_of_cell? wr _ c0
          have htk := wtL_take l j hlt
          have hpx := printF_len l[j] (fun _ => trivial) ⟨A, wr, _, hr⟩
          have HAX := hid ((Below.refl wr.heap.size wr).alloc (Nat.le_refl _) (.cells #[.int .i64 l[j].kind, .int .i64 l[j].n, .string l[j].s, .slice sa l[j].args.length sc] 34))
          have HB2 := hid (HB.out.trans (HAX.out.mono HB.out.size))
          have HBW2 := hid (HBW.out.trans (HAX.out.mono HBW.out.size))
          have HNX := hid (show l[j].nodes ≤ 4194304 by have := nodesL_mem (List.getElem_mem hlt); have := HND.out; simp only [Tm.nodes] at this; omega)
          have HPO := hid (show prOk (printF l[j]) by unfold prOk; omega)
          have HCALL := hid (IH.out _ (List.getElem_mem hlt) A (wr.alloc (.cells #[.int .i64 l[j].kind, .int .i64 l[j].n, .string l[j].s, .slice sa l[j].args.length sc] 34)) _ HNX.out (Tm.rep_lasts.1 _ _ _ _ _ hr (Keeps.of_below HAX.out)))
          have HLT := hid hlt
          clear hr htk hpx
          go_wp2_with fail
          refine HCALL.out.mono ?_
          rintro e w2 ⟨v, rfl, hb2, rfl⟩
          have HB3 := hid (HB2.out.trans (hb2.mono HB2.out.size))
          have HBW3 := hid (HBW2.out.trans (hb2.mono HBW2.out.size))
          have HO3 := hid ((HO.out.below HAX.out).below (hb2.mono (Nat.le_refl _)))
          have HL4 := hid (show l.length ≤ 4194303 by have h1 := nodesLen l; have h2 := HND.out; simp only [Tm.nodes] at h2; omega)
          clear hb2 c0 c1 c2 c3 lb
          go_wp2_with (at_builtin; go_must (refine wpList_app1 rfl (.tmp 53) (.tmp 56) 45 rfl W1.heap.size 9 1 16 tyStrs prR_lasts (A := fun _ => True) (.slice oa j oc) ((l.take j).map printF) rfl (OwnF.ownR strV_len HO3.out _) (printF l[j]) [.string (bs (printF l[j]))] (by rfl) rfl ⟨HPO.out, rfl⟩ ⟨by rw [HLM.out]; have := HL4.out; have := HLT.out; omega, HBW3.out.size⟩ ?_); go_must (intro v2 w6 hown hg; have hof := OwnF.of_ownR hown; obtain ⟨pa2, pc2, hv2, -⟩ := OwnR.val' hown; rw [List.length_append, HLM.out, List.length_singleton] at hv2; subst hv2; have HO4 := hid hof; have HB6 := hid (hg.below (HB3.out.alloc HB3.out.size _) (by simp only [World.size_alloc]; have := HB3.out.size; omega) (fun k hk => by have := (HO3.out.lt k hk).1; have := HZW.out; omega)); have HBW6 := hid (hg.below (HBW3.out.alloc HBW3.out.size _) (by simp only [World.size_alloc]; have := HBW3.out.size; omega) (fun k hk => (HO3.out.lt k hk).1)); clear hown hg hof))
          go_roundw
          case rel => exact ⟨j + 1, HLT.out, by go_num, by rw [List.take_succ_eq_append_getElem HLT.out, List.map_append]; exact HO4.out, HB6.out, HBW6.out⟩
          case measure => simp [intOf]; omega
        · have hje : j = l.length := by omega
          subst hje
          obtain ⟨x0, x1, x2, x3, xf⟩ := blk4 (blk_below HX1.out HBW.out)
          have hxl := blk_lt (blk_below HX1.out HBW.out)
          have hlt' : ¬ (l.length : Int) < (l.length : Int) := by omega
          by_cases hnil : l = []
          · have hz : ((l.length : Int) == 0) = true := by rw [hnil]; rfl
            have hzi : (l.length : Int) = 0 := by rw [hnil]; rfl
            have HNIL := hid hnil
            clear hnil hlt'
            go_wp2_with fail
            go_ret
            rw [HP2.out, if_pos HNIL.out]
            exact ⟨.string s, rfl, HB.out, by rw [HNIL.out, printA, List.append_nil, List.append_nil, bs_of]⟩
          · have hp : 0 < l.length := List.length_pos_iff.2 hnil
            have hz : ((l.length : Int) == 0) = false := by rw [beq_eq_false_iff_ne]; omega
            have HNIL := hid hnil
            have HJN := hid (printA_join l hnil)
            obtain ⟨ga, gcap, hge, -, -, -, hob, hfz, hgbl, hgb, hcell⟩ := OwnF.at strV_len HO.out (by rw [HLM.out]; exact hp)
            simp only [Value.slice.injEq] at hge
            obtain ⟨rfl, -, rfl⟩ := hge
            have HOL := hid (show (Lib.join (l.map printF) [44]).length ≤ 5000000000000 by
              have h1 := printL_len l (fun x hx => by
                obtain ⟨i, hi, hix⟩ := List.getElem_of_mem hx
                obtain ⟨us, -, hru, -⟩ := HE.out i x (by rw [← hix]; exact List.getElem?_eq_getElem hi)
                exact ⟨A, w, us, hru⟩)
              rw [HJN.out] at h1
              simp only [List.length_cons] at h1
              omega)
            have hmm : ((l.map printF).map bs).map (·.data.toList) = l.map printF := by simp [bs_data]
            have hml : ((l.map printF).map bs).length = l.length := by simp
            have hcl : ∀ (i : Nat) x, ((l.map printF).map bs)[i]? = some x → wr.cell? ⟨ga, 0 + i, none⟩ = some (.string x) := fun i x hx => by
              have hi : i < l.length := by have := (List.getElem?_eq_some_iff.1 hx).1; simpa using this
              have h2 := hcell i (by rw [HLM.out]; exact hi) 0 _ rfl
              rw [Nat.mul_one, Nat.add_zero] at h2
              rw [Nat.zero_add]
              have h3 : ((l.map printF).map bs)[i]? = some (bs (printF l[i])) := by simp [hi]
              rw [h3] at hx
              simp only [Option.some.injEq] at hx
              subst hx
              rw [h2]
              simp
            have HJ := hid (fun (W : World) (hk : ∀ (i : Nat) x, ((l.map printF).map bs)[i]? = some x → W.cell? ⟨ga, 0 + i, none⟩ = some (.string x)) (hw : ga < W.heap.size) => join_laid ga 0 oc ((l.map printF).map bs) ⟨#[44]⟩ W hk hw (by rw [hml]; omega) (by rw [hml]; omega) (by rw [hmm]; have := HOL.out; show (Lib.join (l.map printF) [44]).length ≤ _; omega))
            rw [hmm, hml] at HJ
            have HCL := hid hcl
            have hs1 : s.size + 1 ≤ 9223372036854775807 := by omega
            obtain ⟨J, hJ⟩ : ∃ J, J = Lib.join (l.map printF) [44] := ⟨_, rfl⟩
            rw [← hJ] at HJ HJN HOL
            have hq2 : wr.drew.cell? ⟨w.heap.size, 2, none⟩ = some (.string s) := x2
            have HS1 := hid (show (s ++ ⟨#[40]⟩ : ByteArray).size ≤ 1048577 ∧ (⟨J.toArray⟩ : ByteArray).size ≤ 5000000000000 from ⟨by rw [ByteArray.size_append]; show s.size + 1 ≤ _; omega, HOL.out⟩)
            have hs1 : s.size + (⟨#[40]⟩ : ByteArray).size ≤ 9223372036854775807 := by show s.size + 1 ≤ _; omega
            clear hnil hcell hob hfz hmm hml hcl hlt' hJ
            go_wp2_with fail
            refine wp_region_F (F := fun k w' => k = 1 → w'.cell? ⟨w.heap.size, 2, none⟩ = some (.string s)) (by kernel_rfl) ?_
            refine wpTk (i := 0) (v := ?_) rfl (Or.inl ⟨by rfl, ?_⟩) (fun _ => hq2) ?_
            rotate_left
            · (intro w' hw; clear hw; go_simp <;> with_reducible rfl)
            try simp only [Act.put, List.setIfInBounds_toArray, List.set_cons_zero, List.set_cons_succ]
            refine wpTk (i := 1) (v := ?_) rfl (Or.inl ⟨by rfl, ?_⟩) (fun _ => hq2) ?_
            rotate_left
            · (intro w' hw; obtain q2 := hw (by omega); go_simp <;> with_reducible rfl)
            try simp only [Act.put, List.setIfInBounds_toArray, List.set_cons_zero, List.set_cons_succ]
            refine wpTk (i := 2) (v := .string (s ++ ⟨#[40]⟩)) rfl (Or.inl ⟨by rfl, ?_⟩) (fun _ => hq2) ?_
            · (intro w' hw; clear hw; go_simp <;> first | with_reducible rfl | omega)
            try simp only [Act.put, List.setIfInBounds_toArray, List.set_cons_zero, List.set_cons_succ]
            refine wpTk (i := 3) (v := ?_) rfl (Or.inl ⟨by rfl, ?_⟩) (fun _ => hq2) ?_
            rotate_left
            · (intro w' hw; clear hw; go_simp <;> with_reducible rfl)
            try simp only [Act.put, List.setIfInBounds_toArray, List.set_cons_zero, List.set_cons_succ]
            refine wpAnyF_one (i := 4) (by kernel_rfl) (wpOp_run rfl (by rfl) ?_)
            go_simp
            refine (HJ.out wr.drew (fun i x hx => HCL.out i x hx) hgbl).mono ?_
            rintro e w5 ⟨rfl, hb5⟩
            have HB5 := hid (HB.out.drew.trans (hb5.mono HB.out.size))
            have hq5 : w5.cell? ⟨w.heap.size, 2, none⟩ = some (.string s) := (Keeps.of_below (A := fun _ => True) hb5).cell trivial hq2
            clear hb5
            refine ⟨fun _ _ _ _ => hq5, ?_⟩
            have HP0 := hid (show s ++ (⟨#[40]⟩ : ByteArray) ++ (⟨J.toArray⟩ : ByteArray) ++ (⟨#[41]⟩ : ByteArray) = bs (printF (.mk 1 n s l)) by
              rw [HP2.out, if_neg HNIL.out, HJN.out]
              apply ByteArray.ext
              simp [ByteArray.data_append, bs])
            obtain ⟨hz1, hz2⟩ := HS1.out
            obtain ⟨P1, hP1⟩ : ∃ P1, s ++ (⟨#[40]⟩ : ByteArray) = P1 := ⟨_, rfl⟩
            obtain ⟨P2, hP2⟩ : ∃ P2 : ByteArray, ⟨J.toArray⟩ = P2 := ⟨_, rfl⟩
            rw [hP1, hP2] at HP0
            rw [hP1] at hz1
            rw [hP2] at hz2
            rw [hP1, hP2]
            have HP12 := HP0
            have hs2 : P1.size + P2.size ≤ 9223372036854775807 := by omega
            have hs3 : (P1 ++ P2).size + (⟨#[41]⟩ : ByteArray).size ≤ 9223372036854775807 := by rw [ByteArray.size_append]; show P1.size + P2.size + 1 ≤ _; omega
            have hs4 : P1.size + P2.size + (⟨#[41]⟩ : ByteArray).size ≤ 9223372036854775807 := by show P1.size + P2.size + 1 ≤ _; omega
            clear hP1 hP2
            refine wpTk (i := 5) (v := .string (P1 ++ P2)) rfl (Or.inl ⟨by rfl, ?_⟩) (fun _ => hq5) ?_
            · (intro w' hw; clear hw; go_simp <;> first | with_reducible rfl | omega)
            try simp only [Act.put, List.setIfInBounds_toArray, List.set_cons_zero, List.set_cons_succ]
            refine wpTk (i := 6) (v := .string (P1 ++ P2 ++ ⟨#[41]⟩)) rfl (Or.inl ⟨by rfl, ?_⟩) (fun _ => hq5) ?_
            · (intro w' hw; clear hw; go_simp <;> first | with_reducible rfl | omega)
            try simp only [Act.put, List.setIfInBounds_toArray, List.set_cons_zero, List.set_cons_succ]
            refine wpAnyF_one (i := 7) (by kernel_rfl) (wpOp_run rfl (by rfl) ?_)
            go_simp
            refine ⟨fun _ _ h => h, wpAnyF_done (by kernel_rfl) ?_ _⟩
            go_wp2_with fail
            go_ret
            exact ⟨_, rfl, HB5.out, congrArg Value.string HP12.out⟩
    · go_enter Tryz.func19, Tryz.ntmps19
      go_wp2_with fail
      obtain ⟨W1, hW1⟩ : ∃ W1, W1 = w.alloc (.cells #[.int .i64 3, .int .i64 n, .string s, .slice a l.length cap] 34) := ⟨_, rfl⟩
      have HX1 := hid (show W1.heap[w.heap.size]? = some (.cells #[.int .i64 3, .int .i64 n, .string s, .slice a l.length cap] 34 (0, 0)) by rw [hW1]; exact blk_new _ _)
      rw [← hW1] at HB0
      rw [← hW1]
      have hzw : W1.heap.size = w.heap.size + 1 := by rw [hW1]; simp
      have HZW := hid hzw
      clear hW1 hzw
      go_loopw [3, 49] (fun u3 u49 wr => ∃ j : Nat, j ≤ l.length ∧ u49 = .int .i64 (j : Int) ∧ OwnF strV prOk 9 1 wr W1.heap.size ((l.take j).map printF) u3 ∧ Below w.heap.size w wr ∧ Below W1.heap.size W1 wr) (fun _ u49 _ => l.length - (intOf u49).toNat)
      case atStart => exact ⟨0, Nat.zero_le _, rfl, OwnF.nil, HB0.out, Below.refl _ _⟩
      case round =>
        obtain ⟨j, hj, rfl, ho, hb, hb1⟩ := hrel
        have HO := hid ho
        have HB := hid hb
        have HBW := hid hb1
        have hj0 : (0 : Int) ≤ (j : Int) := Int.natCast_nonneg _
        have HLM := hid (show ((l.take j).map printF).length = j by rw [List.length_map, List.length_take]; omega)
        obtain ⟨oa, oc, hov, hol, hom⟩ := ho.val
        rw [HLM.out] at hov hol
        subst hov
        unfold maxLen at hom
        clear ho hb hb1
        by_cases hlt : j < l.length
        · obtain ⟨rfl, hAb⟩ := HA.out (by omega)
          have hlt' : (j : Int) < (l.length : Int) := by omega
          obtain ⟨sa, sc, c0, c1, c2, c3, hr⟩ := tm_cells HE.out hAb (Keeps.of_below HB.out) hlt
          have lb : b < wr.heap.size := World.block_lt_of_cell? wr _ c0
          have htk := wtL_take l j hlt
          have hpx := printF_len l[j] (fun _ => trivial) ⟨A, wr, _, hr⟩
          have HAX := hid ((Below.refl wr.heap.size wr).alloc (Nat.le_refl _) (.cells #[.int .i64 l[j].kind, .int .i64 l[j].n, .string l[j].s, .slice sa l[j].args.length sc] 34))
          have HB2 := hid (HB.out.trans (HAX.out.mono HB.out.size))
          have HBW2 := hid (HBW.out.trans (HAX.out.mono HBW.out.size))
          have HNX := hid (show l[j].nodes ≤ 4194304 by have := nodesL_mem (List.getElem_mem hlt); have := HND.out; simp only [Tm.nodes] at this; omega)
          have HPO := hid (show prOk (printF l[j]) by unfold prOk; omega)
          have HCALL := hid (IH.out _ (List.getElem_mem hlt) A (wr.alloc (.cells #[.int .i64 l[j].kind, .int .i64 l[j].n, .string l[j].s, .slice sa l[j].args.length sc] 34)) _ HNX.out (Tm.rep_lasts.1 _ _ _ _ _ hr (Keeps.of_below HAX.out)))
          have HLT := hid hlt
          clear hr htk hpx
          go_wp2_with fail
          refine HCALL.out.mono ?_
          rintro e w2 ⟨v, rfl, hb2, rfl⟩
          have HB3 := hid (HB2.out.trans (hb2.mono HB2.out.size))
          have HBW3 := hid (HBW2.out.trans (hb2.mono HBW2.out.size))
          have HO3 := hid ((HO.out.below HAX.out).below (hb2.mono (Nat.le_refl _)))
          have HL4 := hid (show l.length ≤ 4194303 by have h1 := nodesLen l; have h2 := HND.out; simp only [Tm.nodes] at h2; omega)
          clear hb2 c0 c1 c2 c3 lb
          go_wp2_with (at_builtin; go_must (refine wpList_app1 rfl (.tmp 53) (.tmp 56) 45 rfl W1.heap.size 9 1 16 tyStrs prR_lasts (A := fun _ => True) (.slice oa j oc) ((l.take j).map printF) rfl (OwnF.ownR strV_len HO3.out _) (printF l[j]) [.string (bs (printF l[j]))] (by rfl) rfl ⟨HPO.out, rfl⟩ ⟨by rw [HLM.out]; have := HL4.out; have := HLT.out; omega, HBW3.out.size⟩ ?_); go_must (intro v2 w6 hown hg; have hof := OwnF.of_ownR hown; obtain ⟨pa2, pc2, hv2, -⟩ := OwnR.val' hown; rw [List.length_append, HLM.out, List.length_singleton] at hv2; subst hv2; have HO4 := hid hof; have HB6 := hid (hg.below (HB3.out.alloc HB3.out.size _) (by simp only [World.size_alloc]; have := HB3.out.size; omega) (fun k hk => by have := (HO3.out.lt k hk).1; have := HZW.out; omega)); have HBW6 := hid (hg.below (HBW3.out.alloc HBW3.out.size _) (by simp only [World.size_alloc]; have := HBW3.out.size; omega) (fun k hk => (HO3.out.lt k hk).1)); clear hown hg hof))
          go_roundw
          case rel => exact ⟨j + 1, HLT.out, by go_num, by rw [List.take_succ_eq_append_getElem HLT.out, List.map_append]; exact HO4.out, HB6.out, HBW6.out⟩
          case measure => simp [intOf]; omega
        · have hje : j = l.length := by omega
          subst hje
          obtain ⟨x0, x1, x2, x3, xf⟩ := blk4 (blk_below HX1.out HBW.out)
          have hxl := blk_lt (blk_below HX1.out HBW.out)
          have hlt' : ¬ (l.length : Int) < (l.length : Int) := by omega
          by_cases hnil : l = []
          · have hz : ((l.length : Int) == 0) = true := by rw [hnil]; rfl
            have hzi : (l.length : Int) = 0 := by rw [hnil]; rfl
            have HNIL := hid hnil
            clear hnil hlt'
            go_wp2_with fail
            go_ret
            rw [HP2.out, if_pos HNIL.out]
            exact ⟨.string s, rfl, HB.out, by rw [HNIL.out, printA, List.append_nil, List.append_nil, bs_of]⟩
          · have hp : 0 < l.length := List.length_pos_iff.2 hnil
            have hz : ((l.length : Int) == 0) = false := by rw [beq_eq_false_iff_ne]; omega
            have HNIL := hid hnil
            have HJN := hid (printA_join l hnil)
            obtain ⟨ga, gcap, hge, -, -, -, hob, hfz, hgbl, hgb, hcell⟩ := OwnF.at strV_len HO.out (by rw [HLM.out]; exact hp)
            simp only [Value.slice.injEq] at hge
            obtain ⟨rfl, -, rfl⟩ := hge
            have HOL := hid (show (Lib.join (l.map printF) [44]).length ≤ 5000000000000 by
              have h1 := printL_len l (fun x hx => by
                obtain ⟨i, hi, hix⟩ := List.getElem_of_mem hx
                obtain ⟨us, -, hru, -⟩ := HE.out i x (by rw [← hix]; exact List.getElem?_eq_getElem hi)
                exact ⟨A, w, us, hru⟩)
              rw [HJN.out] at h1
              simp only [List.length_cons] at h1
              omega)
            have hmm : ((l.map printF).map bs).map (·.data.toList) = l.map printF := by simp [bs_data]
            have hml : ((l.map printF).map bs).length = l.length := by simp
            have hcl : ∀ (i : Nat) x, ((l.map printF).map bs)[i]? = some x → wr.cell? ⟨ga, 0 + i, none⟩ = some (.string x) := fun i x hx => by
              have hi : i < l.length := by have := (List.getElem?_eq_some_iff.1 hx).1; simpa using this
              have h2 := hcell i (by rw [HLM.out]; exact hi) 0 _ rfl
              rw [Nat.mul_one, Nat.add_zero] at h2
              rw [Nat.zero_add]
              have h3 : ((l.map printF).map bs)[i]? = some (bs (printF l[i])) := by simp [hi]
              rw [h3] at hx
              simp only [Option.some.injEq] at hx
              subst hx
              rw [h2]
              simp
            have HJ := hid (fun (W : World) (hk : ∀ (i : Nat) x, ((l.map printF).map bs)[i]? = some x → W.cell? ⟨ga, 0 + i, none⟩ = some (.string x)) (hw : ga < W.heap.size) => join_laid ga 0 oc ((l.map printF).map bs) ⟨#[44]⟩ W hk hw (by rw [hml]; omega) (by rw [hml]; omega) (by rw [hmm]; have := HOL.out; show (Lib.join (l.map printF) [44]).length ≤ _; omega))
            rw [hmm, hml] at HJ
            have HCL := hid hcl
            have hs1 : s.size + 1 ≤ 9223372036854775807 := by omega
            obtain ⟨J, hJ⟩ : ∃ J, J = Lib.join (l.map printF) [44] := ⟨_, rfl⟩
            rw [← hJ] at HJ HJN HOL
            have hq2 : wr.drew.cell? ⟨w.heap.size, 2, none⟩ = some (.string s) := x2
            have HS1 := hid (show (s ++ ⟨#[40]⟩ : ByteArray).size ≤ 1048577 ∧ (⟨J.toArray⟩ : ByteArray).size ≤ 5000000000000 from ⟨by rw [ByteArray.size_append]; show s.size + 1 ≤ _; omega, HOL.out⟩)
            have hs1 : s.size + (⟨#[40]⟩ : ByteArray).size ≤ 9223372036854775807 := by show s.size + 1 ≤ _; omega
            clear hnil hcell hob hfz hmm hml hcl hlt' hJ
            go_wp2_with fail
            refine wp_region_F (F := fun k w' => k = 1 → w'.cell? ⟨w.heap.size, 2, none⟩ = some (.string s)) (by kernel_rfl) ?_
            refine wpTk (i := 0) (v := ?_) rfl (Or.inl ⟨by rfl, ?_⟩) (fun _ => hq2) ?_
            rotate_left
            · (intro w' hw; clear hw; go_simp <;> with_reducible rfl)
            try simp only [Act.put, List.setIfInBounds_toArray, List.set_cons_zero, List.set_cons_succ]
            refine wpTk (i := 1) (v := ?_) rfl (Or.inl ⟨by rfl, ?_⟩) (fun _ => hq2) ?_
            rotate_left
            · (intro w' hw; obtain q2 := hw (by omega); go_simp <;> with_reducible rfl)
            try simp only [Act.put, List.setIfInBounds_toArray, List.set_cons_zero, List.set_cons_succ]
            refine wpTk (i := 2) (v := .string (s ++ ⟨#[40]⟩)) rfl (Or.inl ⟨by rfl, ?_⟩) (fun _ => hq2) ?_
            · (intro w' hw; clear hw; go_simp <;> first | with_reducible rfl | omega)
            try simp only [Act.put, List.setIfInBounds_toArray, List.set_cons_zero, List.set_cons_succ]
            refine wpTk (i := 3) (v := ?_) rfl (Or.inl ⟨by rfl, ?_⟩) (fun _ => hq2) ?_
            rotate_left
            · (intro w' hw; clear hw; go_simp <;> with_reducible rfl)
            try simp only [Act.put, List.setIfInBounds_toArray, List.set_cons_zero, List.set_cons_succ]
            refine wpAnyF_one (i := 4) (by kernel_rfl) (wpOp_run rfl (by rfl) ?_)
            go_simp
            refine (HJ.out wr.drew (fun i x hx => HCL.out i x hx) hgbl).mono ?_
            rintro e w5 ⟨rfl, hb5⟩
            have HB5 := hid (HB.out.drew.trans (hb5.mono HB.out.size))
            have hq5 : w5.cell? ⟨w.heap.size, 2, none⟩ = some (.string s) := (Keeps.of_below (A := fun _ => True) hb5).cell trivial hq2
            clear hb5
            refine ⟨fun _ _ _ _ => hq5, ?_⟩
            have HP0 := hid (show s ++ (⟨#[40]⟩ : ByteArray) ++ (⟨J.toArray⟩ : ByteArray) ++ (⟨#[41]⟩ : ByteArray) = bs (printF (.mk 3 n s l)) by
              rw [HP2.out, if_neg HNIL.out, HJN.out]
              apply ByteArray.ext
              simp [ByteArray.data_append, bs])
            obtain ⟨hz1, hz2⟩ := HS1.out
            obtain ⟨P1, hP1⟩ : ∃ P1, s ++ (⟨#[40]⟩ : ByteArray) = P1 := ⟨_, rfl⟩
            obtain ⟨P2, hP2⟩ : ∃ P2 : ByteArray, ⟨J.toArray⟩ = P2 := ⟨_, rfl⟩
            rw [hP1, hP2] at HP0
            rw [hP1] at hz1
            rw [hP2] at hz2
            rw [hP1, hP2]
            have HP12 := HP0
            have hs2 : P1.size + P2.size ≤ 9223372036854775807 := by omega
            have hs3 : (P1 ++ P2).size + (⟨#[41]⟩ : ByteArray).size ≤ 9223372036854775807 := by rw [ByteArray.size_append]; show P1.size + P2.size + 1 ≤ _; omega
            have hs4 : P1.size + P2.size + (⟨#[41]⟩ : ByteArray).size ≤ 9223372036854775807 := by show P1.size + P2.size + 1 ≤ _; omega
            clear hP1 hP2
            refine wpTk (i := 5) (v := .string (P1 ++ P2)) rfl (Or.inl ⟨by rfl, ?_⟩) (fun _ => hq5) ?_
            · (intro w' hw; clear hw; go_simp <;> first | with_reducible rfl | omega)
            try simp only [Act.put, List.setIfInBounds_toArray, List.set_cons_zero, List.set_cons_succ]
            refine wpTk (i := 6) (v := .string (P1 ++ P2 ++ ⟨#[41]⟩)) rfl (Or.inl ⟨by rfl, ?_⟩) (fun _ => hq5) ?_
            · (intro w' hw; clear hw; go_simp <;> first | with_reducible rfl | omega)
            try simp only [Act.put, List.setIfInBounds_toArray, List.set_cons_zero, List.set_cons_succ]
            refine wpAnyF_one (i := 7) (by kernel_rfl) (wpOp_run rfl (by rfl) ?_)
            go_simp
            refine ⟨fun _ _ h => h, wpAnyF_done (by kernel_rfl) ?_ _⟩
            go_wp2_with fail
            go_ret
            exact ⟨_, rfl, HB5.out, congrArg Value.string HP12.out⟩
  · have HP2 := hid (show printF (.mk k n s l) = [] by unfold printF; rw [if_neg h0, if_neg h2, if_neg h13])
    have hk1 : (k == 1) = false := by simpa using fun e => h13 (.inl e)
    have hk3 : (k == 3) = false := by simpa using fun e => h13 (.inr e)
    have hk1' : (k != 1) = true := by simpa using fun e => h13 (.inl e)
    have hk3' : (k != 3) = true := by simpa using fun e => h13 (.inr e)
    clear h0 h2 h13
    go_enter Tryz.func19, Tryz.ntmps19
    go_wp2_with fail
    go_ret
    rw [HP2.out]
    exact ⟨_, rfl, HB0.out, rfl⟩
theorem prt_ok : ∀ t, PrTOK t := by
  intro t
  induction t using Tm.induct with
  | h k n s l ih => exact prt_of k n s l ih
end Go.Proofs.YtlpmfkpefoegeacGreatDoor
