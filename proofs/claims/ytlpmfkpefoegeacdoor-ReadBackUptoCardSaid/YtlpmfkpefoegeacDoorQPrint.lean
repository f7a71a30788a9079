/-
  read.Print.
-/
import Derived.Test.YtlpmfkpefoegeacDoorQRd1
import Derived.Test.YtlpmfkpefoegeacDoorQStrc
import Derived.Test.YtlpmfkpefoegeacDoorPPrint
namespace Go.Proofs.YtlpmfkpefoegeacDoor
set_option linter.unusedVariables false
set_option linter.unusedSimpArgs false
open Go.RowKit
theorem bs_app (a b : Str) : bs a ++ bs b = bs (a ++ b) := by
  apply ByteArray.ext
  simp [bs, ByteArray.data_append]
def PrintOK (t : Tm) : Prop := ∀ (B : Nat) (A : Nat → Prop) (w : World) (us : List Value), B ≤ w.heap.size → TabsK B w → t.nodes ≤ 4194304 → Tm.rep A w t us →
  Calls Tryd.prog 10 #[.agg us.toArray] w (Pure w (fun v _ => v = .string (bs (printF t))))
set_option maxRecDepth 100000 in
set_option maxHeartbeats 8000000 in
theorem print_of (k n : Int) (s : ByteArray) (l : List Tm) (ih : ∀ t ∈ l, PrintOK t) : PrintOK (.mk k n s l) := by
  intro B A w us hB htab hnd hv
  have hpl := printF_len (.mk k n s l) (fun _ => trivial) ⟨A, w, us, hv⟩
  have hwt := wt_nodes (.mk k n s l) ⟨A, w, us, hv⟩
  rw [Tm.rep_iff] at hv
  obtain ⟨hk, hn, hs, v, rfl, hl⟩ := hv
  have hwl := wt_nodesL hl
  obtain ⟨a, cap, b, off, rfl, hlc, hcm, hlb, ha, he⟩ := hl.at
  have HE := hid he
  have HA := hid ha
  have IH := hid ih
  have HT := hid htab
  have HN := hid hn
  have HND := hid hnd
  have hwl2 : wtL l ≤ 4194304 * 1048600 := Nat.le_trans hwl (by simp only [Tm.nodes] at hnd; exact Nat.mul_le_mul_right _ (by omega))
  have hn0 := hn.1
  have hn1 := hn.2
  have HB0 := hid ((Below.refl w.heap.size w).alloc (Nat.le_refl _) (.cells #[.int .i64 k, .int .i64 n, .string s, .slice a l.length cap] 27))
  unfold maxLen at hcm
  clear he ha hl ih htab hnd hn hpl hwt hwl
  by_cases h0 : k = 0
  · subst h0
    have hpr : printF (.mk 0 n s l) = if n < 0 ∨ 25 < n then [90, 122] else [UInt8.ofNat (65 + n.toNat)] := by unfold printF; rw [if_pos rfl]
    have HP := hid hpr
    clear hpr
    by_cases hlo : n < 0
    · have hd : decide (n < 0) = true := by simpa using hlo
      have HP2 := hid (HP.out.trans (if_pos (.inl hlo)))
      clear hlo
      go_enter Tryd.func10, Tryd.ntmps10
      go_wp2_with fail
      go_ret
      rw [HP2.out]
      exact ⟨_, rfl, HB0.out, rfl⟩
    · have hd : decide (n < 0) = false := by simpa using hlo
      by_cases hhi : 25 < n
      · have hd2 : decide (25 < n) = true := by simpa using hhi
        have HP2 := hid (HP.out.trans (if_pos (.inr hhi)))
        clear hlo hhi
        go_enter Tryd.func10, Tryd.ntmps10
        go_wp2_with fail
        go_ret
        rw [HP2.out]
        exact ⟨_, rfl, HB0.out, rfl⟩
      · have hd2 : decide (25 < n) = false := by simpa using hhi
        have HP2 := hid (HP.out.trans (if_neg (by omega)))
        have hlo' : 0 ≤ n := by omega
        have hhi' : n ≤ 25 := by omega
        clear hlo hhi
        have he : ((UInt8.ofNat (65 + n.toNat)).toNat : Int) = 65 + n := by
          have e1 : (UInt8.ofNat (65 + n.toNat)).toNat = 65 + n.toNat := by simp; omega
          rw [e1]; omega
        obtain ⟨c, hc⟩ : ∃ c, c = UInt8.ofNat (65 + n.toNat) := ⟨_, rfl⟩
        rw [← hc] at he
        have HCC := hid hc
        clear hc
        have hcv := run_convert_bytes_back (P := Tryd.prog) ((w.alloc (.cells #[.int .i64 0, .int .i64 n, .string s, .slice a l.length cap] 27)).alloc (.cells #[.int .u8 (65 + n)] 5)) 49 9 5 ⟨w.heap.size + 1, 0, none⟩ 1 [c] Tryd.underlying49 Tryd.underlying5 Tryd.underlying9 (fun j hj => by
          have hj0 : j = 0 := by simpa using hj
          subst hj0
          have h1 := blk_cell (heap2 w (.cells #[.int .i64 0, .int .i64 n, .string s, .slice a l.length cap] 27) (.cells #[.int .u8 (65 + n)] 5)).2 0
          rw [List.getElem_cons_zero, he]
          exact h1)
        rw [List.length_singleton] at hcv
        have HBB := hid (HB0.out.alloc HB0.out.size (.cells #[.int .u8 (65 + n)] 5))
        clear he
        go_enter Tryd.func10, Tryd.ntmps10
        go_wp2_with fail
        go_ret
        rw [HP2.out, ← HCC.out]
        exact ⟨_, rfl, HBB.out, rfl⟩
  have hk0 : (k == 0) = false := by simpa using h0
  by_cases h2 : k = 2
  · subst h2
    have HP2 := hid (show printF (.mk 2 n s l) = Lib.itoa n by unfold printF; rw [if_neg (by omega), if_pos rfl])
    have HTB := hid (HT.out.below ((Below.refl w.heap.size w).alloc (Nat.le_refl _) (.cells #[.int .i64 2, .int .i64 n, .string s, .slice a l.length cap] 27)))
    clear h0 hk0
    go_enter Tryd.func10, Tryd.ntmps10
    go_wp2_with fail
    refine (itoa_ok n HN.out _ HTB.out.now.pow).mono ?_
    rintro e w1 ⟨rfl, hb1⟩
    have HB1 := hid (HB0.out.trans (hb1.mono HB0.out.size))
    clear hb1
    go_wp2_with fail
    go_ret
    rw [HP2.out]
    exact ⟨_, rfl, HB1.out, rfl⟩
  have hk2 : (k == 2) = false := by simpa using h2
  by_cases h13 : k = 1 ∨ k = 3
  · have HP2 := hid (show printF (.mk k n s l) = s.data.toList ++ printA 40 l ++ (if l = [] then [] else [41]) by unfold printF; rw [if_neg h0, if_neg h2, if_pos h13])
    have h13b : (k == 1) = true ∨ ((k == 1) = false ∧ (k == 3) = true) := by
      rcases h13 with rfl | rfl
      · exact .inl rfl
      · exact .inr ⟨rfl, rfl⟩
    clear h0 h2 h13
    rcases h13b with f1 | ⟨f1, f3⟩
    · go_enter Tryd.func10, Tryd.ntmps10
      go_wp2_with fail
      obtain ⟨W1, hW1⟩ : ∃ W1, W1 = w.alloc (.cells #[.int .i64 k, .int .i64 n, .string s, .slice a l.length cap] 27) := ⟨_, rfl⟩
      have HX1 := hid (show W1.heap[w.heap.size]? = some (.cells #[.int .i64 k, .int .i64 n, .string s, .slice a l.length cap] 27 (0, 0)) by rw [hW1]; exact blk_new _ _)
      rw [← hW1] at HB0
      rw [← hW1]
      have hzw : W1.heap.size = w.heap.size + 1 := by rw [hW1]; simp
      clear hW1
      go_loopw [3, 37] (fun u3 u37 wr => ∃ (j : Nat) (S : ByteArray), j ≤ l.length ∧ u37 = .int .i64 (j : Int) ∧ u3 = .string S ∧ S = bs (s.data.toList ++ printA 40 (l.take j)) ∧ S.size ≤ s.size + wtL (l.take j) ∧ Below w.heap.size w wr ∧ Below W1.heap.size W1 wr) (fun _ u37 _ => l.length - (intOf u37).toNat)
      case atStart => exact ⟨0, s, Nat.zero_le _, rfl, rfl, by simp [printA, bs], by simp [wtL], HB0.out, Below.refl _ _⟩
      case round =>
        obtain ⟨j, S, hj, rfl, rfl, hS, hsz, hb, hb1⟩ := hrel
        have HS := hid hS
        have HB := hid hb
        have HBW := hid hb1
        have hj0 : (0 : Int) ≤ (j : Int) := Int.natCast_nonneg _
        have hz1 : W1.heap.size ≤ wr.heap.size := hb1.size
        clear hS hb hb1
        by_cases hlt : j < l.length
        · obtain ⟨rfl, hAb⟩ := HA.out (by omega)
          have hlt' : (j : Int) < (l.length : Int) := by omega
          obtain ⟨sa, sc, c0, c1, c2, c3, hr⟩ := tm_cells HE.out hAb (Keeps.of_below HB.out) hlt
          have HR := hid hr
          have lb : b < wr.heap.size := World.block_lt_of_cell? wr _ c0
          have htk := wtL_take l j hlt
          have hpx := printF_len l[j] (fun _ => trivial) ⟨A, wr, _, hr⟩
          have HAX := hid ((Below.refl wr.heap.size wr).alloc (Nat.le_refl _) (.cells #[.int .i64 l[j].kind, .int .i64 l[j].n, .string l[j].s, .slice sa l[j].args.length sc] 27))
          have HB2 := hid (HB.out.trans (HAX.out.mono HB.out.size))
          have HBW2 := hid (HBW.out.trans (HAX.out.mono HBW.out.size))
          have HNX := hid (show l[j].nodes ≤ 4194304 by have := nodesL_mem (List.getElem_mem hlt); have := HND.out; simp only [Tm.nodes] at this; omega)
          have hsb : S.size ≤ 5000000000000 := by omega
          have hpb : (printF l[j]).length ≤ 5000000000000 := by omega
          have HTK := hid htk
          have HPX := hid hpx
          have HCALL := hid (IH.out _ (List.getElem_mem hlt) B A (wr.alloc (.cells #[.int .i64 l[j].kind, .int .i64 l[j].n, .string l[j].s, .slice sa l[j].args.length sc] 27)) _ (Nat.le_trans hB HB2.out.size) (HT.out.below HB2.out) HNX.out (Tm.rep_lasts.1 _ _ _ _ _ HR.out (Keeps.of_below HAX.out)))
          have hzz : (bs (printF l[j])).size = (printF l[j]).length := bs_size _
          have HZZ := hid hzz
          have hpb2 : (bs (printF l[j])).size ≤ 5000000000000 := by omega
          clear hr htk hpx hzz
          by_cases hj1 : j = 0
          · subst hj1
            simp only [Nat.zero_mul, Nat.add_zero] at c0 c1 c2 c3
            go_wp2_with fail
            refine HCALL.out.mono ?_
            rintro e w2 ⟨v, rfl, hb2, rfl⟩
            have HB3 := hid (HB2.out.trans (hb2.mono HB2.out.size))
            have HBW3 := hid (HBW2.out.trans (hb2.mono HBW2.out.size))
            clear hb2
            go_wp2_with fail
            go_roundw
            case rel =>
              have h1 := HTK.out
              have h2 := HPX.out
              have hsn : l.take (0 + 1) = l.take 0 ++ [l[0]] := List.take_succ_eq_append_getElem hlt
              refine ⟨0 + 1, _, by omega, by go_num, rfl, ?_, ?_, HB3.out, HBW3.out⟩
              · rw [hsn, printA_snoc, HS.out]
                rw [if_pos (show l.take 0 = [] from rfl), show (⟨#[40]⟩ : ByteArray) = bs [40] from rfl, bs_app, bs_app]
                simp
              · rw [hsn, wtL_snoc]
                have hs1 : (S ++ ⟨#[40]⟩ ++ bs (printF l[0])).size = S.size + 1 + (printF l[0]).length := by rw [ByteArray.size_append, ByteArray.size_append, bs_size]; rfl
                rw [hs1]
                omega
            case measure => simp [intOf]; omega
          · have f9 : ((j : Int) == 0) = false := by rw [beq_eq_false_iff_ne]; omega
            have HJ := hid hj1
            clear hj1
            go_wp2_with fail
            refine HCALL.out.mono ?_
            rintro e w2 ⟨v, rfl, hb2, rfl⟩
            have HB3 := hid (HB2.out.trans (hb2.mono HB2.out.size))
            have HBW3 := hid (HBW2.out.trans (hb2.mono HBW2.out.size))
            clear hb2
            go_wp2_with fail
            go_roundw
            case rel =>
              have h1 := HTK.out
              have h2 := HPX.out
              have hsn : l.take (j + 1) = l.take j ++ [l[j]] := List.take_succ_eq_append_getElem hlt
              refine ⟨j + 1, _, by omega, by go_num, rfl, ?_, ?_, HB3.out, HBW3.out⟩
              · rw [hsn, printA_snoc, HS.out]
                rw [if_neg (fun h => by have := congrArg List.length h; rw [List.length_take] at this; simp only [List.length_nil] at this; have := HJ.out; omega), show (⟨#[44]⟩ : ByteArray) = bs [44] from rfl, bs_app, bs_app]
                simp
              · rw [hsn, wtL_snoc]
                have hs1 : (S ++ ⟨#[44]⟩ ++ bs (printF l[j])).size = S.size + 1 + (printF l[j]).length := by rw [ByteArray.size_append, ByteArray.size_append, bs_size]; rfl
                rw [hs1]
                omega
            case measure => simp [intOf]; omega
        · have hje : j = l.length := by omega
          subst hje
          obtain ⟨x0, x1, x2, x3, xf⟩ := blk4 (blk_below HX1.out HBW.out)
          have hxl := blk_lt (blk_below HX1.out HBW.out)
          have hsb : S.size ≤ 5000000000000 := by
            rw [List.take_length] at hsz; omega
          by_cases hnil : l = []
          · have hd : decide (0 < l.length) = false := by rw [hnil]; rfl
            have hd2 : decide ((0 : Int) < (l.length : Int)) = false := by rw [hnil]; rfl
            have HNIL := hid hnil
            clear hnil
            go_wp2_with fail
            go_ret
            rw [HP2.out, if_pos HNIL.out]
            exact ⟨.string S, rfl, HB.out, by rw [HS.out, List.take_length, List.append_nil]⟩
          · have hp : 0 < l.length := List.length_pos_iff.2 hnil
            have hd : decide (0 < l.length) = true := by simpa using hp
            have hd2 : decide ((0 : Int) < (l.length : Int)) = true := by simp; omega
            have HNIL := hid hnil
            clear hnil
            go_wp2_with fail
            go_ret
            rw [HP2.out, if_neg HNIL.out]
            exact ⟨.string (S ++ ⟨#[41]⟩), rfl, HB.out, by rw [HS.out, List.take_length]; exact congrArg _ (bs_app _ [41])⟩
    · go_enter Tryd.func10, Tryd.ntmps10
      go_wp2_with fail
      obtain ⟨W1, hW1⟩ : ∃ W1, W1 = w.alloc (.cells #[.int .i64 k, .int .i64 n, .string s, .slice a l.length cap] 27) := ⟨_, rfl⟩
      have HX1 := hid (show W1.heap[w.heap.size]? = some (.cells #[.int .i64 k, .int .i64 n, .string s, .slice a l.length cap] 27 (0, 0)) by rw [hW1]; exact blk_new _ _)
      rw [← hW1] at HB0
      rw [← hW1]
      have hzw : W1.heap.size = w.heap.size + 1 := by rw [hW1]; simp
      clear hW1
      go_loopw [3, 37] (fun u3 u37 wr => ∃ (j : Nat) (S : ByteArray), j ≤ l.length ∧ u37 = .int .i64 (j : Int) ∧ u3 = .string S ∧ S = bs (s.data.toList ++ printA 40 (l.take j)) ∧ S.size ≤ s.size + wtL (l.take j) ∧ Below w.heap.size w wr ∧ Below W1.heap.size W1 wr) (fun _ u37 _ => l.length - (intOf u37).toNat)
      case atStart => exact ⟨0, s, Nat.zero_le _, rfl, rfl, by simp [printA, bs], by simp [wtL], HB0.out, Below.refl _ _⟩
      case round =>
        obtain ⟨j, S, hj, rfl, rfl, hS, hsz, hb, hb1⟩ := hrel
        have HS := hid hS
        have HB := hid hb
        have HBW := hid hb1
        have hj0 : (0 : Int) ≤ (j : Int) := Int.natCast_nonneg _
        have hz1 : W1.heap.size ≤ wr.heap.size := hb1.size
        clear hS hb hb1
        by_cases hlt : j < l.length
        · obtain ⟨rfl, hAb⟩ := HA.out (by omega)
          have hlt' : (j : Int) < (l.length : Int) := by omega
          obtain ⟨sa, sc, c0, c1, c2, c3, hr⟩ := tm_cells HE.out hAb (Keeps.of_below HB.out) hlt
          have HR := hid hr
          have lb : b < wr.heap.size := World.block_lt_of_cell? wr _ c0
          have htk := wtL_take l j hlt
          have hpx := printF_len l[j] (fun _ => trivial) ⟨A, wr, _, hr⟩
          have HAX := hid ((Below.refl wr.heap.size wr).alloc (Nat.le_refl _) (.cells #[.int .i64 l[j].kind, .int .i64 l[j].n, .string l[j].s, .slice sa l[j].args.length sc] 27))
          have HB2 := hid (HB.out.trans (HAX.out.mono HB.out.size))
          have HBW2 := hid (HBW.out.trans (HAX.out.mono HBW.out.size))
          have HNX := hid (show l[j].nodes ≤ 4194304 by have := nodesL_mem (List.getElem_mem hlt); have := HND.out; simp only [Tm.nodes] at this; omega)
          have hsb : S.size ≤ 5000000000000 := by omega
          have hpb : (printF l[j]).length ≤ 5000000000000 := by omega
          have HTK := hid htk
          have HPX := hid hpx
          have HCALL := hid (IH.out _ (List.getElem_mem hlt) B A (wr.alloc (.cells #[.int .i64 l[j].kind, .int .i64 l[j].n, .string l[j].s, .slice sa l[j].args.length sc] 27)) _ (Nat.le_trans hB HB2.out.size) (HT.out.below HB2.out) HNX.out (Tm.rep_lasts.1 _ _ _ _ _ HR.out (Keeps.of_below HAX.out)))
          have hzz : (bs (printF l[j])).size = (printF l[j]).length := bs_size _
          have HZZ := hid hzz
          have hpb2 : (bs (printF l[j])).size ≤ 5000000000000 := by omega
          clear hr htk hpx hzz
          by_cases hj1 : j = 0
          · subst hj1
            simp only [Nat.zero_mul, Nat.add_zero] at c0 c1 c2 c3
            go_wp2_with fail
            refine HCALL.out.mono ?_
            rintro e w2 ⟨v, rfl, hb2, rfl⟩
            have HB3 := hid (HB2.out.trans (hb2.mono HB2.out.size))
            have HBW3 := hid (HBW2.out.trans (hb2.mono HBW2.out.size))
            clear hb2
            go_wp2_with fail
            go_roundw
            case rel =>
              have h1 := HTK.out
              have h2 := HPX.out
              have hsn : l.take (0 + 1) = l.take 0 ++ [l[0]] := List.take_succ_eq_append_getElem hlt
              refine ⟨0 + 1, _, by omega, by go_num, rfl, ?_, ?_, HB3.out, HBW3.out⟩
              · rw [hsn, printA_snoc, HS.out]
                rw [if_pos (show l.take 0 = [] from rfl), show (⟨#[40]⟩ : ByteArray) = bs [40] from rfl, bs_app, bs_app]
                simp
              · rw [hsn, wtL_snoc]
                have hs1 : (S ++ ⟨#[40]⟩ ++ bs (printF l[0])).size = S.size + 1 + (printF l[0]).length := by rw [ByteArray.size_append, ByteArray.size_append, bs_size]; rfl
                rw [hs1]
                omega
            case measure => simp [intOf]; omega
          · have f9 : ((j : Int) == 0) = false := by rw [beq_eq_false_iff_ne]; omega
            have HJ := hid hj1
            clear hj1
            go_wp2_with fail
            refine HCALL.out.mono ?_
            rintro e w2 ⟨v, rfl, hb2, rfl⟩
            have HB3 := hid (HB2.out.trans (hb2.mono HB2.out.size))
            have HBW3 := hid (HBW2.out.trans (hb2.mono HBW2.out.size))
            clear hb2
            go_wp2_with fail
            go_roundw
            case rel =>
              have h1 := HTK.out
              have h2 := HPX.out
              have hsn : l.take (j + 1) = l.take j ++ [l[j]] := List.take_succ_eq_append_getElem hlt
              refine ⟨j + 1, _, by omega, by go_num, rfl, ?_, ?_, HB3.out, HBW3.out⟩
              · rw [hsn, printA_snoc, HS.out]
                rw [if_neg (fun h => by have := congrArg List.length h; rw [List.length_take] at this; simp only [List.length_nil] at this; have := HJ.out; omega), show (⟨#[44]⟩ : ByteArray) = bs [44] from rfl, bs_app, bs_app]
                simp
              · rw [hsn, wtL_snoc]
                have hs1 : (S ++ ⟨#[44]⟩ ++ bs (printF l[j])).size = S.size + 1 + (printF l[j]).length := by rw [ByteArray.size_append, ByteArray.size_append, bs_size]; rfl
                rw [hs1]
                omega
            case measure => simp [intOf]; omega
        · have hje : j = l.length := by omega
          subst hje
          obtain ⟨x0, x1, x2, x3, xf⟩ := blk4 (blk_below HX1.out HBW.out)
          have hxl := blk_lt (blk_below HX1.out HBW.out)
          have hsb : S.size ≤ 5000000000000 := by
            rw [List.take_length] at hsz; omega
          by_cases hnil : l = []
          · have hd : decide (0 < l.length) = false := by rw [hnil]; rfl
            have hd2 : decide ((0 : Int) < (l.length : Int)) = false := by rw [hnil]; rfl
            have HNIL := hid hnil
            clear hnil
            go_wp2_with fail
            go_ret
            rw [HP2.out, if_pos HNIL.out]
            exact ⟨.string S, rfl, HB.out, by rw [HS.out, List.take_length, List.append_nil]⟩
          · have hp : 0 < l.length := List.length_pos_iff.2 hnil
            have hd : decide (0 < l.length) = true := by simpa using hp
            have hd2 : decide ((0 : Int) < (l.length : Int)) = true := by simp; omega
            have HNIL := hid hnil
            clear hnil
            go_wp2_with fail
            go_ret
            rw [HP2.out, if_neg HNIL.out]
            exact ⟨.string (S ++ ⟨#[41]⟩), rfl, HB.out, by rw [HS.out, List.take_length]; exact congrArg _ (bs_app _ [41])⟩
  · have HP2 := hid (show printF (.mk k n s l) = [] by unfold printF; rw [if_neg h0, if_neg h2, if_neg h13])
    have hk1 : (k == 1) = false := by simpa using fun e => h13 (.inl e)
    have hk3 : (k == 3) = false := by simpa using fun e => h13 (.inr e)
    clear h0 h2 h13
    go_enter Tryd.func10, Tryd.ntmps10
    go_wp2_with fail
    go_ret
    rw [HP2.out]
    exact ⟨_, rfl, HB0.out, rfl⟩
theorem print_ok : ∀ t, PrintOK t := by
  intro t
  induction t using Tm.induct with
  | h k n s l ih => exact print_of k n s l ih
end Go.Proofs.YtlpmfkpefoegeacDoor
