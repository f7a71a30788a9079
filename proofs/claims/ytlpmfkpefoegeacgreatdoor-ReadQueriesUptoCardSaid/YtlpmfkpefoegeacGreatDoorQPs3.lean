/-
  The document's parser: value.
-/
import Derived.Test.YtlpmfkpefoegeacGreatDoorQPs2
import Derived.Laws.IdiomStrings
import Derived.Deep.DeepCutAuto
import Derived.Deep.CutBlock
namespace Go.Proofs.YtlpmfkpefoegeacGreatDoor
set_option linter.unusedVariables false
set_option linter.unusedSimpArgs false
open Go.RowKit
theorem minus_pre (t : Str) : (t.head? = some 45 ∧ ∃ r, t = 45 :: r) ∨ (t.head? ≠ some 45 ∧ digitsOf t = t) := by
  cases t with
  | nil => exact .inr ⟨by simp, by simp [digitsOf]⟩
  | cons c r =>
    by_cases h : c = 45
    · subst h; exact .inl ⟨rfl, r, rfl⟩
    · exact .inr ⟨by simpa using h, by simp [digitsOf, h]⟩
theorem hasMinus_ok (t : Str) (ht : t.length ≤ 2000) (w : World) : Calls Tryz.prog 170 #[.string (bs t), .string (bs [45])] w (fun e w' => e = .returned (.bool (decide (t.head? = some 45))) ∧ w' = w) := by
  have hz1 : (bs [45]).size = 1 := by rw [bs_size]; rfl
  have hz : (bs t).size ≤ 2000 := by rw [bs_size]; exact ht
  cases t with
  | nil =>
    have hd : decide ((bs []).size < (bs [45]).size) = true := by rw [bs_size, bs_size]; rfl
    have hz0 : (bs []).size = 0 := by rw [bs_size]; rfl
    go_enter Tryz.func170, Tryz.ntmps170
    go_wp2_with fail
    go_ret
    exact ⟨rfl, rfl⟩
  | cons c r =>
    have hd : decide ((bs (c :: r)).size < (bs [45]).size) = false := by rw [bs_size, bs_size]; simp
    have hle : (bs [45]).size ≤ (bs (c :: r)).size := by rw [bs_size, bs_size]; simp
    have hE : (((bs (c :: r)).extract 0 (bs [45]).size).toList == (bs [45]).toList) = decide ((c :: r).head? = some 45) := by
      rw [bs_extract, bs_toList, bs_toList, bs_size]
      by_cases h : c = 45
      · subst h; simp
      · simp [h]
    clear ht hz1
    generalize decide ((c :: r).head? = some 45) = q at hE
    go_enter Tryz.func170, Tryz.ntmps170
    go_wp2_with fail
    go_ret
    exact ⟨rfl, rfl⟩
theorem trimMinus_ok' (t : Str) (ht : t.length ≤ 2000) (w : World) : Calls Tryz.prog 158 #[.string (bs t), .string (bs [45])] w (fun e w' => e = .returned (.string (bs (digitsOf t))) ∧ w' = w) := by
  have HH := hid (hasMinus_ok t ht w)
  have hz : (bs t).size ≤ 2000 := by rw [bs_size]; exact ht
  rcases minus_pre t with ⟨h1, r, rfl⟩ | ⟨h1, h2⟩
  · have HD := hid (show (bs (45 :: r)).extract (bs [45]).size (bs (45 :: r)).size = bs (digitsOf (45 :: r)) by rw [bs_extract, bs_size, bs_size]; simp [digitsOf])
    have hle : (bs [45]).size ≤ (bs (45 :: r)).size := by rw [bs_size, bs_size]; simp
    have hz1 : (bs [45]).size ≤ 1 := by rw [bs_size]; simp
    rw [decide_eq_true h1] at HH
    clear h1 ht
    go_enter Tryz.func158, Tryz.ntmps158
    go_wp2_with fail
    refine HH.out.mono ?_
    rintro e w' ⟨rfl, rfl⟩
    go_wp2_with fail
    go_ret
    exact ⟨by rw [HD.out]; rfl, rfl⟩
  · rw [decide_eq_false h1] at HH
    have HD := hid h2
    clear h1 ht h2
    go_enter Tryz.func158, Tryz.ntmps158
    go_wp2_with fail
    refine HH.out.mono ?_
    rintro e w' ⟨rfl, rfl⟩
    go_wp2_with fail
    go_ret
    exact ⟨by rw [HD.out]; rfl, rfl⟩
theorem trimMinus_ok (t : Str) (ht : t.length ≤ 2000) (w : World) : Calls Tryz.prog 141 #[.string (bs t), .string ⟨#[45]⟩] w (fun e w' => e = .returned (.string (bs (digitsOf t))) ∧ w' = w) := by
  have HH := hid (trimMinus_ok' t ht w)
  go_enter Tryz.func141, Tryz.ntmps141
  go_wp2_with fail
  refine HH.out.mono ?_
  rintro e w' ⟨rfl, rfl⟩
  go_wp2_with fail
  go_ret
  exact ⟨rfl, rfl⟩
theorem decV_snoc (d : Str) (c : UInt8) : decV (d ++ [c]) = 10 * decV d + ((c.toNat : Int) - 48) := by unfold decV; rw [List.foldl_append]; rfl
theorem decV_take {d : Str} {k : Nat} (h : k < d.length) : decV (d.take (k + 1)) = 10 * decV (d.take k) + ((d[k].toNat : Int) - 48) := by
  rw [List.take_succ_eq_append_getElem h, decV_snoc]
theorem decV_bnd {d : Str} (hd : Digs d) (hl : d.length ≤ 13) : 0 ≤ decV d ∧ decV d < 10000000000000 := by
  rw [decV_eq hd]
  have h1 := decN_lt d hd
  have h2 : 10 ^ d.length ≤ 10 ^ 13 := Nat.pow_le_pow_right (by omega) hl
  constructor
  · exact Int.natCast_nonneg _
  · omega
theorem Digs.take {d : Str} (hd : Digs d) (k : Nat) : Digs (d.take k) := fun c hc => hd c (List.mem_of_mem_take hc)
set_option maxRecDepth 100000 in
set_option maxHeartbeats 8000000 in
theorem pvalue_ok (t : Str) (ht : t.length ≤ 2000) (hdg : Digs (digitsOf t)) (w : World) :
    Calls Tryz.prog 119 #[.string (bs t)] w (Pure w (fun r _ => r = .tuple #[.int .i64 ((valueF t).getD 0), .bool (valueF t).isSome])) := by
  have HTR := hid (trimMinus_ok t ht w)
  obtain ⟨d, hd⟩ : ∃ d, d = digitsOf t := ⟨_, rfl⟩
  have hdl : d.length ≤ 2000 := by
    rw [hd]; unfold digitsOf; split
    · rw [List.length_tail]; omega
    · exact ht
  have hv : valueF t = if d = [] ∨ d.length > 13 ∨ (d.head? = some 48 ∧ t ≠ [48]) then none else if decV d > 1099511627776 then none else some (if d = t then decV d else - decV d) := by rw [hd]; rfl
  rw [← hd] at HTR hdg
  have HV := hid hv
  have HDG := hid hdg
  have hzs : (bs d).size = d.length := bs_size d
  clear hv ht hd hdg
  go_enter Tryz.func119, Tryz.ntmps119
  go_wp2_with fail
  refine HTR.out.mono ?_
  rintro e w1 ⟨rfl, rfl⟩
  clear HTR
  by_cases h0 : d = []
  · have hE : ((bs d).toList == []) = true := by rw [bs_toList, h0]; rfl
    have hE' : (bs d).toList.isEmpty = true := by rw [bs_toList, h0]; rfl
    have HN := hid (HV.out.trans (if_pos (.inl h0)))
    clear h0
    go_wp2_with fail
    go_ret2
    rw [HN.out]
    exact ⟨_, rfl, Below.refl _ _, rfl⟩
  obtain ⟨c, r, hcr0⟩ := List.exists_cons_of_ne_nil h0
  have HCR := hid hcr0
  have HN0 := hid h0
  clear hcr0 h0
  have hE' : (bs d).toList.isEmpty = false := by rw [bs_toList, HCR.out]; rfl
  have hE : ((bs d).toList == []) = false := by rw [bs_toList, HCR.out]; rfl
  have hEn : ¬ (bs d).toList = [] := by rw [bs_toList, HCR.out]; simp
  by_cases h13 : 13 < d.length
  · have hlt : decide ((13 : Int) < (d.length : Int)) = true := by exact decide_eq_true (by omega)
    have HN := hid (HV.out.trans (if_pos (.inr (.inl h13))))
    clear h13
    go_wp2_with fail
    go_ret2
    rw [HN.out]
    exact ⟨_, rfl, Below.refl _ _, rfl⟩
  have hlt : decide ((13 : Int) < (d.length : Int)) = false := by exact decide_eq_false (by omega)
  have h0s : 0 < (bs d).size := by rw [hzs, HCR.out]; simp
  have hg0 : (bs d)[0] = c := by rw [bs_get _ _ h0s]; simp [HCR.out]
  by_cases h3 : d.head? = some 48 ∧ t ≠ [48]
  · have hc48 : c = 48 := by have := h3.1; rw [HCR.out] at this; simpa using this
    have hx : (((bs d)[0].toNat : Int) == 48) = true := by rw [hg0, hc48]; rfl
    have hE3 : ((bs t).toList == [48]) = false := by rw [bs_toList]; simpa using h3.2
    have HN := hid (HV.out.trans (if_pos (.inr (.inr h3))))
    clear h13 h3 hc48 hg0
    go_wp2_with fail
    go_ret2
    rw [HN.out]
    exact ⟨_, rfl, Below.refl _ _, rfl⟩
  have HV2 := hid (HV.out.trans (if_neg (fun h => by
    rcases h with h | h | h
    · exact HN0.out h
    · exact h13 h
    · exact h3 h)))
  have HD13 := hid (show d.length ≤ 13 by omega)
  go_upto_region 2 with fail
  go_cut [25] (fun x wx => x = .bool false ∧ wx = w1)
  case first =>
    by_cases hc48 : c = 48
    · have hx : (((bs d)[0].toNat : Int) == 48) = true := by rw [hg0, hc48]; rfl
      have ht48 : t = [48] := by
        by_cases e : t = [48]
        · exact e
        · exact absurd ⟨by rw [HCR.out, hc48]; rfl, e⟩ h3
      have hE3 : ((bs t).toList == [48]) = true := by rw [bs_toList, ht48]; rfl
      clear h3 hc48 hg0 ht48
      go_wp2_with fail
      go_meet
      case rel => exact ⟨rfl, rfl⟩
    · have hx : (((bs d)[0].toNat : Int) == 48) = false := by rw [hg0, beq_eq_false_iff_ne]; intro e; exact hc48 (UInt8.toNat_inj.1 (by have e48 : (48 : UInt8).toNat = 48 := rfl; omega))
      clear h3 hc48 hg0
      go_wp2_with fail
      go_meet
      case rel => exact ⟨rfl, rfl⟩
  case rest =>
  obtain ⟨rfl, hwc⟩ := hcut
  subst hwc
  clear hE' hE hEn hlt h0s hg0 h3 h13
  have hconv := run_bytes_of_string (P := Tryz.prog) wc 9 86 5 (bs d) Tryz.underlying9 Tryz.underlying86 Tryz.underlying5
  generalize grownCap wc (bs d).size 0 5 = cap at hconv
  obtain ⟨W2, hW2⟩ : ∃ W2, W2 = wc.drew.alloc (.cells (bytesRow (bs d) cap) 5 ((bytesRow (bs d) cap).size, (bytesRow (bs d) cap).size + 1)) := ⟨_, rfl⟩
  have HCL := hid (show ∀ (j : Nat) (hj : j < d.length), W2.cell? ⟨wc.heap.size, j, none⟩ = some (.int .u8 (d[j].toNat : Int)) from fun j hj => by
    have h1 := World.cell?_alloc_mark wc.drew (bytesRow (bs d) cap) 5 ((bytesRow (bs d) cap).size, (bytesRow (bs d) cap).size + 1) j
    rw [← hW2] at h1
    refine h1.trans ((bytesRow_at (bs d) cap j (by show j < (bs d).size; rw [hzs]; exact hj)).trans ?_)
    congr 3)
  have HBW := hid (show Below wc.heap.size wc W2 by rw [hW2]; exact ((Below.refl _ wc).drew).alloc (Nat.le_refl _) _)
  rw [← hW2, hzs] at hconv
  have hbl2 : wc.heap.size < W2.heap.size := by rw [hW2]; simp
  clear hW2
  have hcv : (convert 9 86 (.string (bs d))).run Tryz.prog wc = .ok (.slice (some ⟨wc.heap.size, 0, none⟩) d.length cap) W2 := hconv
  clear hconv
  go_wp2_with fail
  go_loopw [5, 29] (fun x i wr => ∃ k : Nat, k ≤ d.length ∧ i = .int .i64 (k : Int) ∧ x = .int .i64 (decV (d.take k)) ∧ wr = W2) (fun _ i _ => d.length - (intOf i).toNat)
  case atStart => exact ⟨0, Nat.zero_le _, rfl, by simp [decV], rfl⟩
  case round =>
    obtain ⟨k, hk, rfl, rfl, rfl⟩ := hrel
    have hk0 : (0 : Int) ≤ (k : Int) := Int.natCast_nonneg _
    have hbd := decV_bnd (HDG.out.take k) (by have := HD13.out; rw [List.length_take]; omega)
    obtain ⟨v, hv⟩ : ∃ v, v = decV (d.take k) := ⟨_, rfl⟩
    rw [← hv] at hbd ⊢
    have HVV := hid hv
    clear hv
    by_cases hlt : k < d.length
    · have hc := HCL.out k hlt
      have hdc := digB_iff.1 (HDG.out d[k] (List.getElem_mem hlt))
      obtain ⟨c, hcc⟩ : ∃ c : Nat, c = d[k].toNat := ⟨_, rfl⟩
      have HST := hid (decV_take hlt)
      rw [← HVV.out, ← hcc] at HST
      rw [← hcc] at hc hdc
      have hlt' : (k : Int) < (d.length : Int) := by omega
      have hc1 : (48 : Int) ≤ (c : Int) := by omega
      have hc2 : (c : Int) ≤ 57 := by omega
      clear hcc
      go_wp2_with fail
      exact ⟨⟨k + 1, by omega, by go_num, by rw [HST.out], trivial⟩, by simp [intOf]; omega⟩
    · have hke : k = d.length := by omega
      subst hke
      rw [List.take_length] at HVV
      have hlt' : ¬ (d.length : Int) < (d.length : Int) := by omega
      by_cases hbig : v > 1099511627776
      · have hbi : (1099511627776 : Int) < v := hbig
        have HN := hid (HV2.out.trans (if_pos (by rw [← HVV.out]; exact hbig)))
        clear hbig
        go_wp2_with fail
        refine bodyPost_ret (v := .tuple #[.int .i64 0, .bool false]) (by simp [results, Tryz.results119, go_sem]; try rfl) rfl ?_
        rw [HN.out]
        exact ⟨_, rfl, HBW.out, rfl⟩
      · have hbi : ¬ (1099511627776 : Int) < v := hbig
        have HN := hid (HV2.out.trans (if_neg (by rw [← HVV.out]; exact hbig)))
        rw [← HVV.out] at HN
        clear hbig
        by_cases hdt : d = t
        · have hE9 : ((bs d).toList == (bs t).toList) = true := by rw [hdt]; simp
          have HN2 := hid (HN.out.trans (congrArg some (if_pos hdt)))
          clear hdt
          go_wp2_with fail
          refine bodyPost_ret (v := .tuple #[.int .i64 v, .bool true]) (by simp [results, Tryz.results119, go_sem]; try rfl) rfl ?_
          rw [HN2.out]
          exact ⟨_, rfl, HBW.out, rfl⟩
        · have hE9 : ((bs d).toList == (bs t).toList) = false := by rw [bs_toList, bs_toList]; simpa using hdt
          have HN2 := hid (HN.out.trans (congrArg some (if_neg hdt)))
          clear hdt
          go_wp2_with fail
          refine bodyPost_ret (v := .tuple #[.int .i64 (-v), .bool true]) (by simp [results, Tryz.results119, go_sem]; try rfl) rfl ?_
          rw [HN2.out]
          exact ⟨_, rfl, HBW.out, rfl⟩
end Go.Proofs.YtlpmfkpefoegeacGreatDoor
