/-
  The document's parser: term: a variable.
-/
import Derived.Test.YtlpmfkpefoegeacGreatDoorQPs4
namespace Go.Proofs.YtlpmfkpefoegeacGreatDoor
set_option linter.unusedVariables false
set_option linter.unusedSimpArgs false
open Go.RowKit
def varP (p : Ps) (nm : Str) : Tm × Ps := (.mk 0 (varF p.vars nm).1 ⟨#[]⟩ [], { p with vars := (varF p.vars nm).2 })
section
variable {base g : Nat} {lv vv l1 v1 : Value} {p p1 p2 : Ps} {w w1 w2 : World}
set_option maxRecDepth 100000 in
set_option maxHeartbeats 8000000 in
theorem pterm_up (d : Int) (hd : I64 d ∧ d ≠ 0) (c : UInt8) (q : Str) (r : List Str) (hl : p.l = (c :: q) :: r) (hc : 65 ≤ (c.toNat : Int) ∧ (c.toNat : Int) ≤ 90) (h : PsI base g lv vv p w) : Calls Tryz.prog 79 #[.pointer (some ⟨g, 0, none⟩), .int .i64 d] w (PTm base g vv (varP { p with l := r } (c :: q)) w) := by
  have HU := hid h
  have HSP := hid (pfront_ok (h.below ((Below.refl _ _).alloc (Nat.le_refl _) zcells)))
  have hBx : g ≤ w.heap.size := by have := h.lt; omega
  have hcs := cell_set
  have hd0 : ((d : Int) == 0) = false := by rw [beq_eq_false_iff_ne]; exact hd.2
  have hdz : ¬ d = 0 := hd.2
  have HL := hid hl
  have HTK := hid (h.tok (c :: q) (by rw [hl]; simp))
  obtain ⟨S, hS⟩ : ∃ S, S = bs (c :: q) := ⟨_, rfl⟩
  have HSS := hid hS
  have t1 : S.toList.isEmpty = false := by rw [hS, bs_toList]; rfl
  have t2 : ¬ S.toList = [] := by rw [hS, bs_toList]; simp
  have t3 : (S.toList == []) = false := by rw [hS, bs_toList]; rfl
  have t4 : 0 < S.size := by rw [hS, bs_size]; simp
  have hg0 : S[0] = c := by subst hS; exact cons_get c q t4
  have HG := hid hg0
  have hc0 : 0 ≤ (S[0].toNat : Int) := by omega
  have f9 : (S.toList == [33]) = false := by rw [hS, bs_toList, beq_eq_false_iff_ne]; intro e; simp only [List.cons.injEq] at e; rw [e.1] at hc; exact absurd hc (by decide)
  have f9' : ¬ S.toList = [33] := by rw [hS, bs_toList]; intro e; simp only [List.cons.injEq] at e; rw [e.1] at hc; exact absurd hc (by decide)
  obtain ⟨hc1, hc2⟩ := hc
  have f2 : decide ((65 : Int) ≤ (S[0].toNat : Int)) = true := by rw [hg0]; exact decide_eq_true (by omega)
  have f3 : decide ((S[0].toNat : Int) ≤ (90 : Int)) = true := by rw [hg0]; exact decide_eq_true (by omega)
  clear hc1 hc2
  have HF := hid (show p.l.headD [] = c :: q by rw [hl]; rfl)
  clear hd hl hS hg0
  clear h
  go_enter Tryz.func79, Tryz.ntmps79
  go_wp2_with fail
  refine HSP.out.mono ?_
  rintro e w1 ⟨rfl, hst⟩
  obtain ⟨h1, c1, x1, hz1, n1⟩ := pterm_start HU.out hst
  have HI := hid h1
  have HCH := hid c1
  have HX := hid x1
  have HN := hid n1
  obtain ⟨b0, b1, b2, bf⟩ := h1.cells
  have hgl := h1.lt.1
  have hgx : ¬ g = w.heap.size := fun e => n1 (.inl e.symm)
  obtain ⟨x0, x1, x2, x3, xf⟩ := blk4 x1
  clear hst h1 c1 n1
  rw [HF.out, ← HSS.out]
  have hw := HI.out.wd
  rw [HL.out] at hw
  obtain ⟨wb, wo, cap, hlv, hlc, hcm, -, hbl, hwc, hrest⟩ := wd_cons hw
  subst hlv
  have HPOP := hid (fun (a' : Option Addr) (ha : cap ≠ 1 → a' = some ⟨wb, wo + 1, none⟩) => pop_x HI.out HL.out (hrest a' ha) HX.out HN.out)
  unfold maxLen at hcm
  have hle : (1 : Int) ≤ ((r.length : Int) + 1) := by omega
  clear hw hrest
  go_upto_region 10 with fail
  go_cut [] (fun wx => ∃ lv2, PsI base g lv2 vv { p with l := r } wx ∧ Ch (RdM g vv) w1 wx ∧ wx.heap[w.heap.size]? = some (.cells #[.int .i64 0, .int .i64 0, .string ⟨#[]⟩, .slice none 0 0] 34 (0, 0)))
  case first =>
    go_wp2_with fail
    all_goals
      go_meet
      first
      | exact ⟨_, HPOP.out (some ⟨wb, wo + 1, none⟩) (fun _ => rfl)⟩
      | (obtain rfl : cap = 1 := by assumption
         exact ⟨_, HPOP.out (some ⟨wb, wo, none⟩) (fun h => absurd rfl h)⟩)
  case rest =>
  obtain ⟨lv2, k1, k2, k3⟩ := hcut
  have HI2 := hid k1
  have HC2 := hid (HCH.out.trans k2 (fun b hb => .inl hb))
  have HX2 := hid k3
  clear b0 b1 b2 bf x0 x1 x2 x3 xf hgl HPOP
  obtain ⟨b0, b1, b2, bf⟩ := k1.cells
  have hgl := k1.lt.1
  obtain ⟨x0, x1, x2, x3, xf⟩ := blk4 k3
  have hxl := blk_lt k3
  clear k1 k2 k3
  have HZ2 := hid (show w.heap.size < wc.heap.size from hxl)
  obtain ⟨va, vc, hvv, hvl, hvm⟩ := HI2.out.vars.val
  change vv = .slice va p.vars.length vc at hvv
  change p.vars.length ≤ vc at hvl
  unfold maxLen at hvm
  subst hvv
  obtain ⟨nm, hnm⟩ : ∃ nm, nm = c :: q := ⟨_, rfl⟩
  have HNM := hid (show nm.length ≤ 2000 by rw [hnm]; exact HTK.out.1)
  have hSn : S = bs nm := by rw [hnm]; exact HSS.out
  have HR := hid (show r.length + p.vars.length + 1 ≤ 2000 by have := HI.out.len; rw [HL.out] at this; simp only [List.length_cons] at this; omega)
  have hlen : p.vars.length ≤ 2000 := by have := HR.out; omega
  have HNME := hid hnm
  subst hSn
  clear hnm HG hc0 t1 t2 t3 HSS HF HTK
  go_wp2_with fail
  go_loopw [58] (fun i wr => ∃ k : Nat, k ≤ p.vars.length ∧ i = .int .i64 (k : Int) ∧ (∀ i (hi : i < p.vars.length), i < k → p.vars[i] ≠ nm) ∧ wr = wc) (fun i _ => p.vars.length - (intOf i).toNat)
  case atStart => exact ⟨0, Nat.zero_le _, rfl, fun i hi h => by omega, rfl⟩
  case round =>
    obtain ⟨k, hk, rfl, hno, rfl⟩ := hrel
    have HNO := hid hno
    have hk0 : (0 : Int) ≤ (k : Int) := Int.natCast_nonneg _
    clear hno
    by_cases hlt : k < p.vars.length
    · have hlt' : (k : Int) < (p.vars.length : Int) := by omega
      obtain ⟨gb, cap', hve, -, -, -, hob, hfz, hgbl, hgb, hcell⟩ := OwnF.at strV_len HI2.out.vars (by show 0 < p.vars.length; omega)
      simp only [Value.slice.injEq, true_and] at hve
      obtain ⟨rfl, rfl⟩ := hve
      have hc := hcell k hlt 0 _ rfl
      rw [Nat.mul_one, Nat.add_zero] at hc
      clear hcell hfz
      by_cases he : p.vars[k] = nm
      · have hE : ((bs p.vars[k]).toList == (bs nm).toList) = true := by rw [he]; simp
        have HID := hid (idx_at hlt he (fun i hi => HNO.out i (by omega) hi))
        clear he
        go_wp2_with fail
        refine bodyPost_ret (v := .agg #[.int .i64 0, .int .i64 (k : Int), .string ⟨#[]⟩, .slice none 0 0]) (by simp [results, Tryz.results79, go_sem, hcs, x0, x1, x2, x3, hgx]; try rfl) rfl ?_
        have hv : varP { p with l := r } (c :: q) = (.mk 0 (k : Int) ⟨#[]⟩ [], { p with l := r }) := by
          rw [← HNME.out]
          unfold varP varF
          simp only
          rw [if_pos HID.out.1, HID.out.2]
        rw [hv]
        exact ptm_end HI2.out HC2.out (VG.refl _ _) HN.out hBx (rep_leaf i64_0 (by unfold I64; omega) (by simp [ByteArray.size]))
      · have hE : ((bs p.vars[k]).toList == (bs nm).toList) = false := by rw [bs_toList, bs_toList]; simpa using he
        have HE := hid he
        clear he
        go_wp2_with fail
        go_roundw
        case rel => exact ⟨k + 1, by omega, by go_num, fun i hi h => by
            by_cases hik : i = k
            · subst hik; exact HE.out
            · exact HNO.out i hi (by omega), by first | rfl | trivial⟩
        case measure => simp [intOf]; omega
    · have hke : k = p.vars.length := by omega
      subst hke
      have HAP := hid HI2.out.apart
      have HNO2 := hid (show nm ∉ p.vars from fun hm => by
        obtain ⟨i, hi, he⟩ := List.getElem_of_mem hm
        exact HNO.out i hi hi he)
      have HNX := hid (show ∀ e : ownB (.slice va p.vars.length vc) = some w.heap.size, False from fun e => HN.out (.inr e))
      clear hk hlt HNO
      go_wp2_with (at_builtin; go_must (refine wpList_app1 rfl (.tmp 73) (.tmp 75) 45 rfl base 9 1 16 tyStrs strR_lasts (A := fun _ => True) (.slice va p.vars.length vc) p.vars rfl (OwnF.ownR strV_len HI2.out.vars _) nm [.string (bs nm)] (by rfl) rfl ⟨by have := HNM.out; unfold strOk; omega, rfl⟩ ⟨by omega, HI2.out.bg.2⟩ ?_); go_must (intro v2 w2 hown hgrew; have hB2 := (hgrew.grown.block g (by simp; omega) (fun e => HAP.out e.symm)).trans (blk_alloc HI2.out.box _); have hX2 := (hgrew.grown.block w.heap.size (by simp; omega) (fun e => HNX.out e.symm)).trans (blk_alloc HX2.out _); obtain ⟨va2, vc2, hv2, hvl2, hvm2⟩ := OwnR.val' hown; rw [show (p.vars ++ [nm]).length = p.vars.length + 1 by simp] at hv2; subst hv2; have HO2 := hid hown; have HG2 := hid hgrew; have HXZ := hid hX2; obtain ⟨k0, k1, k2, kf⟩ := rbox3 hB2; obtain ⟨y0, y1, y2, y3, yf⟩ := blk4 hX2; have hgl2 := blk_lt hB2; have hxl2 := blk_lt hX2; clear hown hgrew hB2 hX2))
      refine bodyPost_ret (v := .agg #[.int .i64 0, .int .i64 (p.vars.length : Int), .string ⟨#[]⟩, .slice none 0 0]) (by simp [results, Tryz.results79, go_sem, hcs, y0, y1, y2, y3, k1, hgl2, hxl2, hgx]; try omega) rfl ?_
      have hv : varP { p with l := r } (c :: q) = (.mk 0 (p.vars.length : Int) ⟨#[]⟩ [], { p with l := r, vars := p.vars ++ [nm] }) := by
        rw [← HNME.out]
        unfold varP varF
        simp only
        rw [if_neg HNO2.out]
      rw [hv]
      obtain ⟨p1, p2, p3⟩ := HI2.out.pushV HR.out (OwnF.of_ownR HO2.out) HG2.out
      have hni : ¬ RdM g (.slice va2 (p.vars.length + 1) vc2) w.heap.size := fun e => by
        rcases VG.rm p3 _ e with e | e
        · exact HN.out e
        · have := HZ2.out; omega
      refine ptm_end p1 (HC2.out.trans p2 (fun b hb => .inl hb)) (fun b hb => (p3 b hb).imp id (fun e => by have := HZ2.out; omega)) hni hBx (rep_leaf i64_0 (by unfold I64; omega) (by simp [ByteArray.size]))
end
end Go.Proofs.YtlpmfkpefoegeacGreatDoor
