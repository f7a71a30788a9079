/-
  The document's parser: term, but for words of small letters.
-/
import Derived.Test.YtlpmfkpefoegeacGreatDoorQPs3
namespace Go.Proofs.YtlpmfkpefoegeacGreatDoor
set_option linter.unusedVariables false
set_option linter.unusedSimpArgs false
open Go.RowKit
section
variable {base g : Nat} {lv vv l1 v1 : Value} {p p1 p2 : Ps} {w w1 w2 : World}
theorem pterm_start (h : PsI base g lv vv p w) (hb : Below (w.alloc zcells).heap.size (w.alloc zcells) w1) :
    PsI base g lv vv p w1 ∧ Ch (RdM g vv) w w1 ∧ w1.heap[w.heap.size]? = some (.cells #[.int .i64 0, .int .i64 0, .string ⟨#[]⟩, .slice none 0 0] 34 (0, 0)) ∧ w.heap.size < w1.heap.size ∧ ¬ RdM g vv w.heap.size := by
  have hb2 : Below w.heap.size w w1 := ((Below.refl _ _).alloc (Nat.le_refl _) zcells).trans (hb.mono (by simp))
  refine ⟨h.below hb2, Ch.of_below hb2, (hb.block _ (by simp)).trans (blk_new _ _), by have := hb.size; simp only [World.size_alloc] at this; omega, fun e => by have := h.rm_lt _ e; omega⟩
theorem ptm_end {t : Tm} {a0 a1 a2 a3 : Value} {l2 v2 : Value} (h : PsI base g l2 v2 p2 w2) (hch : Ch (RdM g vv) w w2) (hvg : VG w vv v2) (hn : ¬ RdM g v2 w.heap.size) (hB : g ≤ w.heap.size)
    (hrep : Tm.rep (fun b => (w.heap.size ≤ b ∧ ¬ RdM g v2 b) ∧ b ≠ w.heap.size) w2 t [a0, a1, a2, a3]) :
    PTm base g vv (t, p2) w (.returned (.agg #[a0, a1, a2, a3])) ((((w2.setCell ⟨w.heap.size, 0, none⟩ a0).setCell ⟨w.heap.size, 1, none⟩ a1).setCell ⟨w.heap.size, 2, none⟩ a2).setCell ⟨w.heap.size, 3, none⟩ a3) := by
  have hk : Keeps (fun b => (w.heap.size ≤ b ∧ ¬ RdM g v2 b) ∧ b ≠ w.heap.size) w2 ((((w2.setCell ⟨w.heap.size, 0, none⟩ a0).setCell ⟨w.heap.size, 1, none⟩ a1).setCell ⟨w.heap.size, 2, none⟩ a2).setCell ⟨w.heap.size, 3, none⟩ a3) :=
    (((Keeps.setCell _ _ _ _ (by simp)).trans (Keeps.setCell _ _ _ _ (by simp))).trans (Keeps.setCell _ _ _ _ (by simp))).trans (Keeps.setCell _ _ _ _ (by simp))
  exact ⟨[a0, a1, a2, a3], l2, v2, rfl, (((h.other hn hB).other hn hB).other hn hB).other hn hB,
    (((hch.setCell (p := ⟨w.heap.size, 0, none⟩) (.inr (Nat.le_refl _)) _).setCell (p := ⟨w.heap.size, 1, none⟩) (.inr (Nat.le_refl _)) _).setCell (p := ⟨w.heap.size, 2, none⟩) (.inr (Nat.le_refl _)) _).setCell (p := ⟨w.heap.size, 3, none⟩) (.inr (Nat.le_refl _)) _,
    hvg, Tm.rep_lasts.2.1 _ _ _ _ _ (Tm.rep_lasts.1 _ _ _ _ _ hrep hk) fun b _ hb => hb.1⟩
theorem pop_x {x : Nat} {o : Obj} {t : Str} {r : List Str} {lv2 : Value} (h : PsI base g lv vv p w) (hl : p.l = t :: r) (h2 : SlR 1 (flatR strV strOk) (fun b => b < g) w r lv2) (hx : w.heap[x]? = some o) (hn : ¬ RdM g vv x) :
    PsI base g lv2 vv { p with l := r } (w.setCell ⟨g, 0, none⟩ lv2) ∧ Ch (RdM g vv) w (w.setCell ⟨g, 0, none⟩ lv2) ∧ (w.setCell ⟨g, 0, none⟩ lv2).heap[x]? = some o := by
  obtain ⟨k1, k2⟩ := h.pop hl h2
  exact ⟨k1, k2, (k2.block x (blk_lt hx) hn).trans hx⟩
set_option maxRecDepth 100000 in
set_option maxHeartbeats 4000000 in
theorem pterm_lost (d : Int) (hd : I64 d) (hs : p.l.headD [] = [] ∨ d = 0) (h : PsI base g lv vv p w) : Calls Tryz.prog 79 #[.pointer (some ⟨g, 0, none⟩), .int .i64 d] w (PTm base g vv (tmz, p.kill) w) := by
  by_cases he : p.l.headD [] = []
  · obtain ⟨t1, t2⟩ := nil_text
    have HE := hid he
    have t3 : ((bs []).toList == []) = true := by rw [bs_toList]; rfl
    clear hs he
    have HU := hid h
    have HSP := hid (pfront_ok (h.below ((Below.refl _ _).alloc (Nat.le_refl _) zcells)))
    have hBx : g ≤ w.heap.size := by have := h.lt; omega
    have hcs := cell_set
    clear h
    go_enter Tryz.func79, Tryz.ntmps79
    go_wp2_with fail
    refine HSP.out.mono ?_
    rintro e w1 ⟨rfl, hst⟩
    rw [HE.out]
    obtain ⟨h1, c1, x1, hz1, n1⟩ := pterm_start HU.out hst
    have HI := hid h1
    have HCH := hid c1
    have HX := hid x1
    have HN := hid n1
    obtain ⟨b0, b1, b2, bf⟩ := h1.cells
    have hgl := h1.lt.1
    have hgx : ¬ g = w.heap.size := fun e => n1 (.inl e.symm)
    obtain ⟨x0, x1, x2, x3, xf⟩ := blk4 x1
    clear hst h1 c1 n1
    go_wp2_with fail
    refine bodyPost_ret (v := .agg #[.int .i64 0, .int .i64 0, .string ⟨#[]⟩, .slice none 0 0]) (by simp [results, Tryz.results79, go_sem, hcs, x0, x1, x2, x3, hgx]; try rfl) rfl ?_
    obtain ⟨k1, k2⟩ := HI.out.setBad true
    have k4 := (k2.block _ (blk_lt HX.out) HN.out).trans HX.out
    exact ptm_end k1 (HCH.out.trans k2 (fun b hb => .inl hb)) (VG.refl _ _) HN.out hBx (rep_leaf i64_0 i64_0 (by simp [ByteArray.size]))
  · obtain rfl : d = 0 := hs.resolve_left he
    obtain ⟨c, q, hcq⟩ := List.exists_cons_of_ne_nil he
    have HE := hid hcq
    clear hs he hcq
    obtain ⟨S, hS⟩ : ∃ S, S = bs (c :: q) := ⟨_, rfl⟩
    have HSS := hid hS
    have t1 : S.toList.isEmpty = false := by rw [hS, bs_toList]; rfl
    have t2 : ¬ S.toList = [] := by rw [hS, bs_toList]; simp
    have t3 : (S.toList == []) = false := by rw [hS, bs_toList]; rfl
    clear hS
    have HU := hid h
    have HSP := hid (pfront_ok (h.below ((Below.refl _ _).alloc (Nat.le_refl _) zcells)))
    have hBx : g ≤ w.heap.size := by have := h.lt; omega
    have hcs := cell_set
    clear h
    go_enter Tryz.func79, Tryz.ntmps79
    go_wp2_with fail
    refine HSP.out.mono ?_
    rintro e w1 ⟨rfl, hst⟩
    rw [HE.out, ← HSS.out]
    obtain ⟨h1, c1, x1, hz1, n1⟩ := pterm_start HU.out hst
    have HI := hid h1
    have HCH := hid c1
    have HX := hid x1
    have HN := hid n1
    obtain ⟨b0, b1, b2, bf⟩ := h1.cells
    have hgl := h1.lt.1
    have hgx : ¬ g = w.heap.size := fun e => n1 (.inl e.symm)
    obtain ⟨x0, x1, x2, x3, xf⟩ := blk4 x1
    clear hst h1 c1 n1
    go_wp2_with fail
    refine bodyPost_ret (v := .agg #[.int .i64 0, .int .i64 0, .string ⟨#[]⟩, .slice none 0 0]) (by simp [results, Tryz.results79, go_sem, hcs, x0, x1, x2, x3, hgx]; try rfl) rfl ?_
    obtain ⟨k1, k2⟩ := HI.out.setBad true
    have k4 := (k2.block _ (blk_lt HX.out) HN.out).trans HX.out
    exact ptm_end k1 (HCH.out.trans k2 (fun b hb => .inl hb)) (VG.refl _ _) HN.out hBx (rep_leaf i64_0 i64_0 (by simp [ByteArray.size]))
set_option maxRecDepth 100000 in
set_option maxHeartbeats 8000000 in
theorem pterm_bang (d : Int) (hd : I64 d ∧ d ≠ 0) (c : UInt8) (q : Str) (r : List Str) (hl : p.l = (c :: q) :: r) (hc : c :: q = [33]) (h : PsI base g lv vv p w) : Calls Tryz.prog 79 #[.pointer (some ⟨g, 0, none⟩), .int .i64 d] w (PTm base g vv (.mk 1 0 (bs [33]) [], { p with l := r }) w) := by
  have HU := hid h
  have HSP := hid (pfront_ok (h.below ((Below.refl _ _).alloc (Nat.le_refl _) zcells)))
  have hBx : g ≤ w.heap.size := by have := h.lt; omega
  have hcs := cell_set
  have hd0 : ((d : Int) == 0) = false := by rw [beq_eq_false_iff_ne]; exact hd.2
  have hdz : ¬ d = 0 := hd.2
  have HL := hid hl
  have HTK := hid (h.tok (c :: q) (by rw [hl]; simp))
  obtain ⟨S, hS⟩ : ∃ S, S = bs (c :: q) := ⟨_, rfl⟩
  have HSS := hid hS
  have t1 : S.toList.isEmpty = false := by rw [hS, bs_toList]; rfl
  have t2 : ¬ S.toList = [] := by rw [hS, bs_toList]; simp
  have t3 : (S.toList == []) = false := by rw [hS, bs_toList]; rfl
  have t4 : 0 < S.size := by rw [hS, bs_size]; simp
  have hg0 : S[0] = c := by subst hS; exact cons_get c q t4
  have HG := hid hg0
  have hc0 : 0 ≤ (S[0].toNat : Int) := by omega
  have f9 : (S.toList == [33]) = true := by rw [hS, bs_toList, hc]; rfl
  clear hc
  have HF := hid (show p.l.headD [] = c :: q by rw [hl]; rfl)
  clear hd hl hS hg0
  clear h
  go_enter Tryz.func79, Tryz.ntmps79
  go_wp2_with fail
  refine HSP.out.mono ?_
  rintro e w1 ⟨rfl, hst⟩
  obtain ⟨h1, c1, x1, hz1, n1⟩ := pterm_start HU.out hst
  have HI := hid h1
  have HCH := hid c1
  have HX := hid x1
  have HN := hid n1
  obtain ⟨b0, b1, b2, bf⟩ := h1.cells
  have hgl := h1.lt.1
  have hgx : ¬ g = w.heap.size := fun e => n1 (.inl e.symm)
  obtain ⟨x0, x1, x2, x3, xf⟩ := blk4 x1
  clear hst h1 c1 n1
  rw [HF.out, ← HSS.out]
  have hw := HI.out.wd
  rw [HL.out] at hw
  obtain ⟨wb, wo, cap, hlv, hlc, hcm, -, hbl, hwc, hrest⟩ := wd_cons hw
  subst hlv
  have HPOP := hid (fun (a' : Option Addr) (ha : cap ≠ 1 → a' = some ⟨wb, wo + 1, none⟩) => pop_x HI.out HL.out (hrest a' ha) HX.out HN.out)
  unfold maxLen at hcm
  have hle : (1 : Int) ≤ ((r.length : Int) + 1) := by omega
  clear hw hrest
  go_upto_region 7 with fail
  go_cut [] (fun wx => ∃ lv2, PsI base g lv2 vv { p with l := r } wx ∧ Ch (RdM g vv) w1 wx ∧ wx.heap[w.heap.size]? = some (.cells #[.int .i64 0, .int .i64 0, .string ⟨#[]⟩, .slice none 0 0] 34 (0, 0)))
  case first =>
    go_wp2_with fail
    all_goals
      go_meet
      first
      | exact ⟨_, HPOP.out (some ⟨wb, wo + 1, none⟩) (fun _ => rfl)⟩
      | (obtain rfl : cap = 1 := by assumption
         exact ⟨_, HPOP.out (some ⟨wb, wo, none⟩) (fun h => absurd rfl h)⟩)
  case rest =>
  obtain ⟨lv2, k1, k2, k3⟩ := hcut
  have HI2 := hid k1
  have HC2 := hid (HCH.out.trans k2 (fun b hb => .inl hb))
  have HX2 := hid k3
  clear b0 b1 b2 bf x0 x1 x2 x3 xf hgl HPOP
  obtain ⟨b0, b1, b2, bf⟩ := k1.cells
  have hgl := k1.lt.1
  obtain ⟨x0, x1, x2, x3, xf⟩ := blk4 k3
  have hxl := blk_lt k3
  clear k1 k2 k3
  go_wp2_with fail
  refine bodyPost_ret (v := .agg #[.int .i64 1, .int .i64 0, .string ⟨#[33]⟩, .slice none 0 0]) (by simp [results, Tryz.results79, go_sem, hcs, x0, x1, x2, x3, hgx]; try rfl) rfl ?_
  exact ptm_end HI2.out HC2.out (VG.refl _ _) HN.out hBx (rep_leaf i64_1 i64_0 (by simp [ByteArray.size, bs]))
set_option maxRecDepth 100000 in
set_option maxHeartbeats 8000000 in
theorem pterm_odd (d : Int) (hd : I64 d ∧ d ≠ 0) (c : UInt8) (q : Str) (r : List Str) (hl : p.l = (c :: q) :: r) (hc : lowB c = false ∧ upB c = false ∧ digB c = false ∧ c ≠ 45 ∧ c :: q ≠ [33]) (h : PsI base g lv vv p w) : Calls Tryz.prog 79 #[.pointer (some ⟨g, 0, none⟩), .int .i64 d] w (PTm base g vv (tmz, p.kill) w) := by
  have HU := hid h
  have HSP := hid (pfront_ok (h.below ((Below.refl _ _).alloc (Nat.le_refl _) zcells)))
  have hBx : g ≤ w.heap.size := by have := h.lt; omega
  have hcs := cell_set
  have hd0 : ((d : Int) == 0) = false := by rw [beq_eq_false_iff_ne]; exact hd.2
  have hdz : ¬ d = 0 := hd.2
  have HL := hid hl
  have HTK := hid (h.tok (c :: q) (by rw [hl]; simp))
  obtain ⟨S, hS⟩ : ∃ S, S = bs (c :: q) := ⟨_, rfl⟩
  have HSS := hid hS
  have t1 : S.toList.isEmpty = false := by rw [hS, bs_toList]; rfl
  have t2 : ¬ S.toList = [] := by rw [hS, bs_toList]; simp
  have t3 : (S.toList == []) = false := by rw [hS, bs_toList]; rfl
  have t4 : 0 < S.size := by rw [hS, bs_size]; simp
  have hg0 : S[0] = c := by subst hS; exact cons_get c q t4
  have HG := hid hg0
  have hc0 : 0 ≤ (S[0].toNat : Int) := by omega
  have hcn : ¬ (65 ≤ (c.toNat : Int) ∧ (c.toNat : Int) ≤ 90) ∧ ¬ (97 ≤ (c.toNat : Int) ∧ (c.toNat : Int) ≤ 122) ∧ (c.toNat : Int) ≠ 45 ∧ ¬ (48 ≤ (c.toNat : Int) ∧ (c.toNat : Int) ≤ 57) := by
    obtain ⟨k1, k2, k3, k4, k5⟩ := hc
    refine ⟨fun e => ?_, fun e => ?_, fun e => k4 (UInt8.toNat_inj.1 (by have e45 : (45 : UInt8).toNat = 45 := rfl; omega)), fun e => ?_⟩
    · rw [up_iff.2 e] at k2; cases k2
    · rw [low_iff.2 e] at k1; cases k1
    · rw [dig_iff.2 e] at k3; cases k3
  have HCN := hid hcn
  have f9 : (S.toList == [33]) = false := by rw [hS, bs_toList]; simpa using hc.2.2.2.2
  have f9' : ¬ S.toList = [33] := by rw [hS, bs_toList]; exact hc.2.2.2.2
  clear hc hcn
  have HF := hid (show p.l.headD [] = c :: q by rw [hl]; rfl)
  clear hd hl hS hg0
  clear h
  go_enter Tryz.func79, Tryz.ntmps79
  go_wp2_with fail
  refine HSP.out.mono ?_
  rintro e w1 ⟨rfl, hst⟩
  obtain ⟨h1, c1, x1, hz1, n1⟩ := pterm_start HU.out hst
  have HI := hid h1
  have HCH := hid c1
  have HX := hid x1
  have HN := hid n1
  obtain ⟨b0, b1, b2, bf⟩ := h1.cells
  have hgl := h1.lt.1
  have hgx : ¬ g = w.heap.size := fun e => n1 (.inl e.symm)
  obtain ⟨x0, x1, x2, x3, xf⟩ := blk4 x1
  clear hst h1 c1 n1
  rw [HF.out, ← HSS.out]
  go_upto_region 9 with fail
  go_cut [38] (fun o wx => o = .bool false ∧ wx = w1)
  case first =>
    by_cases h65 : (65 : Int) ≤ (c.toNat : Int)
    · have f2 : decide ((65 : Int) ≤ (S[0].toNat : Int)) = true := by rw [HG.out]; exact decide_eq_true (by first | omega | (have := HCN.out; omega))
      have f3 : decide ((S[0].toNat : Int) ≤ (90 : Int)) = false := by rw [HG.out]; exact decide_eq_false (by first | omega | (have := HCN.out; omega))
      clear h65
      go_wp2_with fail
      go_meet
      case rel => exact ⟨rfl, rfl⟩
    · have f2 : decide ((65 : Int) ≤ (S[0].toNat : Int)) = false := by rw [HG.out]; exact decide_eq_false (by first | omega | (have := HCN.out; omega))
      clear h65
      go_wp2_with fail
      go_meet
      case rel => exact ⟨rfl, rfl⟩
  case rest =>
  obtain ⟨rfl, hw1c⟩ := hcut
  subst hw1c
  go_upto_region 19 with fail
  go_cut [86] (fun o wx => o = .bool false ∧ wx = wc)
  case first =>
    have f5 : ((S[0].toNat : Int) == (45 : Int)) = false := by rw [HG.out]; rw [beq_eq_false_iff_ne]; first | omega | (have := HCN.out; omega)
    by_cases h48 : (48 : Int) ≤ (c.toNat : Int)
    · have f6 : decide ((48 : Int) ≤ (S[0].toNat : Int)) = true := by rw [HG.out]; exact decide_eq_true (by first | omega | (have := HCN.out; omega))
      have f7 : decide ((S[0].toNat : Int) ≤ (57 : Int)) = false := by rw [HG.out]; exact decide_eq_false (by first | omega | (have := HCN.out; omega))
      clear h48
      go_wp2_with fail
      go_meet
      case rel => exact ⟨rfl, rfl⟩
    · have f6 : decide ((48 : Int) ≤ (S[0].toNat : Int)) = false := by rw [HG.out]; exact decide_eq_false (by first | omega | (have := HCN.out; omega))
      clear h48
      go_wp2_with fail
      go_meet
      case rel => exact ⟨rfl, rfl⟩
  case rest =>
  obtain ⟨rfl, hw2c⟩ := hcut
  subst hw2c
  go_upto_region 24 with fail
  go_cut [123] (fun o wx => o = .bool true ∧ wx = wc)
  case first =>
    by_cases h97 : (c.toNat : Int) < (97 : Int)
    · have f2 : decide ((S[0].toNat : Int) < (97 : Int)) = true := by rw [HG.out]; exact decide_eq_true (by first | omega | (have := HCN.out; omega))
      clear h97
      go_wp2_with fail
      go_meet
      case rel => exact ⟨rfl, rfl⟩
    · have f2 : decide ((S[0].toNat : Int) < (97 : Int)) = false := by rw [HG.out]; exact decide_eq_false (by first | omega | (have := HCN.out; omega))
      have f3 : decide ((122 : Int) < (S[0].toNat : Int)) = true := by rw [HG.out]; exact decide_eq_true (by first | omega | (have := HCN.out; omega))
      clear h97
      go_wp2_with fail
      go_meet
      case rel => exact ⟨rfl, rfl⟩
  case rest =>
  obtain ⟨rfl, hw3c⟩ := hcut
  subst hw3c
  go_wp2_with fail
  refine bodyPost_ret (v := .agg #[.int .i64 0, .int .i64 0, .string ⟨#[]⟩, .slice none 0 0]) (by simp [results, Tryz.results79, go_sem, hcs, x0, x1, x2, x3, hgx]; try rfl) rfl ?_
  obtain ⟨k1, k2⟩ := HI.out.setBad true
  exact ptm_end k1 (HCH.out.trans k2 (fun b hb => .inl hb)) (VG.refl _ _) HN.out hBx (rep_leaf i64_0 i64_0 (by simp [ByteArray.size]))
theorem valueF_bnd {t : Str} {k : Int} (hd : Digs (digitsOf t)) (h : some k = valueF t) : -1099511627776 ≤ k ∧ k ≤ 1099511627776 := by
  have h0 := decV_eq hd
  have h1 : (0 : Int) ≤ (decN (digitsOf t) : Int) := Int.natCast_nonneg _
  unfold valueF at h
  split at h
  · cases h
  · split at h
    · cases h
    · simp only [Option.some.injEq] at h
      subst h
      split <;> omega
def numP (t : Str) (p : Ps) : Tm × Ps := match valueF t with
  | some k => (.mk 2 k ⟨#[]⟩ [], p)
  | none => (.mk 2 0 ⟨#[]⟩ [], p.kill)
set_option maxRecDepth 100000 in
set_option maxHeartbeats 8000000 in
theorem pterm_num1 (d : Int) (hd : I64 d ∧ d ≠ 0) (c : UInt8) (q : Str) (r : List Str) (hl : p.l = (c :: q) :: r) (hc : (c.toNat : Int) = 45) (h : PsI base g lv vv p w) : Calls Tryz.prog 79 #[.pointer (some ⟨g, 0, none⟩), .int .i64 d] w (PTm base g vv (numP (c :: q) { p with l := r }) w) := by
  have HU := hid h
  have HSP := hid (pfront_ok (h.below ((Below.refl _ _).alloc (Nat.le_refl _) zcells)))
  have hBx : g ≤ w.heap.size := by have := h.lt; omega
  have hcs := cell_set
  have hd0 : ((d : Int) == 0) = false := by rw [beq_eq_false_iff_ne]; exact hd.2
  have hdz : ¬ d = 0 := hd.2
  have HL := hid hl
  have HTK := hid (h.tok (c :: q) (by rw [hl]; simp))
  obtain ⟨S, hS⟩ : ∃ S, S = bs (c :: q) := ⟨_, rfl⟩
  have HSS := hid hS
  have t1 : S.toList.isEmpty = false := by rw [hS, bs_toList]; rfl
  have t2 : ¬ S.toList = [] := by rw [hS, bs_toList]; simp
  have t3 : (S.toList == []) = false := by rw [hS, bs_toList]; rfl
  have t4 : 0 < S.size := by rw [hS, bs_size]; simp
  have hg0 : S[0] = c := by subst hS; exact cons_get c q t4
  have HG := hid hg0
  have hc0 : 0 ≤ (S[0].toNat : Int) := by omega
  have f9 : (S.toList == [33]) = false := by rw [hS, bs_toList, beq_eq_false_iff_ne]; intro e; simp only [List.cons.injEq] at e; rw [e.1] at hc; exact absurd hc (by decide)
  have f9' : ¬ S.toList = [33] := by rw [hS, bs_toList]; intro e; simp only [List.cons.injEq] at e; rw [e.1] at hc; exact absurd hc (by decide)
  have f2 : decide ((65 : Int) ≤ (S[0].toNat : Int)) = false := by rw [hg0]; exact decide_eq_false (by omega)
  have f5 : ((S[0].toNat : Int) == (45 : Int)) = true := by rw [hg0]; rw [beq_iff_eq]; omega
  have HCC := hid (show c = 45 ∨ digB c = true from .inl (UInt8.toNat_inj.1 (by have e45 : (45 : UInt8).toNat = 45 := rfl; omega)))
  clear hc
  have HF := hid (show p.l.headD [] = c :: q by rw [hl]; rfl)
  clear hd hl hS hg0
  clear h
  go_enter Tryz.func79, Tryz.ntmps79
  go_wp2_with fail
  refine HSP.out.mono ?_
  rintro e w1 ⟨rfl, hst⟩
  obtain ⟨h1, c1, x1, hz1, n1⟩ := pterm_start HU.out hst
  have HI := hid h1
  have HCH := hid c1
  have HX := hid x1
  have HN := hid n1
  obtain ⟨b0, b1, b2, bf⟩ := h1.cells
  have hgl := h1.lt.1
  have hgx : ¬ g = w.heap.size := fun e => n1 (.inl e.symm)
  obtain ⟨x0, x1, x2, x3, xf⟩ := blk4 x1
  clear hst h1 c1 n1
  rw [HF.out, ← HSS.out]
  go_wp2_with fail
  have HVAL := hid (pvalue_ok (c :: q) HTK.out.1 (HTK.out.2 c q rfl HCC.out) w1)
  rw [← HSS.out] at HVAL
  refine HVAL.out.mono ?_
  rintro e w2 ⟨v, rfl, hb2, rfl⟩
  have HI1 := hid (HI.out.below hb2)
  have HC1 := hid (HCH.out.then_below hb2)
  have HX1 := hid (blk_below HX.out hb2)
  clear b0 b1 b2 bf hgl hb2 HVAL
  obtain ⟨b0, b1, b2, bf⟩ := HI1.out.cells
  have hgl := HI1.out.lt.1
  obtain ⟨vk, hvk⟩ : ∃ vk, vk = valueF (c :: q) := ⟨_, rfl⟩
  have HNP := hid (show numP (c :: q) { p with l := r } = (.mk 2 (vk.getD 0) ⟨#[]⟩ [], { p with l := r, bad := p.bad || !vk.isSome }) by
    unfold numP
    rw [← hvk]
    cases vk with
    | none => show _ = (_, (⟨r, p.vars, p.bad || true⟩ : Ps)); rw [Bool.or_true]; rfl
    | some k => show _ = (_, (⟨r, p.vars, p.bad || false⟩ : Ps)); rw [Bool.or_false]; rfl)
  have hvb : I64 (vk.getD 0) := by
    cases hx : vk with
    | none => exact i64_0
    | some k =>
      rw [hx] at hvk
      have := valueF_bnd (HTK.out.2 c q rfl HCC.out) hvk
      show I64 k
      unfold I64; omega
  have HVB := hid hvb
  rw [← hvk]
  clear hvk hvb
  obtain ⟨vs, hvs⟩ : ∃ vs, vs = vk.isSome := ⟨_, rfl⟩
  rw [← hvs] at HNP ⊢
  clear hvs
  go_upto_region 21 with fail
  go_cut [10] (fun o wx => o = .bool vs ∧ PsI base g lv vv { p with bad := p.bad || !vs } wx ∧ Ch (RdM g vv) w2 wx ∧ wx.heap[w.heap.size]? = some (.cells #[.int .i64 0, .int .i64 0, .string ⟨#[]⟩, .slice none 0 0] 34 (0, 0)))
  case first =>
    have HST := hid (fun t => HI1.out.setBad t)
    have HXS := hid (fun t => (((HI1.out.setBad t).2.block _ (blk_lt HX1.out) HN.out).trans HX1.out))
    by_cases hpb : p.bad = true
    · have e9 := hid (show (p.bad || !vs) = true by rw [hpb]; rfl)
      rw [hpb] at b2
      clear hpb
      go_wp2_with fail
      go_meet
      case rel => rw [e9.out]; exact ⟨rfl, (HST.out true).1, (HST.out true).2, HXS.out true⟩
    · have hpf : p.bad = false := by simpa using hpb
      rw [hpf] at b2
      by_cases hvs : vs = true
      · have e9 := hid (show (p.bad || !vs) = false by rw [hpf, hvs]; rfl)
        have HVS := hid hvs
        clear hpb hpf
        go_wp2_with fail
        go_meet
        case rel => rw [e9.out]; exact ⟨by rw [HVS.out], (HST.out false).1, (HST.out false).2, HXS.out false⟩
      · have hvf : vs = false := by simpa using hvs
        have e9 := hid (show (p.bad || !vs) = true by rw [hpf, hvf]; rfl)
        have HVS := hid hvf
        clear hpb hpf hvs
        go_wp2_with fail
        go_meet
        case rel => rw [e9.out]; exact ⟨by rw [HVS.out], (HST.out true).1, (HST.out true).2, HXS.out true⟩
  case rest =>
  obtain ⟨rfl, k1, k2, k3⟩ := hcut
  have HI3 := hid k1
  have HC3 := hid (HC1.out.trans k2 (fun b hb => .inl hb))
  have HX3 := hid k3
  clear b0 b1 b2 bf hgl
  obtain ⟨b0, b1, b2, bf⟩ := HI3.out.cells
  have hgl := HI3.out.lt.1
  clear k1 k2 k3 HI1 HX1 HC1
  obtain ⟨p3, hp3⟩ : ∃ p3 : Ps, p3 = { p with bad := p.bad || !vs } := ⟨_, rfl⟩
  have HP3 := hid hp3
  have HL3 := hid (show p3.l = (c :: q) :: r by rw [hp3]; exact HL.out)
  rw [← hp3] at HI3 b2
  clear hp3
  have hw := HI3.out.wd
  rw [HL3.out] at hw
  obtain ⟨wb, wo, cap, hlv, hlc, hcm, -, hbl, hwc, hrest⟩ := wd_cons hw
  subst hlv
  have HPOP := hid (fun (a' : Option Addr) (ha : cap ≠ 1 → a' = some ⟨wb, wo + 1, none⟩) => pop_x HI3.out HL3.out (hrest a' ha) HX3.out HN.out)
  unfold maxLen at hcm
  have hle : (1 : Int) ≤ ((r.length : Int) + 1) := by omega
  clear hw hrest
  go_upto_region 22 with fail
  go_cut [] (fun wx => ∃ lv2, PsI base g lv2 vv { p3 with l := r } wx ∧ Ch (RdM g vv) wc wx ∧ wx.heap[w.heap.size]? = some (.cells #[.int .i64 0, .int .i64 0, .string ⟨#[]⟩, .slice none 0 0] 34 (0, 0)))
  case first =>
    go_wp2_with fail
    all_goals
      go_meet
      first
      | exact ⟨_, HPOP.out (some ⟨wb, wo + 1, none⟩) (fun _ => rfl)⟩
      | (obtain rfl : cap = 1 := by assumption
         exact ⟨_, HPOP.out (some ⟨wb, wo, none⟩) (fun h => absurd rfl h)⟩)
  case rest =>
  obtain ⟨lv2, k1, k2, k3⟩ := hcut
  have HI2 := hid k1
  have HC2 := hid (HC3.out.trans k2 (fun b hb => .inl hb))
  have HX2 := hid k3
  clear b0 b1 b2 bf x0 x1 x2 x3 xf hgl HPOP
  obtain ⟨b0, b1, b2, bf⟩ := k1.cells
  have hgl := k1.lt.1
  obtain ⟨x0, x1, x2, x3, xf⟩ := blk4 k3
  have hxl := blk_lt k3
  clear k1 k2 k3
  go_wp2_with fail
  rw [HNP.out]
  have e3 : ({ p3 with l := r } : Ps) = { p with l := r, bad := p.bad || !vs } := by rw [HP3.out]
  rw [← e3]
  refine bodyPost_ret (v := .agg #[.int .i64 2, .int .i64 (vk.getD 0), .string ⟨#[]⟩, .slice none 0 0]) (by simp [results, Tryz.results79, go_sem, hcs, x0, x1, x2, x3, hgx]; try rfl) rfl ?_
  exact ptm_end HI2.out HC2.out (VG.refl _ _) HN.out hBx (rep_leaf i64_2 HVB.out (by simp [ByteArray.size]))
set_option maxRecDepth 100000 in
set_option maxHeartbeats 8000000 in
theorem pterm_num2 (d : Int) (hd : I64 d ∧ d ≠ 0) (c : UInt8) (q : Str) (r : List Str) (hl : p.l = (c :: q) :: r) (hc : 48 ≤ (c.toNat : Int) ∧ (c.toNat : Int) ≤ 57) (h : PsI base g lv vv p w) : Calls Tryz.prog 79 #[.pointer (some ⟨g, 0, none⟩), .int .i64 d] w (PTm base g vv (numP (c :: q) { p with l := r }) w) := by
  have HU := hid h
  have HSP := hid (pfront_ok (h.below ((Below.refl _ _).alloc (Nat.le_refl _) zcells)))
  have hBx : g ≤ w.heap.size := by have := h.lt; omega
  have hcs := cell_set
  have hd0 : ((d : Int) == 0) = false := by rw [beq_eq_false_iff_ne]; exact hd.2
  have hdz : ¬ d = 0 := hd.2
  have HL := hid hl
  have HTK := hid (h.tok (c :: q) (by rw [hl]; simp))
  obtain ⟨S, hS⟩ : ∃ S, S = bs (c :: q) := ⟨_, rfl⟩
  have HSS := hid hS
  have t1 : S.toList.isEmpty = false := by rw [hS, bs_toList]; rfl
  have t2 : ¬ S.toList = [] := by rw [hS, bs_toList]; simp
  have t3 : (S.toList == []) = false := by rw [hS, bs_toList]; rfl
  have t4 : 0 < S.size := by rw [hS, bs_size]; simp
  have hg0 : S[0] = c := by subst hS; exact cons_get c q t4
  have HG := hid hg0
  have hc0 : 0 ≤ (S[0].toNat : Int) := by omega
  have f9 : (S.toList == [33]) = false := by rw [hS, bs_toList, beq_eq_false_iff_ne]; intro e; simp only [List.cons.injEq] at e; rw [e.1] at hc; exact absurd hc (by decide)
  have f9' : ¬ S.toList = [33] := by rw [hS, bs_toList]; intro e; simp only [List.cons.injEq] at e; rw [e.1] at hc; exact absurd hc (by decide)
  obtain ⟨hc1, hc2⟩ := hc
  have f2 : decide ((65 : Int) ≤ (S[0].toNat : Int)) = false := by rw [hg0]; exact decide_eq_false (by omega)
  have f5 : ((S[0].toNat : Int) == (45 : Int)) = false := by rw [hg0]; rw [beq_eq_false_iff_ne]; omega
  have f6 : decide ((48 : Int) ≤ (S[0].toNat : Int)) = true := by rw [hg0]; exact decide_eq_true (by omega)
  have f7 : decide ((S[0].toNat : Int) ≤ (57 : Int)) = true := by rw [hg0]; exact decide_eq_true (by omega)
  have HCC := hid (show c = 45 ∨ digB c = true from .inr (dig_iff.2 ⟨hc1, hc2⟩))
  clear hc1 hc2
  have HF := hid (show p.l.headD [] = c :: q by rw [hl]; rfl)
  clear hd hl hS hg0
  clear h
  go_enter Tryz.func79, Tryz.ntmps79
  go_wp2_with fail
  refine HSP.out.mono ?_
  rintro e w1 ⟨rfl, hst⟩
  obtain ⟨h1, c1, x1, hz1, n1⟩ := pterm_start HU.out hst
  have HI := hid h1
  have HCH := hid c1
  have HX := hid x1
  have HN := hid n1
  obtain ⟨b0, b1, b2, bf⟩ := h1.cells
  have hgl := h1.lt.1
  have hgx : ¬ g = w.heap.size := fun e => n1 (.inl e.symm)
  obtain ⟨x0, x1, x2, x3, xf⟩ := blk4 x1
  clear hst h1 c1 n1
  rw [HF.out, ← HSS.out]
  go_wp2_with fail
  have HVAL := hid (pvalue_ok (c :: q) HTK.out.1 (HTK.out.2 c q rfl HCC.out) w1)
  rw [← HSS.out] at HVAL
  refine HVAL.out.mono ?_
  rintro e w2 ⟨v, rfl, hb2, rfl⟩
  have HI1 := hid (HI.out.below hb2)
  have HC1 := hid (HCH.out.then_below hb2)
  have HX1 := hid (blk_below HX.out hb2)
  clear b0 b1 b2 bf hgl hb2 HVAL
  obtain ⟨b0, b1, b2, bf⟩ := HI1.out.cells
  have hgl := HI1.out.lt.1
  obtain ⟨vk, hvk⟩ : ∃ vk, vk = valueF (c :: q) := ⟨_, rfl⟩
  have HNP := hid (show numP (c :: q) { p with l := r } = (.mk 2 (vk.getD 0) ⟨#[]⟩ [], { p with l := r, bad := p.bad || !vk.isSome }) by
    unfold numP
    rw [← hvk]
    cases vk with
    | none => show _ = (_, (⟨r, p.vars, p.bad || true⟩ : Ps)); rw [Bool.or_true]; rfl
    | some k => show _ = (_, (⟨r, p.vars, p.bad || false⟩ : Ps)); rw [Bool.or_false]; rfl)
  have hvb : I64 (vk.getD 0) := by
    cases hx : vk with
    | none => exact i64_0
    | some k =>
      rw [hx] at hvk
      have := valueF_bnd (HTK.out.2 c q rfl HCC.out) hvk
      show I64 k
      unfold I64; omega
  have HVB := hid hvb
  rw [← hvk]
  clear hvk hvb
  obtain ⟨vs, hvs⟩ : ∃ vs, vs = vk.isSome := ⟨_, rfl⟩
  rw [← hvs] at HNP ⊢
  clear hvs
  go_upto_region 21 with fail
  go_cut [10] (fun o wx => o = .bool vs ∧ PsI base g lv vv { p with bad := p.bad || !vs } wx ∧ Ch (RdM g vv) w2 wx ∧ wx.heap[w.heap.size]? = some (.cells #[.int .i64 0, .int .i64 0, .string ⟨#[]⟩, .slice none 0 0] 34 (0, 0)))
  case first =>
    have HST := hid (fun t => HI1.out.setBad t)
    have HXS := hid (fun t => (((HI1.out.setBad t).2.block _ (blk_lt HX1.out) HN.out).trans HX1.out))
    by_cases hpb : p.bad = true
    · have e9 := hid (show (p.bad || !vs) = true by rw [hpb]; rfl)
      rw [hpb] at b2
      clear hpb
      go_wp2_with fail
      go_meet
      case rel => rw [e9.out]; exact ⟨rfl, (HST.out true).1, (HST.out true).2, HXS.out true⟩
    · have hpf : p.bad = false := by simpa using hpb
      rw [hpf] at b2
      by_cases hvs : vs = true
      · have e9 := hid (show (p.bad || !vs) = false by rw [hpf, hvs]; rfl)
        have HVS := hid hvs
        clear hpb hpf
        go_wp2_with fail
        go_meet
        case rel => rw [e9.out]; exact ⟨by rw [HVS.out], (HST.out false).1, (HST.out false).2, HXS.out false⟩
      · have hvf : vs = false := by simpa using hvs
        have e9 := hid (show (p.bad || !vs) = true by rw [hpf, hvf]; rfl)
        have HVS := hid hvf
        clear hpb hpf hvs
        go_wp2_with fail
        go_meet
        case rel => rw [e9.out]; exact ⟨by rw [HVS.out], (HST.out true).1, (HST.out true).2, HXS.out true⟩
  case rest =>
  obtain ⟨rfl, k1, k2, k3⟩ := hcut
  have HI3 := hid k1
  have HC3 := hid (HC1.out.trans k2 (fun b hb => .inl hb))
  have HX3 := hid k3
  clear b0 b1 b2 bf hgl
  obtain ⟨b0, b1, b2, bf⟩ := HI3.out.cells
  have hgl := HI3.out.lt.1
  clear k1 k2 k3 HI1 HX1 HC1
  obtain ⟨p3, hp3⟩ : ∃ p3 : Ps, p3 = { p with bad := p.bad || !vs } := ⟨_, rfl⟩
  have HP3 := hid hp3
  have HL3 := hid (show p3.l = (c :: q) :: r by rw [hp3]; exact HL.out)
  rw [← hp3] at HI3 b2
  clear hp3
  have hw := HI3.out.wd
  rw [HL3.out] at hw
  obtain ⟨wb, wo, cap, hlv, hlc, hcm, -, hbl, hwc, hrest⟩ := wd_cons hw
  subst hlv
  have HPOP := hid (fun (a' : Option Addr) (ha : cap ≠ 1 → a' = some ⟨wb, wo + 1, none⟩) => pop_x HI3.out HL3.out (hrest a' ha) HX3.out HN.out)
  unfold maxLen at hcm
  have hle : (1 : Int) ≤ ((r.length : Int) + 1) := by omega
  clear hw hrest
  go_upto_region 22 with fail
  go_cut [] (fun wx => ∃ lv2, PsI base g lv2 vv { p3 with l := r } wx ∧ Ch (RdM g vv) wc wx ∧ wx.heap[w.heap.size]? = some (.cells #[.int .i64 0, .int .i64 0, .string ⟨#[]⟩, .slice none 0 0] 34 (0, 0)))
  case first =>
    go_wp2_with fail
    all_goals
      go_meet
      first
      | exact ⟨_, HPOP.out (some ⟨wb, wo + 1, none⟩) (fun _ => rfl)⟩
      | (obtain rfl : cap = 1 := by assumption
         exact ⟨_, HPOP.out (some ⟨wb, wo, none⟩) (fun h => absurd rfl h)⟩)
  case rest =>
  obtain ⟨lv2, k1, k2, k3⟩ := hcut
  have HI2 := hid k1
  have HC2 := hid (HC3.out.trans k2 (fun b hb => .inl hb))
  have HX2 := hid k3
  clear b0 b1 b2 bf x0 x1 x2 x3 xf hgl HPOP
  obtain ⟨b0, b1, b2, bf⟩ := k1.cells
  have hgl := k1.lt.1
  obtain ⟨x0, x1, x2, x3, xf⟩ := blk4 k3
  have hxl := blk_lt k3
  clear k1 k2 k3
  go_wp2_with fail
  rw [HNP.out]
  have e3 : ({ p3 with l := r } : Ps) = { p with l := r, bad := p.bad || !vs } := by rw [HP3.out]
  rw [← e3]
  refine bodyPost_ret (v := .agg #[.int .i64 2, .int .i64 (vk.getD 0), .string ⟨#[]⟩, .slice none 0 0]) (by simp [results, Tryz.results79, go_sem, hcs, x0, x1, x2, x3, hgx]; try rfl) rfl ?_
  exact ptm_end HI2.out HC2.out (VG.refl _ _) HN.out hBx (rep_leaf i64_2 HVB.out (by simp [ByteArray.size]))
end
end Go.Proofs.YtlpmfkpefoegeacGreatDoor
