/-
  The document's parser: term: a word of small letters.
-/
import Derived.Test.YtlpmfkpefoegeacGreatDoorQPs5
namespace Go.Proofs.YtlpmfkpefoegeacGreatDoor
set_option linter.unusedVariables false
set_option linter.unusedSimpArgs false
open Go.RowKit
structure ALoop (base g x y : Nat) (vv : Value) (W : Str) (l : List Tm) (pp : Ps) (lr vr va : Value) (w0 wr : World) : Prop where
  ps : PsI base g lr vr pp wr
  ch : Ch (RdM g vv) w0 wr
  vg : VG w0 vv vr
  bx : wr.heap[x]? = some (.cells #[.int .i64 0, .int .i64 0, .string ⟨#[]⟩, .slice none 0 0] 34 (0, 0))
  by_ : wr.heap[y]? = some (.cells #[.int .i64 3, .int .i64 0, .string (bs W), va] 34 (0, 0))
  nx : ¬ RdM g vr x
  ny : ¬ RdM g vr y
  own : OwnR wr (y + 1) 34 4 Tm.rep (fun b => y + 1 ≤ b ∧ ¬ RdM g vr b) l va
  na : ∀ b, ownB va = some b → ¬ RdM g vr b
  xy : x = w0.heap.size ∧ x < y ∧ y < wr.heap.size
  ll : l.length + pp.l.length ≤ 2001
section
variable {base g : Nat} {lv vv v1 : Value} {p p1 p2 : Ps} {w w1 w2 : World}
theorem pstep_xy {x y : Nat} {o o' : Obj} (hs : PsStep base g v1 p2 w1 w2) (hx : w1.heap[x]? = some o) (hn : ¬ RdM g v1 x) (hy : w1.heap[y]? = some o') (hm : ¬ RdM g v1 y) :
    ∃ l2 v2, PsI base g l2 v2 p2 w2 ∧ Ch (RdM g v1) w1 w2 ∧ VG w1 v1 v2 ∧ w2.heap[x]? = some o ∧ ¬ RdM g v2 x ∧ w2.heap[y]? = some o' ∧ ¬ RdM g v2 y := by
  obtain ⟨l2, v2, h1, h2, h3⟩ := hs
  have hl := blk_lt hx
  have hl' := blk_lt hy
  refine ⟨l2, v2, h1, h2, h3, (h2.block x hl hn).trans hx, fun e => ?_, (h2.block y hl' hm).trans hy, fun e => ?_⟩
  · rcases VG.rm h3 x e with e | e
    · exact hn e
    · omega
  · rcases VG.rm h3 y e with e | e
    · exact hm e
    · omega
section
variable {x y : Nat} {Wd : Str} {l : List Tm} {pp pp2 : Ps} {lr lr2 vr vr2 va : Value} {w0 wr w5 : World}
theorem ALoop.move (h : ALoop base g x y vv Wd l pp lr vr va w0 wr) (k1 : PsI base g lr2 vr2 pp2 w5) (k2 : Ch (RdM g vr) wr w5) (k3 : VG wr vr vr2) (hll : l.length + pp2.l.length ≤ 2001) :
    ALoop base g x y vv Wd l pp2 lr2 vr2 va w0 w5 := by
  have hn2 : ∀ b, b < wr.heap.size → ¬ RdM g vr b → ¬ RdM g vr2 b := fun b hb hn e => (VG.rm k3 b e).elim hn (fun e => by omega)
  refine ⟨k1, h.ch.trans k2 (VG.rm h.vg), h.vg.trans k3 h.ch.size, (k2.block x (blk_lt h.bx) h.nx).trans h.bx, (k2.block y (blk_lt h.by_) h.ny).trans h.by_, hn2 _ (blk_lt h.bx) h.nx, hn2 _ (blk_lt h.by_) h.ny,
    ((h.own.mono (A' := fun b => (y + 1 ≤ b ∧ ¬ RdM g vr2 b) ∧ ¬ RdM g vr b) Tm.rep_lasts (fun b hb hA => ⟨⟨hA.1, hn2 b hb hA.2⟩, hA.2⟩)).keeps (B := fun b => ¬ RdM g vr b) Tm.rep_lasts (k2.keeps fun _ _ h => h) (fun _ h => h.2) h.na).mono Tm.rep_lasts (fun b _ hb => hb.1),
    fun b hb => hn2 b (h.own.lt b hb).2 (h.na b hb), ⟨h.xy.1, h.xy.2.1, Nat.lt_of_lt_of_le h.xy.2.2 k2.size⟩, hll⟩
theorem ALoop.drew (h : ALoop base g x y vv Wd l pp lr vr va w0 wr) : ALoop base g x y vv Wd l pp lr vr va w0 wr.drew :=
  h.move (h.ps.below (Below.refl _ _).drew) ((Ch.refl _ _).drew) (VG.refl _ _) h.ll
theorem ALoop.push {t : Tm} {v2 : Value} {w6 : World} {cells : Array Value} (h : ALoop base g x y vv Wd l pp lr vr va w0 wr) (hB : g ≤ x) (hown : OwnR w6 (y + 1) 34 4 Tm.rep (fun b => y + 1 ≤ b ∧ ¬ RdM g vr b) (l ++ [t]) v2)
    (hg : Grew (wr.alloc (.cells cells 34)) w6 va v2) (hll : l.length + 1 + pp.l.length ≤ 2001) : ALoop base g x y vv Wd (l ++ [t]) pp lr vr v2 w0 (w6.setCell ⟨y, 3, none⟩ v2) := by
  have hz := hg.size
  simp only [World.size_alloc] at hz
  have hxy := h.xy
  have hown2 : ∀ b, ownB va = some b → y + 1 ≤ b ∧ b < wr.heap.size := h.own.lt
  have hk : Keeps (fun b => ownB va ≠ some b) wr w6 := (Keeps.alloc _ _ _).trans (hg.keeps fun b hb => hb)
  have hk2 : Keeps (fun b => ownB va ≠ some b ∧ b ≠ y) wr (w6.setCell ⟨y, 3, none⟩ v2) := (hk.mono fun b _ hb => hb.1).trans (Keeps.setCell _ _ _ _ (fun e => e.2 rfl))
  have hny : ownB va ≠ some y := fun e => by have := (hown2 y e).1; omega
  have hnx : ownB va ≠ some x := fun e => by have := (hown2 x e).1; omega
  refine ⟨h.ps.keeps (hk2.mono fun b hb hA => ⟨fun e => ?_, fun e => ?_⟩), ?_, h.vg, blk_keeps h.bx hk2 ⟨hnx, by omega⟩, blk_set (blk_keeps h.by_ hk hny) 3 v2, h.nx, h.ny,
    hown.keeps (B := fun b => b ≠ y) Tm.rep_lasts (Keeps.setCell _ _ _ _ (fun e => e rfl)) (fun b hb => by omega) (fun b hb e => ?_), fun b hb => ?_, ⟨hxy.1, hxy.2.1, by simp only [World.size_setCell]; omega⟩, ?_⟩
  · rcases hA with hA | hA
    · have := (hown2 b e).1; omega
    · exact h.na b e hA
  · subst e
    rcases hA with hA | hA
    · omega
    · exact h.ny hA
  · exact (hg.ch (h.ch.alloc _) (fun b hb => .inr (by have := (hown2 b hb).1; omega))).setCell (p := ⟨y, 3, none⟩) (.inr (by simp only; omega)) _
  · subst e
    rcases hg.block with e | e
    · exact hny (e ▸ hb)
    · have := e b hb; simp only [World.size_alloc] at this; omega
  · rcases hg.block with e | e
    · exact h.na b (e ▸ hb)
    · have h1 := e b hb
      simp only [World.size_alloc] at h1
      exact fun hm => by have := h.ps.rm_lt b hm; omega
  · simp only [List.length_append, List.length_singleton]; omega
end
theorem argsP_bad {f : Ps → Tm × Ps} {k : Nat} {l : List Tm} {p : Ps} (h : p.bad = true) : argsP f (k + 1) l p = (l, p) := by rw [argsP, if_pos h]
theorem argsP_no {f : Ps → Tm × Ps} {k : Nat} {l : List Tm} {p : Ps} (h : p.bad = false) (ha : (p.take [44]).1 = false) : argsP f (k + 1) l p = (l, p) := by
  rw [argsP, if_neg (by rw [h]; simp), if_pos ha]
theorem argsP_go {f : Ps → Tm × Ps} {k : Nat} {l : List Tm} {p : Ps} (h : p.bad = false) (ha : (p.take [44]).1 = true) : argsP f (k + 1) l p = argsP f k (l ++ [(f (p.take [44]).2).1]) (f (p.take [44]).2).2 := by
  rw [argsP, if_neg (by rw [h]; simp), if_neg (by rw [ha]; simp)]
theorem take_badP {sg : Str} {p : Ps} : (p.take sg).2.bad = p.bad := by
  unfold Ps.take
  split
  · rfl
  · split <;> rfl
set_option maxRecDepth 100000 in
set_option maxHeartbeats 16000000 in
theorem pterm_word (n : Nat) (d : Int) (hd : I64 d ∧ d ≠ 0) (IH : ∀ (lv vv : Value) (p : Ps) (w : World), PsI base g lv vv p w → Calls Tryz.prog 79 #[.pointer (some ⟨g, 0, none⟩), .int .i64 (d - 1)] w (PTm base g vv (termP n p) w)) (hdm : -9223372036854775808 ≤ d - 1)
    (c : UInt8) (q : Str) (r : List Str) (hl : p.l = (c :: q) :: r) (hc : lowB c = true) (h : PsI base g lv vv p w) :
    Calls Tryz.prog 79 #[.pointer (some ⟨g, 0, none⟩), .int .i64 d] w (PTm base g vv (tailP (termP n) (c :: q) { p with l := r }) w) := by
  have HU := hid h
  have HSP := hid (pfront_ok (h.below ((Below.refl _ _).alloc (Nat.le_refl _) zcells)))
  have hBx : g ≤ w.heap.size := by have := h.lt; omega
  have hcs := cell_set
  have hd0 : ((d : Int) == 0) = false := by rw [beq_eq_false_iff_ne]; exact hd.2
  have hdz : ¬ d = 0 := hd.2
  have HL := hid hl
  have HTK := hid (h.tok (c :: q) (by rw [hl]; simp))
  obtain ⟨S, hS⟩ : ∃ S, S = bs (c :: q) := ⟨_, rfl⟩
  have HSS := hid hS
  have t1 : S.toList.isEmpty = false := by rw [hS, bs_toList]; rfl
  have t2 : ¬ S.toList = [] := by rw [hS, bs_toList]; simp
  have t3 : (S.toList == []) = false := by rw [hS, bs_toList]; rfl
  have t4 : 0 < S.size := by rw [hS, bs_size]; simp
  have hg0 : S[0] = c := by subst hS; exact cons_get c q t4
  have HG := hid hg0
  have hc0 : 0 ≤ (S[0].toNat : Int) := by omega
  have hcn : 97 ≤ (c.toNat : Int) ∧ (c.toNat : Int) ≤ 122 := low_iff.1 hc
  have HCN := hid hcn
  have HIH := hid IH
  have HDM := hid hdm
  have HDI := hid (show d ≤ 9223372036854775807 from hd.1.2)
  have f9 : (S.toList == [33]) = false := by rw [hS, bs_toList, beq_eq_false_iff_ne]; intro e; simp only [List.cons.injEq] at e; rw [e.1] at hcn; exact absurd hcn (by decide)
  have f9' : ¬ S.toList = [33] := by rw [hS, bs_toList]; intro e; simp only [List.cons.injEq] at e; rw [e.1] at hcn; exact absurd hcn (by decide)
  clear hc hcn IH hdm
  have HF := hid (show p.l.headD [] = c :: q by rw [hl]; rfl)
  clear hd hl hS hg0
  clear h
  go_enter Tryz.func79, Tryz.ntmps79
  go_wp2_with fail
  refine HSP.out.mono ?_
  rintro e w1 ⟨rfl, hst⟩
  obtain ⟨h1, c1, x1, hz1, n1⟩ := pterm_start HU.out hst
  have HI := hid h1
  have HCH := hid c1
  have HX := hid x1
  have HN := hid n1
  obtain ⟨b0, b1, b2, bf⟩ := h1.cells
  have hgl := h1.lt.1
  have hgx : ¬ g = w.heap.size := fun e => n1 (.inl e.symm)
  obtain ⟨x0, x1, x2, x3, xf⟩ := blk4 x1
  clear hst h1 c1 n1
  rw [HF.out, ← HSS.out]
  go_upto_region 9 with fail
  go_cut [38] (fun o wx => o = .bool false ∧ wx = w1)
  case first =>
    by_cases h65 : (65 : Int) ≤ (c.toNat : Int)
    · have f2 : decide ((65 : Int) ≤ (S[0].toNat : Int)) = true := by rw [HG.out]; exact decide_eq_true (by first | omega | (have := HCN.out; omega))
      have f3 : decide ((S[0].toNat : Int) ≤ (90 : Int)) = false := by rw [HG.out]; exact decide_eq_false (by first | omega | (have := HCN.out; omega))
      clear h65
      go_wp2_with fail
      go_meet
      case rel => exact ⟨rfl, rfl⟩
    · have f2 : decide ((65 : Int) ≤ (S[0].toNat : Int)) = false := by rw [HG.out]; exact decide_eq_false (by first | omega | (have := HCN.out; omega))
      clear h65
      go_wp2_with fail
      go_meet
      case rel => exact ⟨rfl, rfl⟩
  case rest =>
  obtain ⟨rfl, hw1c⟩ := hcut
  subst hw1c
  go_upto_region 19 with fail
  go_cut [86] (fun o wx => o = .bool false ∧ wx = wc)
  case first =>
    have f5 : ((S[0].toNat : Int) == (45 : Int)) = false := by rw [HG.out]; rw [beq_eq_false_iff_ne]; first | omega | (have := HCN.out; omega)
    by_cases h48 : (48 : Int) ≤ (c.toNat : Int)
    · have f6 : decide ((48 : Int) ≤ (S[0].toNat : Int)) = true := by rw [HG.out]; exact decide_eq_true (by first | omega | (have := HCN.out; omega))
      have f7 : decide ((S[0].toNat : Int) ≤ (57 : Int)) = false := by rw [HG.out]; exact decide_eq_false (by first | omega | (have := HCN.out; omega))
      clear h48
      go_wp2_with fail
      go_meet
      case rel => exact ⟨rfl, rfl⟩
    · have f6 : decide ((48 : Int) ≤ (S[0].toNat : Int)) = false := by rw [HG.out]; exact decide_eq_false (by first | omega | (have := HCN.out; omega))
      clear h48
      go_wp2_with fail
      go_meet
      case rel => exact ⟨rfl, rfl⟩
  case rest =>
  obtain ⟨rfl, hw2c⟩ := hcut
  subst hw2c
  go_upto_region 24 with fail
  go_cut [123] (fun o wx => o = .bool false ∧ wx = wc)
  case first =>
    by_cases h97 : (c.toNat : Int) < (97 : Int)
    · have f2 : decide ((S[0].toNat : Int) < (97 : Int)) = true := by rw [HG.out]; exact decide_eq_true (by first | omega | (have := HCN.out; omega))
      exact absurd h97 (by have := HCN.out; omega)
    · have f2 : decide ((S[0].toNat : Int) < (97 : Int)) = false := by rw [HG.out]; exact decide_eq_false (by first | omega | (have := HCN.out; omega))
      have f3 : decide ((122 : Int) < (S[0].toNat : Int)) = false := by rw [HG.out]; exact decide_eq_false (by first | omega | (have := HCN.out; omega))
      clear h97
      go_wp2_with fail
      go_meet
      case rel => exact ⟨rfl, rfl⟩
  case rest =>
  obtain ⟨rfl, hw3c⟩ := hcut
  subst hw3c
  have hw := HI.out.wd
  rw [HL.out] at hw
  obtain ⟨wb, wo, cap, hlv, hlc, hcm, -, hbl, hwc, hrest⟩ := wd_cons hw
  subst hlv
  have HPOP := hid (fun (a' : Option Addr) (ha : cap ≠ 1 → a' = some ⟨wb, wo + 1, none⟩) => pop_x HI.out HL.out (hrest a' ha) HX.out HN.out)
  unfold maxLen at hcm
  have hle : (1 : Int) ≤ ((r.length : Int) + 1) := by omega
  clear hw hrest
  go_upto_region 27 with fail
  go_cut [] (fun wx => ∃ lv2, PsI base g lv2 vv { p with l := r } wx ∧ Ch (RdM g vv) wc wx ∧ wx.heap[w.heap.size]? = some (.cells #[.int .i64 0, .int .i64 0, .string ⟨#[]⟩, .slice none 0 0] 34 (0, 0)))
  case first =>
    go_wp2_with fail
    all_goals
      go_meet
      first
      | exact ⟨_, HPOP.out (some ⟨wb, wo + 1, none⟩) (fun _ => rfl)⟩
      | (obtain rfl : cap = 1 := by assumption
         exact ⟨_, HPOP.out (some ⟨wb, wo, none⟩) (fun h => absurd rfl h)⟩)
  case rest =>
  obtain ⟨lv2, k1, k2, k3⟩ := hcut
  have HI2 := hid k1
  have HC2 := hid (HCH.out.trans k2 (fun b hb => .inl hb))
  have HX2 := hid k3
  clear b0 b1 b2 bf x0 x1 x2 x3 xf hgl HPOP
  obtain ⟨b0, b1, b2, bf⟩ := k1.cells
  have hgl := k1.lt.1
  obtain ⟨x0, x1, x2, x3, xf⟩ := blk4 k3
  have hxl := blk_lt k3
  clear k1 k2 k3
  obtain ⟨Wd, hWd⟩ : ∃ Wd, Wd = c :: q := ⟨_, rfl⟩
  have HWD := hid hWd
  have hSW : S = bs Wd := by rw [hWd]; exact HSS.out
  have hwl : (bs Wd).size ≤ 2000 := by rw [bs_size, hWd]; exact HTK.out.1
  have HWL := hid hwl
  obtain ⟨p3, hp3⟩ : ∃ p3 : Ps, p3 = { p with l := r } := ⟨_, rfl⟩
  rw [← hp3] at HI2
  have HP3 := hid hp3
  have HR := hid (show p3.l.length + 1 ≤ 2000 by rw [hp3]; have := HI.out.len; rw [HL.out] at this; simp only [List.length_cons] at this; show r.length + 1 ≤ 2000; omega)
  have HZ2 := hid hxl
  subst hSW
  clear hWd hwl hp3 hxl b0 b1 b2 bf x0 x1 x2 x3 xf HTK HF
  go_upto_region 29 with fail
  obtain ⟨y, hy⟩ : ∃ y, y = wc.heap.size := ⟨_, rfl⟩
  obtain ⟨W3, hW3⟩ : ∃ W3, W3 = wc.alloc (.cells #[.int .i64 1, .int .i64 0, .string (bs Wd), .slice none 0 0] 34) := ⟨_, rfl⟩
  have HB3 := hid (show Below wc.heap.size wc W3 by rw [hW3]; exact (Below.refl _ _).alloc (Nat.le_refl _) _)
  have HY3 := hid (show W3.heap[y]? = some (.cells #[.int .i64 1, .int .i64 0, .string (bs Wd), .slice none 0 0] 34 (0, 0)) by rw [hW3, hy]; exact blk_new _ _)
  have HNY := hid (show ¬ RdM g vv y by rw [hy]; exact fun e => by have := HI2.out.rm_lt _ e; omega)
  have hxy : w.heap.size < y := by have := HZ2.out; omega
  have HX3 := hid (blk_below HX2.out HB3.out)
  have HI3 := hid (HI2.out.below HB3.out)
  have HC3 := hid (HC2.out.then_below HB3.out)
  rw [← hW3, ← hy]
  have HYZ := hid hy
  clear hW3 hy
  have HAT : Hid (Calls Tryz.prog 80 #[.pointer (some ⟨g, 0, none⟩), .string ⟨#[40]⟩] W3 _) := hid (ptake_ok [40] HI3.out)
  go_wp2_with fail
  refine HAT.out.mono ?_
  rintro e w3 ⟨rfl, hst3⟩
  obtain ⟨l3, v3, k1, k2, k3, k4, k5, k6, k7⟩ := pstep_xy hst3 HX3.out HN.out HY3.out HNY.out
  have HI4 := hid k1
  have HC4 := hid (HC3.out.trans k2 (fun b hb => .inl hb))
  have HV4 := hid (show VG w vv v3 from fun b hb => (k3 b hb).imp id (fun e => by have := HB3.out.size; have := HZ2.out; omega))
  obtain ⟨x0, x1, x2, x3, xf⟩ := blk4 k4
  obtain ⟨y0, y1, y2, y3, yf⟩ := blk4 k6
  have hyl := blk_lt k6
  have hxl : w.heap.size < w3.heap.size := blk_lt k4
  have HX4 := hid k4
  have HY4 := hid k6
  have HN4 := hid k5
  have HM4 := hid k7
  have hyx : ¬ w.heap.size = y := by omega
  have hyx' : ¬ y = w.heap.size := by omega
  have htk := (take_len (sg := [40]) p3).2
  clear hst3 k1 k2 k3 k4 k5 k6 k7 HAT
  have HTAIL := hid (show tailP (termP n) (c :: q) { p with l := r } = if (p3.take [40]).1 = false then (.mk 1 0 (bs Wd) [], p3)
    else (.mk 3 0 (bs Wd) (argsP (termP n) ((termP n (p3.take [40]).2).2.l.length + 1) [(termP n (p3.take [40]).2).1] (termP n (p3.take [40]).2).2).1, (argsP (termP n) ((termP n (p3.take [40]).2).2.l.length + 1) [(termP n (p3.take [40]).2).1] (termP n (p3.take [40]).2).2).2.must [41]) by rw [← HWD.out, ← HP3.out]; rfl)
  cases hat : (p3.take [40]).1 with
  | false =>
    have HT := hid (HTAIL.out.trans (if_pos hat))
    have HTS := hid (take_same hat)
    clear hat htk
    go_wp2_with fail
    rw [HT.out, ← HTS.out]
    refine bodyPost_ret (v := .agg #[.int .i64 1, .int .i64 0, .string (bs Wd), .slice none 0 0]) (by simp [results, Tryz.results79, go_sem, hcs, x0, x1, x2, x3, hgx]; try rfl) rfl ?_
    exact ptm_end HI4.out HC4.out HV4.out HN4.out hBx (rep_leaf i64_1 i64_0 (by have := HWL.out; omega))
  | true =>
    have HT := hid (HTAIL.out.trans (if_neg (by rw [hat]; simp)))
    have HR1L := hid (show (p3.take [40]).2.l.length + 2 ≤ 2000 by have := htk hat; have := HR.out; omega)
    clear hat htk
    obtain ⟨p4, hp4⟩ : ∃ p4, p4 = (p3.take [40]).2 := ⟨_, rfl⟩
    rw [← hp4] at HI4 HT HR1L
    clear hp4 HTAIL
    go_upto_region 31 with fail
    rw [HT.out]
    have HL0 : Hid (ALoop base g w.heap.size y vv Wd [] p4 l3 v3 (.slice none 0 0) w (w3.setCell ⟨y, 0, none⟩ (.int .i64 3))) := hid ⟨HI4.out.other HM4.out (by omega), HC4.out.setCell (p := ⟨y, 0, none⟩) (.inr (by simp only; omega)) _, HV4.out,
      blk_keeps (A := fun b => b ≠ y) HX4.out (Keeps.setCell _ _ _ _ (fun e => e rfl)) hyx, blk_set HY4.out 0 _, HN4.out, HM4.out, OwnR.nil .., fun b hb => by simp [ownB] at hb, ⟨rfl, hxy, by simp only [World.size_setCell]; exact hyl⟩, by have := HR1L.out; simp only [List.length_nil]; omega⟩
    generalize w3.setCell ⟨y, 0, none⟩ (.int .i64 3) = W4 at *
    clear x0 x1 x2 x3 xf y0 y1 y2 y3 yf hyl hxl
    obtain ⟨X0, hX0⟩ : ∃ X0, X0 = termP n p4 := ⟨_, rfl⟩
    rw [← hX0] at HT ⊢
    have HXL0 := hid (show X0.2.l.length ≤ p4.l.length by rw [hX0]; exact termP_len n p4)
    go_cut [] (fun wx => ∃ lx vx va, ALoop base g w.heap.size y vv Wd [X0.1] X0.2 lx vx va w wx)
    case first =>
      have hlt := HL0.out.xy.2.2
      have hcall := HIH.out l3 v3 p4 W4.drew HL0.out.drew.ps
      rw [← hX0] at hcall
      have HCALL := hid hcall
      obtain ⟨l, hl⟩ : ∃ l : List Tm, l = [] := ⟨_, rfl⟩
      obtain ⟨pa, pc, hpv⟩ : ∃ (pa : Option Addr) (pc : Nat), Value.slice none 0 0 = Value.slice pa l.length pc := ⟨none, 0, by rw [hl]; rfl⟩
      have HTL := HL0
      rw [hpv, ← hl] at HTL
      have hq3 : W4.drew.cell? ⟨y, 3, none⟩ = some (.slice pa l.length pc) := (blk_cell HTL.out.drew.by_ 3).trans rfl
      have HXL := HXL0
      have HLL := hid (show l.length + p4.l.length ≤ 2000 by rw [hl]; have := HR1L.out; simp only [List.length_nil]; omega)
      have HLN := hid hl
      clear hcall hX0 hpv hl HL0
      go_wp2_with fail
      have hdm := HDM.out
      have hdi := HDI.out
      refine wp_region_F (F := fun k w' => k = 1 → w'.cell? ⟨y, 3, none⟩ = some (.slice pa l.length pc)) (by kernel_rfl) ?_
      refine wpTk (i := 0) (v := ?_) rfl (Or.inl ⟨by rfl, ?_⟩) (fun _ => hq3) ?_
      rotate_left
      · (intro w' hw; clear hw; go_simp <;> with_reducible rfl)
      try simp only [Act.put, List.setIfInBounds_toArray, List.set_cons_zero, List.set_cons_succ]
      refine wpTk (i := 1) (v := ?_) rfl (Or.inl ⟨by rfl, ?_⟩) (fun _ => hq3) ?_
      rotate_left
      · (intro w' hw; obtain q3 := hw (by omega); go_simp <;> with_reducible rfl)
      try simp only [Act.put, List.setIfInBounds_toArray, List.set_cons_zero, List.set_cons_succ]
      refine wpTk (i := 2) (v := ?_) rfl (Or.inl ⟨by rfl, ?_⟩) (fun _ => hq3) ?_
      rotate_left
      · (intro w' hw; clear hw; go_simp <;> with_reducible rfl)
      try simp only [Act.put, List.setIfInBounds_toArray, List.set_cons_zero, List.set_cons_succ]
      refine wpTk (i := 3) (v := ?_) rfl (Or.inl ⟨by rfl, ?_⟩) (fun _ => hq3) ?_
      rotate_left
      · (intro w' hw; clear hw; go_simp <;> with_reducible rfl)
      try simp only [Act.put, List.setIfInBounds_toArray, List.set_cons_zero, List.set_cons_succ]
      refine wpTk (i := 4) (v := .int .i64 (d - 1)) rfl (Or.inl ⟨by rfl, ?_⟩) (fun _ => hq3) ?_
      · (intro w' hw; clear hw; go_simp; rw [IntKind.wrap_i64] <;> omega)
      try simp only [Act.put, List.setIfInBounds_toArray, List.set_cons_zero, List.set_cons_succ]
      refine wpAnyF_one (i := 5) (by kernel_rfl) (wpOp_run rfl (by rfl) ?_)
      go_simp
      refine HCALL.out.mono ?_
      rintro e w5 ⟨us, lr2, vr2, rfl, k1, k2, k3, k4⟩
      obtain ⟨ua, uc, rfl, -⟩ := Tm.rep4 k4
      have hol := HTL.out.own.lt
      have HT5 := hid (HTL.out.drew.move k1 k2 k3 (by have := HXL.out; have := HLL.out; omega))
      have HN5 := hid (show Tm.rep (fun b => (y + 1 ≤ b ∧ ¬ RdM g vr2 b) ∧ ownB (.slice pa l.length pc) ≠ some b) w5 X0.1 _ from Tm.rep_lasts.2.1 _ _ _ _ _ k4 fun b _ hb => ⟨⟨by have := hb.1; simp only [World.size_drew] at this; omega, hb.2⟩, fun e => by have := (hol b e).2; have := hb.1; simp only [World.size_drew] at this; omega⟩)
      have HQ5 := hid (show w5.cell? ⟨y, 3, none⟩ = some (.slice pa l.length pc) from (blk_cell HT5.out.by_ 3).trans rfl)
      have HLE := hid (show l.length < 4194304 ∧ y + 1 ≤ w5.heap.size from ⟨by have := HLL.out; omega, HT5.out.xy.2.2⟩)
      clear k1 k2 k3 k4 hq3
      refine ⟨fun _ _ _ _ => HQ5.out, ?_⟩
      refine wpAnyF_one (i := 6) (by kernel_rfl) (wpOp_run rfl (by rfl) ?_)
      go_simp
      refine ⟨fun _ _ _ _ => (Keeps.alloc (fun _ => True) w5 _).cell trivial HQ5.out, ?_⟩
      refine wpAnyF_one (i := 7) (by kernel_rfl) (wpOp_run rfl (by rfl) ?_)
      refine wp_app1 (.tmp 148) (.tmp 153) 23 rfl (y + 1) 34 4 56 tyTerm Tm.rep_lasts _ _ rfl HT5.out.own X0.1 [_, _, _, _] rfl rfl HN5.out HLE.out ?_
      intro v2 w6 hown hg
      have hny : ownB (.slice pa l.length pc) ≠ some y := fun e => by have := (hol y e).1; omega
      have hk6 : Keeps (fun b => ownB (.slice pa l.length pc) ≠ some b) w5 w6 := (Keeps.alloc _ _ _).trans (hg.keeps fun b hb => hb)
      refine ⟨fun _ _ _ _ => hk6.cell hny HQ5.out, ?_⟩
      obtain ⟨pa2, pc2, hv2, -⟩ := OwnR.val' hown
      rw [show (l ++ [X0.1]).length = l.length + 1 by simp] at hv2
      subst hv2
      have HT7 := hid (HT5.out.push hBx hown hg (by have := HXL.out; have := HLL.out; omega))
      have hq6 := blk4 (blk_keeps HT5.out.by_ hk6 hny)
      obtain ⟨q0, q1, q2, q3, qf⟩ := hq6
      clear hown hg hk6
      simp only [Act.put, List.setIfInBounds_toArray, List.set_cons_zero, List.set_cons_succ]
      refine wpTk (i := 8) (v := ?_) rfl (Or.inl ⟨by rfl, ?_⟩) (fun h => by omega) ?_
      rotate_left
      · (intro w' hw; clear hw; go_simp <;> with_reducible rfl)
      try simp only [Act.put, List.setIfInBounds_toArray, List.set_cons_zero, List.set_cons_succ]
      refine wpAnyF_one (i := 9) (by kernel_rfl) (wpOp_run rfl (by rfl) ?_)
      go_simp
      refine ⟨fun k0 hk0 _ h12 => ?_, wpAnyF_done (by kernel_rfl) ?_ _⟩
      · subst h12
        exact absurd (show waits _ 9 1 = true by kernel_rfl) (by rw [hk0]; decide)
      generalize w6.setCell ⟨y, 3, none⟩ _ = W7 at *
      clear q0 q1 q2 q3 qf
      go_step
      go_step
      go_meet
      case rel =>
        have h7 := HT7.out
        rw [HLN.out] at h7
        exact ⟨_, _, _, h7⟩
    case rest =>
    obtain ⟨lx, vx, va0, hT⟩ := hcut
    have HT1 := hid hT
    clear hT HL0 hX0
    go_upto_block 3 with fail
    go_cut [] (fun wx => ∃ lx vx va, ALoop base g w.heap.size y vv Wd (argsP (termP n) (X0.2.l.length + 1) [X0.1] X0.2).1 (argsP (termP n) (X0.2.l.length + 1) [X0.1] X0.2).2 lx vx va w wx)
    case first =>
      go_wp2_with fail
      go_loopw [] (fun wr => ∃ (k : Nat) (l : List Tm) (pp : Ps) (lr vr va : Value), ALoop base g w.heap.size y vv Wd l pp lr vr va w wr ∧ argsP (termP n) (X0.2.l.length + 1) [X0.1] X0.2 = argsP (termP n) (k + 1) l pp ∧ pp.l.length ≤ k ∧ l.length + pp.l.length ≤ 2000) (fun wr => psMu g wr)
      case atStart => exact ⟨X0.2.l.length, [X0.1], X0.2, lx, vx, va0, HT1.out, rfl, Nat.le_refl _, by have := HXL0.out; have := HR1L.out; simp only [List.length_singleton]; omega⟩
      case round =>
        obtain ⟨k, l, pp, lr, vr, va, hT, hargs, hk, hll⟩ := hrel
        have HTL0 := hid hT
        have HAR := hid hargs
        have HKL := hid hk
        have HLL0 := hid hll
        obtain ⟨b0, b1, b2, bf⟩ := hT.ps.cells
        have hgl := hT.ps.lt.1
        clear hT hargs hk hll HT1
        cases hbd : pp.bad with
        | true =>
          have HBD := hid (HAR.out.trans (argsP_bad hbd))
          rw [hbd] at b2
          clear hbd
          go_wp2_with fail
          go_meet
          case rel =>
            rw [HBD.out]
            exact ⟨_, _, _, HTL0.out⟩
        | false =>
          have HBD := hid hbd
          rw [hbd] at b2
          clear hbd
          have HAT : Hid (Calls Tryz.prog 80 #[.pointer (some ⟨g, 0, none⟩), .string ⟨#[44]⟩] wr _) := hid (ptake_ok [44] HTL0.out.ps)
          go_wp2_with fail
          refine HAT.out.mono ?_
          rintro e w8 ⟨rfl, l8, v8, k1, k2, k3⟩
          have htk := take_len (sg := [44]) pp
          have HT8 := hid (HTL0.out.move k1 k2 k3 (by have := HLL0.out; have := htk.1; omega))
          have HTK8 := hid htk
          clear k1 k2 k3 htk b0 b1 b2 bf hgl HAT
          cases hat : (pp.take [44]).1 with
          | false =>
            have HAT2 := hid (HAR.out.trans (argsP_no HBD.out hat))
            have HTS := hid (take_same hat)
            clear hat
            go_wp2_with fail
            go_meet
            case rel =>
              rw [HAT2.out]
              have h8 := HT8.out
              rw [HTS.out] at h8
              exact ⟨_, _, _, h8⟩
          | true =>
            have HAT2 := hid (HAR.out.trans (argsP_go HBD.out hat))
            have HAL2 := hid (HTK8.out.2 hat)
            clear hat
            obtain ⟨p8, hp8⟩ : ∃ p8, p8 = (pp.take [44]).2 := ⟨_, rfl⟩
            rw [← hp8] at HT8 HAT2 HAL2
            obtain ⟨X, hX⟩ : ∃ X, X = termP n p8 := ⟨_, rfl⟩
            rw [← hX] at HAT2
            have HTL := HT8
            obtain ⟨pa, pc, rfl, hpl, hpm⟩ := OwnR.val' HTL.out.own
            have hlt := HTL.out.xy.2.2
            have hcall := HIH.out l8 v8 p8 w8.drew HTL.out.drew.ps
            rw [← hX] at hcall
            have HCALL := hid hcall
            have hq3 : w8.drew.cell? ⟨y, 3, none⟩ = some (.slice pa l.length pc) := (blk_cell HTL.out.drew.by_ 3).trans rfl
            have HXL := hid (show X.2.l.length ≤ p8.l.length by rw [hX]; exact termP_len n p8)
            have HLL := hid (show l.length + p8.l.length ≤ 2000 by have := HLL0.out; have := HAL2.out; omega)
            clear hcall hX hp8 HT8
            go_wp2_with fail
            have hdm := HDM.out
            have hdi := HDI.out
            refine wp_region_F (F := fun k w' => k = 1 → w'.cell? ⟨y, 3, none⟩ = some (.slice pa l.length pc)) (by kernel_rfl) ?_
            refine wpTk (i := 0) (v := ?_) rfl (Or.inl ⟨by rfl, ?_⟩) (fun _ => hq3) ?_
            rotate_left
            · (intro w' hw; clear hw; go_simp <;> with_reducible rfl)
            try simp only [Act.put, List.setIfInBounds_toArray, List.set_cons_zero, List.set_cons_succ]
            refine wpTk (i := 1) (v := ?_) rfl (Or.inl ⟨by rfl, ?_⟩) (fun _ => hq3) ?_
            rotate_left
            · (intro w' hw; obtain q3 := hw (by omega); go_simp <;> with_reducible rfl)
            try simp only [Act.put, List.setIfInBounds_toArray, List.set_cons_zero, List.set_cons_succ]
            refine wpTk (i := 2) (v := ?_) rfl (Or.inl ⟨by rfl, ?_⟩) (fun _ => hq3) ?_
            rotate_left
            · (intro w' hw; clear hw; go_simp <;> with_reducible rfl)
            try simp only [Act.put, List.setIfInBounds_toArray, List.set_cons_zero, List.set_cons_succ]
            refine wpTk (i := 3) (v := ?_) rfl (Or.inl ⟨by rfl, ?_⟩) (fun _ => hq3) ?_
            rotate_left
            · (intro w' hw; clear hw; go_simp <;> with_reducible rfl)
            try simp only [Act.put, List.setIfInBounds_toArray, List.set_cons_zero, List.set_cons_succ]
            refine wpTk (i := 4) (v := .int .i64 (d - 1)) rfl (Or.inl ⟨by rfl, ?_⟩) (fun _ => hq3) ?_
            · (intro w' hw; clear hw; go_simp; rw [IntKind.wrap_i64] <;> omega)
            try simp only [Act.put, List.setIfInBounds_toArray, List.set_cons_zero, List.set_cons_succ]
            refine wpAnyF_one (i := 5) (by kernel_rfl) (wpOp_run rfl (by rfl) ?_)
            go_simp
            refine HCALL.out.mono ?_
            rintro e w5 ⟨us, lr2, vr2, rfl, k1, k2, k3, k4⟩
            obtain ⟨ua, uc, rfl, -⟩ := Tm.rep4 k4
            have hol := HTL.out.own.lt
            have HT5 := hid (HTL.out.drew.move k1 k2 k3 (by have := HXL.out; have := HLL.out; omega))
            have HN5 := hid (show Tm.rep (fun b => (y + 1 ≤ b ∧ ¬ RdM g vr2 b) ∧ ownB (.slice pa l.length pc) ≠ some b) w5 X.1 _ from Tm.rep_lasts.2.1 _ _ _ _ _ k4 fun b _ hb => ⟨⟨by have := hb.1; simp only [World.size_drew] at this; omega, hb.2⟩, fun e => by have := (hol b e).2; have := hb.1; simp only [World.size_drew] at this; omega⟩)
            have HQ5 := hid (show w5.cell? ⟨y, 3, none⟩ = some (.slice pa l.length pc) from (blk_cell HT5.out.by_ 3).trans rfl)
            have HLE := hid (show l.length < 4194304 ∧ y + 1 ≤ w5.heap.size from ⟨by have := HLL.out; omega, HT5.out.xy.2.2⟩)
            clear k1 k2 k3 k4 hq3
            refine ⟨fun _ _ _ _ => HQ5.out, ?_⟩
            refine wpAnyF_one (i := 6) (by kernel_rfl) (wpOp_run rfl (by rfl) ?_)
            go_simp
            refine ⟨fun _ _ _ _ => (Keeps.alloc (fun _ => True) w5 _).cell trivial HQ5.out, ?_⟩
            refine wpAnyF_one (i := 7) (by kernel_rfl) (wpOp_run rfl (by rfl) ?_)
            refine wp_app1 (.tmp 166) (.tmp 171) 23 rfl (y + 1) 34 4 56 tyTerm Tm.rep_lasts _ _ rfl HT5.out.own X.1 [_, _, _, _] rfl rfl HN5.out HLE.out ?_
            intro v2 w6 hown hg
            have hny : ownB (.slice pa l.length pc) ≠ some y := fun e => by have := (hol y e).1; omega
            have hk6 : Keeps (fun b => ownB (.slice pa l.length pc) ≠ some b) w5 w6 := (Keeps.alloc _ _ _).trans (hg.keeps fun b hb => hb)
            refine ⟨fun _ _ _ _ => hk6.cell hny HQ5.out, ?_⟩
            obtain ⟨pa2, pc2, hv2, -⟩ := OwnR.val' hown
            rw [show (l ++ [X.1]).length = l.length + 1 by simp] at hv2
            subst hv2
            have HT7 := hid (HT5.out.push hBx hown hg (by have := HXL.out; have := HLL.out; omega))
            have hq6 := blk4 (blk_keeps HT5.out.by_ hk6 hny)
            obtain ⟨q0, q1, q2, q3, qf⟩ := hq6
            clear hown hg hk6
            simp only [Act.put, List.setIfInBounds_toArray, List.set_cons_zero, List.set_cons_succ]
            refine wpTk (i := 8) (v := ?_) rfl (Or.inl ⟨by rfl, ?_⟩) (fun h => by omega) ?_
            rotate_left
            · (intro w' hw; clear hw; go_simp <;> with_reducible rfl)
            try simp only [Act.put, List.setIfInBounds_toArray, List.set_cons_zero, List.set_cons_succ]
            refine wpAnyF_one (i := 9) (by kernel_rfl) (wpOp_run rfl (by rfl) ?_)
            go_simp
            refine ⟨fun k0 hk0 _ h12 => ?_, wpAnyF_done (by kernel_rfl) ?_ _⟩
            · subst h12
              exact absurd (show waits _ 9 1 = true by kernel_rfl) (by rw [hk0]; decide)
            generalize w6.setCell ⟨y, 3, none⟩ _ = W7 at *
            clear q0 q1 q2 q3 qf
            go_wp2_with fail
            go_roundw
            case rel =>
              have h1 := HAL2.out
              have h2 := HXL.out
              have h3 := HKL.out
              have h4 := HLL0.out
              exact ⟨k - 1, l ++ [X.1], X.2, _, _, _, HT7.out, by rw [HAT2.out, show k - 1 + 1 = k by omega], by omega, by simp only [List.length_append, List.length_singleton]; omega⟩
            case measure =>
              have h1 := HAL2.out
              have h2 := HXL.out
              rw [psMu_of HT7.out.ps, psMu_of HTL0.out.ps]
              omega
    case rest =>
      obtain ⟨lx2, vx2, va, hT⟩ := hcut
      obtain ⟨A, hA⟩ : ∃ A, A = argsP (termP n) (X0.2.l.length + 1) [X0.1] X0.2 := ⟨_, rfl⟩
      rw [← hA] at hT
      have HA := hid hA
      have HTL := hid hT
      obtain ⟨pa, pc, rfl, hpl, hpm⟩ := OwnR.val' hT.own
      obtain ⟨b0, b1, b2, bf⟩ := hT.ps.cells
      have hgl := hT.ps.lt.1
      clear hT hA HT1
      have hgy : ¬ g = y := fun e => HTL.out.ny (.inl e.symm)
      go_upto_region 34 with fail
      go_cut [] (fun wx => ∃ lx vx, ALoop base g w.heap.size y vv Wd A.1 (A.2.must [41]) lx vx (.slice pa A.1.length pc) w wx)
      case first =>
        cases hbd : A.2.bad with
        | true =>
          have HM := hid (show A.2.must [41] = { A.2 with bad := true } by unfold Ps.must; rw [if_pos hbd, ← hbd])
          rw [hbd] at b2
          clear hbd
          obtain ⟨k1, k2⟩ := HTL.out.ps.setBad true
          have HT9 := hid (HTL.out.move k1 k2 (VG.refl _ _) HTL.out.ll)
          clear k1 k2
          go_wp2_with fail
          go_meet
          case rel =>
            rw [HM.out]
            exact ⟨_, _, HT9.out⟩
        | false =>
          have HBD := hid hbd
          rw [hbd] at b2
          clear hbd
          have HAT : Hid (Calls Tryz.prog 80 #[.pointer (some ⟨g, 0, none⟩), .string ⟨#[41]⟩] wc _) := hid (ptake_ok [41] HTL.out.ps)
          go_wp2_with fail
          refine HAT.out.mono ?_
          rintro e w8 ⟨rfl, l8, v8, k1, k2, k3⟩
          have htk := take_len (sg := [41]) A.2
          have HT8 := hid (HTL.out.move k1 k2 k3 (by have := HTL.out.ll; have := htk.1; omega))
          clear k1 k2 k3 htk b0 b1 b2 bf hgl HAT
          obtain ⟨b0, b1, b2, bf⟩ := HT8.out.ps.cells
          have hgl := HT8.out.ps.lt.1
          cases hat : (A.2.take [41]).1 with
          | true =>
            have HM := hid (show A.2.must [41] = { (A.2.take [41]).2 with bad := false } by
              unfold Ps.must
              rw [if_neg (by rw [HBD.out]; simp), if_pos hat]
              have e : (A.2.take [41]).2.bad = false := by rw [take_badP]; exact HBD.out
              rw [← e])
            clear hat
            obtain ⟨k1, k2⟩ := HT8.out.ps.setBad false
            have HT9 := hid (HT8.out.move k1 k2 (VG.refl _ _) HT8.out.ll)
            clear k1 k2
            go_wp2_with fail
            go_meet
            case rel =>
              rw [HM.out]
              exact ⟨_, _, HT9.out⟩
          | false =>
            have HM := hid (show A.2.must [41] = { (A.2.take [41]).2 with bad := true } by
              unfold Ps.must
              rw [if_neg (by rw [HBD.out]; simp), if_neg (by rw [hat]; simp), take_same hat]
              rfl)
            clear hat
            obtain ⟨k1, k2⟩ := HT8.out.ps.setBad true
            have HT9 := hid (HT8.out.move k1 k2 (VG.refl _ _) HT8.out.ll)
            clear k1 k2
            go_wp2_with fail
            go_meet
            case rel =>
              rw [HM.out]
              exact ⟨_, _, HT9.out⟩
      case rest =>
        obtain ⟨lx9, vx9, hT⟩ := hcut
        have HT9 := hid hT
        obtain ⟨q0, q1, q2, q3, qf⟩ := blk4 HT9.out.by_
        obtain ⟨x0, x1, x2, x3, xf⟩ := blk4 HT9.out.bx
        have hyl := HT9.out.xy.2.2
        have hxl9 := blk_lt HT9.out.bx
        clear hT b0 b1 b2 bf hgl
        go_wp2_with fail
        rw [HT.out, ← HA.out]
        refine bodyPost_ret (v := .agg #[.int .i64 3, .int .i64 0, .string (bs Wd), .slice pa A.1.length pc]) (by simp [results, Tryz.results79, go_sem, hcs, x0, x1, x2, x3, q0, q1, q2, q3, hyx, hgx, hgy]; try rfl) rfl ?_
        refine ptm_end HT9.out.ps HT9.out.ch HT9.out.vg HT9.out.nx hBx ?_
        have hol := HT9.out.own.lt
        refine Tm.rep_iff.2 ⟨i64_3, i64_0, by have := HWL.out; omega, _, rfl, OwnR.sl' Tm.rep_lasts (HT9.out.own.mono Tm.rep_lasts fun b hb hA => ⟨⟨by omega, hA.2⟩, by omega⟩) (by have := HT9.out.ll; omega) fun b hb => ?_⟩
        have h1 := (hol b hb).1
        exact ⟨⟨by omega, HT9.out.na b hb⟩, by omega⟩
end
end Go.Proofs.YtlpmfkpefoegeacGreatDoor
