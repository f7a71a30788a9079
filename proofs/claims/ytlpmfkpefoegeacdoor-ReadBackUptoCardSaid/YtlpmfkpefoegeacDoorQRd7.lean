/-
  The reader: term: a word of small letters.
-/
import Derived.Test.YtlpmfkpefoegeacDoorQRd6
import Derived.Deep.DeepCutAuto
import Derived.Deep.CutBlock
namespace Go.Proofs.YtlpmfkpefoegeacDoor
set_option linter.unusedVariables false
set_option linter.unusedSimpArgs false
open Go.RowKit
structure TLoop (B base g x y : Nat) (vv : Value) (W : Str) (l : List Tm) (rr : Rd) (vr va : Value) (w0 wr : World) : Prop where
  rd : RdI B base g vr rr wr
  ch : Ch (RdM g vv) w0 wr
  vg : VG w0 vv vr
  bx : wr.heap[x]? = some (.cells #[.int .i64 0, .int .i64 0, .string ⟨#[]⟩, .slice none 0 0] 27 (0, 0))
  by_ : wr.heap[y]? = some (.cells #[.int .i64 3, .int .i64 0, .string (bs W), va] 27 (0, 0))
  nx : ¬ RdM g vr x
  ny : ¬ RdM g vr y
  own : OwnR wr (y + 1) 27 4 Tm.rep (fun b => y + 1 ≤ b ∧ ¬ RdM g vr b) l va
  na : ∀ b, ownB va = some b → ¬ RdM g vr b
  xy : x = w0.heap.size ∧ x < y ∧ y < wr.heap.size
  ll : l.length + rr.s.length ≤ 2001
section
variable {B base g : Nat} {vv v1 : Value} {r r1 r2 : Rd} {w w1 w2 : World}
theorem step_xy {x y : Nat} {o o' : Obj} (hs : RdStep B base g v1 r2 w1 w2) (hx : w1.heap[x]? = some o) (hn : ¬ RdM g v1 x) (hy : w1.heap[y]? = some o') (hm : ¬ RdM g v1 y) :
    ∃ v2, RdI B base g v2 r2 w2 ∧ Ch (RdM g v1) w1 w2 ∧ VG w1 v1 v2 ∧ w2.heap[x]? = some o ∧ ¬ RdM g v2 x ∧ w2.heap[y]? = some o' ∧ ¬ RdM g v2 y := by
  obtain ⟨v2, h1, h2, h3⟩ := hs
  have hl := blk_lt hx
  have hl' := blk_lt hy
  refine ⟨v2, h1, h2, h3, (h2.block x hl hn).trans hx, fun e => ?_, (h2.block y hl' hm).trans hy, fun e => ?_⟩
  · rcases VG.rm h3 x e with e | e
    · exact hn e
    · omega
  · rcases VG.rm h3 y e with e | e
    · exact hm e
    · omega
section
variable {x y : Nat} {Wd : Str} {l : List Tm} {rr rr2 : Rd} {vr vr2 va : Value} {w0 wr w5 : World}
theorem TLoop.move (h : TLoop B base g x y vv Wd l rr vr va w0 wr) (k1 : RdI B base g vr2 rr2 w5) (k2 : Ch (RdM g vr) wr w5) (k3 : VG wr vr vr2) (hll : l.length + rr2.s.length ≤ 2001) :
    TLoop B base g x y vv Wd l rr2 vr2 va w0 w5 := by
  have hn2 : ∀ b, b < wr.heap.size → ¬ RdM g vr b → ¬ RdM g vr2 b := fun b hb hn e => (VG.rm k3 b e).elim hn (fun e => by omega)
  refine ⟨k1, h.ch.trans k2 (VG.rm h.vg), h.vg.trans k3 h.ch.size, (k2.block x (blk_lt h.bx) h.nx).trans h.bx, (k2.block y (blk_lt h.by_) h.ny).trans h.by_, hn2 _ (blk_lt h.bx) h.nx, hn2 _ (blk_lt h.by_) h.ny,
    ((h.own.mono (A' := fun b => (y + 1 ≤ b ∧ ¬ RdM g vr2 b) ∧ ¬ RdM g vr b) Tm.rep_lasts (fun b hb hA => ⟨⟨hA.1, hn2 b hb hA.2⟩, hA.2⟩)).keeps (B := fun b => ¬ RdM g vr b) Tm.rep_lasts (k2.keeps fun _ _ h => h) (fun _ h => h.2) h.na).mono Tm.rep_lasts (fun b _ hb => hb.1),
    fun b hb => hn2 b (h.own.lt b hb).2 (h.na b hb), ⟨h.xy.1, h.xy.2.1, Nat.lt_of_lt_of_le h.xy.2.2 k2.size⟩, hll⟩
theorem TLoop.drew (h : TLoop B base g x y vv Wd l rr vr va w0 wr) : TLoop B base g x y vv Wd l rr vr va w0 wr.drew :=
  h.move (h.rd.below (Below.refl _ _).drew) ((Ch.refl _ _).drew) (VG.refl _ _) h.ll
theorem TLoop.push {t : Tm} {v2 : Value} {w6 : World} {cells : Array Value} (h : TLoop B base g x y vv Wd l rr vr va w0 wr) (hB : B ≤ x) (hown : OwnR w6 (y + 1) 27 4 Tm.rep (fun b => y + 1 ≤ b ∧ ¬ RdM g vr b) (l ++ [t]) v2)
    (hg : Grew (wr.alloc (.cells cells 27)) w6 va v2) (hll : l.length + 1 + rr.s.length ≤ 2001) : TLoop B base g x y vv Wd (l ++ [t]) rr vr v2 w0 (w6.setCell ⟨y, 3, none⟩ v2) := by
  have hz := hg.size
  simp only [World.size_alloc] at hz
  have hxy := h.xy
  have hown2 : ∀ b, ownB va = some b → y + 1 ≤ b ∧ b < wr.heap.size := h.own.lt
  have hk : Keeps (fun b => ownB va ≠ some b) wr w6 := (Keeps.alloc _ _ _).trans (hg.keeps fun b hb => hb)
  have hk2 : Keeps (fun b => ownB va ≠ some b ∧ b ≠ y) wr (w6.setCell ⟨y, 3, none⟩ v2) := (hk.mono fun b _ hb => hb.1).trans (Keeps.setCell _ _ _ _ (fun e => e.2 rfl))
  have hny : ownB va ≠ some y := fun e => by have := (hown2 y e).1; omega
  have hnx : ownB va ≠ some x := fun e => by have := (hown2 x e).1; omega
  refine ⟨h.rd.keeps (hk2.mono fun b hb hA => ⟨fun e => ?_, fun e => ?_⟩), ?_, h.vg, blk_keeps h.bx hk2 ⟨hnx, by omega⟩, blk_set (blk_keeps h.by_ hk hny) 3 v2, h.nx, h.ny,
    hown.keeps (B := fun b => b ≠ y) Tm.rep_lasts (Keeps.setCell _ _ _ _ (fun e => e rfl)) (fun b hb => by omega) (fun b hb e => ?_), fun b hb => ?_, ⟨hxy.1, hxy.2.1, by simp only [World.size_setCell]; omega⟩, ?_⟩
  · rcases hA with hA | hA
    · have := (hown2 b e).1; omega
    · exact h.na b e hA
  · subst e
    rcases hA with hA | hA
    · omega
    · exact h.ny hA
  · exact (hg.ch (h.ch.alloc _) (fun b hb => .inr (by have := (hown2 b hb).1; omega))).setCell (p := ⟨y, 3, none⟩) (.inr (by simp only; omega)) _
  · subst e
    rcases hg.block with e | e
    · exact hny (e ▸ hb)
    · have := e b hb; simp only [World.size_alloc] at this; omega
  · rcases hg.block with e | e
    · exact h.na b (e ▸ hb)
    · have h1 := e b hb
      simp only [World.size_alloc] at h1
      exact fun hm => by have := h.rd.rm_lt b hm; omega
  · simp only [List.length_append, List.length_singleton]; omega
end
theorem argsR_bad {f : Rd → Tm × Rd} {k : Nat} {l : List Tm} {r : Rd} (h : (f r).2.bad = true) : argsR f (k + 1) l r = (l ++ [(f r).1], (f r).2) := by rw [argsR, if_pos h]
theorem argsR_go {f : Rd → Tm × Rd} {k : Nat} {l : List Tm} {r : Rd} (h : (f r).2.bad = false) (ha : ((f r).2.at_ [44]).1 = true) : argsR f (k + 1) l r = argsR f k (l ++ [(f r).1]) ((f r).2.at_ [44]).2 := by
  rw [argsR, if_neg (by rw [h]; simp), if_pos ha]
theorem argsR_no {f : Rd → Tm × Rd} {k : Nat} {l : List Tm} {r : Rd} (h : (f r).2.bad = false) (ha : ((f r).2.at_ [44]).1 = false) : argsR f (k + 1) l r = (l ++ [(f r).1], ((f r).2.at_ [44]).2) := by
  rw [argsR, if_neg (by rw [h]; simp), if_neg (by rw [ha]; simp)]
set_option maxRecDepth 100000 in
set_option maxHeartbeats 8000000 in
theorem rterm_word (n : Nat) (d : Int) (hd : d ≤ 24) (hd0 : 0 ≤ d) (IH : ∀ (vv : Value) (r : Rd) (w : World), RdI B base g vv r w → Calls Tryd.prog 26 #[.pointer (some ⟨g, 0, none⟩), .int .i64 (d + 1)] w (RTm B base g vv (termR n r) w))
    (c : UInt8) (rest : Str) (hb : r.bad = false) (hs : spaceF r.s = c :: rest) (hc : upB c = false ∧ c ≠ 33 ∧ ¬ (c = 45 ∨ digB c = true)) (h : RdI B base g vv r w) :
    Calls Tryd.prog 26 #[.pointer (some ⟨g, 0, none⟩), .int .i64 d] w (RTm B base g vv (tailR (termR n) ((c :: rest).take (wordLen (c :: rest))) ⟨(c :: rest).drop (wordLen (c :: rest)), r.vars, false⟩) w) := by
  have HU := hid h
  have HSP := hid (rspace_ok (h.below ((Below.refl _ _).alloc (Nat.le_refl _) zcells)))
  have hBx : B ≤ w.heap.size := by have := h.bg; omega
  have hcs := cell_set
  have f1 : decide (24 < d) = false := by simp; omega
  have HB := hid hb
  have HS := hid hs
  obtain ⟨S, hS⟩ : ∃ S, S = bs (c :: rest) := ⟨_, rfl⟩
  have HSS := hid hS
  have t1 : S.toList.isEmpty = false := by rw [hS, bs_toList]; rfl
  have t2 : ¬ S.toList = [] := by rw [hS, bs_toList]; simp
  have t3 : 0 < S.size := by rw [hS, bs_size]; simp
  have hg0 : S[0] = c := by subst hS; exact cons_get c rest t3
  have HG := hid hg0
  have hc0 : 0 ≤ (S[0].toNat : Int) := by omega
  have hcn : ¬ (65 ≤ (c.toNat : Int) ∧ (c.toNat : Int) ≤ 90) ∧ (c.toNat : Int) ≠ 33 ∧ (c.toNat : Int) ≠ 45 ∧ ¬ (48 ≤ (c.toNat : Int) ∧ (c.toNat : Int) ≤ 57) := by
    obtain ⟨k1, k2, k3⟩ := hc
    refine ⟨fun e => ?_, fun e => k2 (UInt8.toNat_inj.1 (by have e33 : (33 : UInt8).toNat = 33 := rfl; omega)), fun e => k3 (.inl (UInt8.toNat_inj.1 (by have e45 : (45 : UInt8).toNat = 45 := rfl; omega))), fun e => k3 (.inr (dig_iff.2 e))⟩
    rw [up_iff.2 e] at k1; cases k1
  have HCN := hid hcn
  have HD0 := hid hd0
  have HIH := hid IH
  clear hc hcn IH
  clear hd hb hs hS hg0
  clear h
  go_enter Tryd.func26, Tryd.ntmps26
  go_wp2_with fail
  refine HSP.out.mono ?_
  rintro e w1 ⟨rfl, hst⟩
  obtain ⟨v1, h1, c1, g1, x1, hz1, n1⟩ := term_start HU.out hst
  have HI := hid h1
  have HCH := hid c1
  have HV := hid g1
  have HX := hid x1
  have HN := hid n1
  obtain ⟨b0, b1, b2, bf⟩ := h1.cells
  have hgl := h1.lt.1
  have hgx : ¬ g = w.heap.size := fun e => n1 (.inl e.symm)
  obtain ⟨x0, x1, x2, x3, xf⟩ := blk4 x1
  have e0 : r.space.s = spaceF r.s := rfl
  have e2 : r.space.bad = r.bad := rfl
  rw [e0] at b0
  rw [e2] at b2
  clear hst h1 c1 g1 n1 e0 e2
  rw [HB.out] at b2
  rw [HS.out, ← HSS.out] at b0
  go_upto_region 6 with fail
  go_cut [35] (fun o wx => o = .bool false ∧ wx = w1)
  case first =>
    by_cases h65 : (65 : Int) ≤ (c.toNat : Int)
    · have f2 : decide ((65 : Int) ≤ (S[0].toNat : Int)) = true := by rw [HG.out]; exact decide_eq_true (by omega)
      have f3 : decide ((S[0].toNat : Int) ≤ (90 : Int)) = false := by rw [HG.out]; exact decide_eq_false (by have := HCN.out.1; omega)
      clear h65
      go_wp2_with fail
      go_meet
      case rel => exact ⟨rfl, rfl⟩
    · have f2 : decide ((65 : Int) ≤ (S[0].toNat : Int)) = false := by rw [HG.out]; exact decide_eq_false (by omega)
      clear h65
      go_wp2_with fail
      go_meet
      case rel => exact ⟨rfl, rfl⟩
  case rest =>
  obtain ⟨rfl, hw1c⟩ := hcut
  subst hw1c
  have f4 : ((S[0].toNat : Int) == (33 : Int)) = false := by rw [HG.out]; rw [beq_eq_false_iff_ne]; exact HCN.out.2.1
  have f5 : ((S[0].toNat : Int) == (45 : Int)) = false := by rw [HG.out]; rw [beq_eq_false_iff_ne]; exact HCN.out.2.2.1
  go_upto_region 11 with fail
  go_cut [58] (fun o wx => o = .bool false ∧ wx = wc)
  case first =>
    by_cases h48 : (48 : Int) ≤ (c.toNat : Int)
    · have f6 : decide ((48 : Int) ≤ (S[0].toNat : Int)) = true := by rw [HG.out]; exact decide_eq_true (by omega)
      have f7 : decide ((S[0].toNat : Int) ≤ (57 : Int)) = false := by rw [HG.out]; exact decide_eq_false (by have := HCN.out.2.2.2; omega)
      clear h48
      go_wp2_with fail
      go_meet
      case rel => exact ⟨rfl, rfl⟩
    · have f6 : decide ((48 : Int) ≤ (S[0].toNat : Int)) = false := by rw [HG.out]; exact decide_eq_false (by omega)
      clear h48
      go_wp2_with fail
      go_meet
      case rel => exact ⟨rfl, rfl⟩
  case rest =>
  obtain ⟨rfl, hw2c⟩ := hcut
  subst hw2c
  go_wp2_with fail
  have HW := hid (rword_ok (c :: rest) (by rw [← HS.out]; exact spaceF_idem r.s) HI.out)
  refine HW.out.mono ?_
  rintro e w2 ⟨rfl, hst2⟩
  obtain ⟨v2, k1, k2, k3, k4, k5⟩ := step_x hst2 HX.out HN.out
  obtain ⟨rr0, hrr0⟩ : ∃ rr0 : Rd, rr0 = ⟨(c :: rest).drop (wordLen (c :: rest)), r.vars, false⟩ := ⟨_, rfl⟩
  have er : ({ r.space with s := (c :: rest).drop (wordLen (c :: rest)) } : Rd) = rr0 := by
    rw [hrr0, ← HB.out]; rfl
  rw [er] at k1
  have HI2 := hid k1
  have HC2 := hid (step_chain HCH.out HV.out k2 k3)
  have HX2 := hid k4
  have HN2 := hid k5
  have HRR := hid hrr0
  have hl := HI.out.len
  have e0 : r.space.s = c :: rest := HS.out
  rw [e0] at hl
  obtain ⟨Wd, hWd⟩ : ∃ Wd, Wd = (c :: rest).take (wordLen (c :: rest)) := ⟨_, rfl⟩
  rw [← hWd]
  have HWD := hid hWd
  have hwl : (bs Wd).size ≤ 2000 := by rw [hWd, bs_size, List.length_take]; omega
  have HWL := hid hwl
  have HL := hid hl
  have hz2 : w.heap.size < w2.heap.size := blk_lt k4
  clear hst2 k1 k2 k3 k4 k5 hl e0 b0 b1 b2 bf x0 x1 x2 x3 xf HW er hrr0 hWd hgl
  go_wp2_with fail
  obtain ⟨y, hy⟩ : ∃ y, y = w2.heap.size := ⟨_, rfl⟩
  obtain ⟨W3, hW3⟩ : ∃ W3, W3 = w2.alloc (.cells #[.int .i64 1, .int .i64 0, .string (bs Wd), .slice none 0 0] 27) := ⟨_, rfl⟩
  have HB3 := hid (show Below w2.heap.size w2 W3 by rw [hW3]; exact (Below.refl _ _).alloc (Nat.le_refl _) _)
  have HY3 := hid (show W3.heap[y]? = some (.cells #[.int .i64 1, .int .i64 0, .string (bs Wd), .slice none 0 0] 27 (0, 0)) by rw [hW3, hy]; exact blk_new _ _)
  have HNY := hid (show ¬ RdM g v2 y by rw [hy]; exact fun e => by have := HI2.out.rm_lt _ e; omega)
  have hxy : w.heap.size < y := by omega
  have HX3 := hid (blk_below HX2.out HB3.out)
  have HI3 := hid (HI2.out.below HB3.out)
  have HC3 := hid (And.intro (HC2.out.1.then_below HB3.out) HC2.out.2)
  rw [← hW3, ← hy]
  have HYZ := hid hy
  clear hW3 hy hz2
  have HAT : Hid (Calls Tryd.prog 27 #[.pointer (some ⟨g, 0, none⟩), .string ⟨#[40]⟩] W3 _) := hid (rat_ok [40] (by simp) HI3.out)
  refine HAT.out.mono ?_
  rintro e w3 ⟨rfl, hst3⟩
  obtain ⟨v3, k1, k2, k3, k4, k5, k6, k7⟩ := step_xy hst3 HX3.out HN2.out HY3.out HNY.out
  have HI4 := hid k1
  have HC4 := hid (step_chain HC3.out.1 HC3.out.2 k2 (fun b hb => (k3 b hb).imp id (fun e => by have := HB3.out.size; omega)))
  obtain ⟨x0, x1, x2, x3, xf⟩ := blk4 k4
  obtain ⟨y0, y1, y2, y3, yf⟩ := blk4 k6
  have hyl := blk_lt k6
  have hxl : w.heap.size < w3.heap.size := blk_lt k4
  have HX4 := hid k4
  have HY4 := hid k6
  have HN4 := hid k5
  have HM4 := hid k7
  have hyx : ¬ w.heap.size = y := by omega
  have hyx' : ¬ y = w.heap.size := by omega
  have HTAIL := hid (show tailR (termR n) ((c :: rest).take (wordLen (c :: rest))) ⟨(c :: rest).drop (wordLen (c :: rest)), r.vars, false⟩ = if (rr0.at_ [40]).1 = false then (.mk 1 0 (bs Wd) [], (rr0.at_ [40]).2)
    else (.mk 3 0 (bs Wd) (argsR (termR n) ((rr0.at_ [40]).2.s.length + 1) [] (rr0.at_ [40]).2).1, (argsR (termR n) ((rr0.at_ [40]).2.s.length + 1) [] (rr0.at_ [40]).2).2.must [41]) by rw [← HWD.out, ← HRR.out]; rfl)
  clear hst3 k1 k2 k3 k4 k5 k6 k7 HAT
  cases hat : (rr0.at_ [40]).1 with
  | false =>
    have HT := hid hat
    clear hat
    go_wp2_with fail
    rw [HTAIL.out, if_pos HT.out]
    refine bodyPost_ret (v := .agg #[.int .i64 1, .int .i64 0, .string (bs Wd), .slice none 0 0]) (by simp [results, Tryd.results26, go_sem, hcs, x0, x1, x2, x3, hgx]; try rfl) rfl ?_
    exact rtm_end HI4.out HC4.out.1 HC4.out.2 HN4.out hBx (rep_leaf i64_1 i64_0 (by omega))
  | true =>
    have HT := hid (HTAIL.out.trans (if_neg (by rw [hat]; simp)))
    clear hat
    obtain ⟨r1, hr1⟩ : ∃ r1, r1 = (rr0.at_ [40]).2 := ⟨_, rfl⟩
    rw [← hr1] at HI4 HT
    have HR1L := hid (show r1.s.length ≤ 2000 by have := HI4.out.len; omega)
    clear hr1
    go_upto_block 1 with fail
    rw [HT.out]
    have HL0 : Hid (TLoop B base g w.heap.size y vv Wd [] r1 v3 (.slice none 0 0) w (w3.setCell ⟨y, 0, none⟩ (.int .i64 3))) := hid ⟨HI4.out.other HM4.out (by omega), HC4.out.1.setCell (p := ⟨y, 0, none⟩) (.inr (by simp only; omega)) _, HC4.out.2,
      blk_keeps (A := fun b => b ≠ y) HX4.out (Keeps.setCell _ _ _ _ (fun e => e rfl)) hyx, blk_set HY4.out 0 _, HN4.out, HM4.out, OwnR.nil .., fun b hb => by simp [ownB] at hb, ⟨rfl, hxy, by simp only [World.size_setCell]; exact hyl⟩, by have := HR1L.out; simp only [List.length_nil]; omega⟩
    generalize w3.setCell ⟨y, 0, none⟩ (.int .i64 3) = W4 at *
    clear x0 x1 x2 x3 xf y0 y1 y2 y3 yf hyl hxl
    go_cut [] (fun wx => ∃ vx va, TLoop B base g w.heap.size y vv Wd (argsR (termR n) (r1.s.length + 1) [] r1).1 (argsR (termR n) (r1.s.length + 1) [] r1).2 vx va w wx)
    case first =>
      go_wp2_with fail
      go_loopw [] (fun wr => ∃ (k : Nat) (l : List Tm) (rr : Rd) (vr va : Value), TLoop B base g w.heap.size y vv Wd l rr vr va w wr ∧ argsR (termR n) (r1.s.length + 1) [] r1 = argsR (termR n) (k + 1) l rr ∧ rr.s.length ≤ k ∧ l.length + rr.s.length ≤ 2000) (fun wr => rdMu g wr)
      case atStart => exact ⟨r1.s.length, [], r1, v3, .slice none 0 0, HL0.out, rfl, Nat.le_refl _, by simpa using HR1L.out⟩
      case round =>
        obtain ⟨k, l, rr, vr, va, hT, hargs, hk, hll⟩ := hrel
        have HTL := hid hT
        have HAR := hid hargs
        have HKL := hid hk
        have HLL := hid hll
        have hlt := hT.xy.2.2
        obtain ⟨pa, pc, rfl, hpl, hpm⟩ := OwnR.val' hT.own
        have hd24 : d ≤ 24 := by simpa using f1
        have hd0 := HD0.out
        have hq3 : wr.drew.cell? ⟨y, 3, none⟩ = some (.slice pa l.length pc) := (blk_cell HTL.out.drew.by_ 3).trans rfl
        obtain ⟨X, hX⟩ : ∃ X, X = termR n rr := ⟨_, rfl⟩
        have hcall := HIH.out vr rr wr.drew HTL.out.drew.rd
        have hxl := term_len n rr
        rw [← hX] at hcall hxl
        have HCALL := hid hcall
        have HXE := hid hX
        have HXL := hid hxl
        clear hT hargs hk hll HL0 hcall hX hxl
        go_wp2_with fail
        refine wp_region_F (F := fun k w' => k = 1 → w'.cell? ⟨y, 3, none⟩ = some (.slice pa l.length pc)) (by kernel_rfl) ?_
        refine wpTk (i := 0) (v := ?_) rfl (Or.inl ⟨by rfl, ?_⟩) (fun _ => hq3) ?_
        rotate_left
        · (intro w' hw; clear hw; go_simp <;> with_reducible rfl)
        try simp only [Act.put, List.setIfInBounds_toArray, List.set_cons_zero, List.set_cons_succ]
        refine wpTk (i := 1) (v := ?_) rfl (Or.inl ⟨by rfl, ?_⟩) (fun _ => hq3) ?_
        rotate_left
        · (intro w' hw; obtain q3 := hw (by omega); go_simp <;> with_reducible rfl)
        try simp only [Act.put, List.setIfInBounds_toArray, List.set_cons_zero, List.set_cons_succ]
        refine wpTk (i := 2) (v := ?_) rfl (Or.inl ⟨by rfl, ?_⟩) (fun _ => hq3) ?_
        rotate_left
        · (intro w' hw; clear hw; go_simp <;> with_reducible rfl)
        try simp only [Act.put, List.setIfInBounds_toArray, List.set_cons_zero, List.set_cons_succ]
        refine wpTk (i := 3) (v := ?_) rfl (Or.inl ⟨by rfl, ?_⟩) (fun _ => hq3) ?_
        rotate_left
        · (intro w' hw; clear hw; go_simp <;> with_reducible rfl)
        try simp only [Act.put, List.setIfInBounds_toArray, List.set_cons_zero, List.set_cons_succ]
        refine wpTk (i := 4) (v := .int .i64 (d + 1)) rfl (Or.inl ⟨by rfl, ?_⟩) (fun _ => hq3) ?_
        · (intro w' hw; clear hw; go_simp; rw [IntKind.wrap_i64] <;> omega)
        try simp only [Act.put, List.setIfInBounds_toArray, List.set_cons_zero, List.set_cons_succ]
        refine wpAnyF_one (i := 5) (by kernel_rfl) (wpOp_run rfl (by rfl) ?_)
        go_simp
        refine HCALL.out.mono ?_
        rintro e w5 ⟨us, vr2, rfl, k1, k2, k3, k4⟩
        obtain ⟨ua, uc, rfl, -⟩ := Tm.rep4 k4
        have hol := HTL.out.own.lt
        have HT5 := hid (HTL.out.drew.move k1 k2 k3 (by have := HXL.out; have := HLL.out; omega))
        have HN5 := hid (show Tm.rep (fun b => (y + 1 ≤ b ∧ ¬ RdM g vr2 b) ∧ ownB (.slice pa l.length pc) ≠ some b) w5 X.1 _ from Tm.rep_lasts.2.1 _ _ _ _ _ k4 fun b _ hb => ⟨⟨by have := hb.1; simp only [World.size_drew] at this; omega, hb.2⟩, fun e => by have := (hol b e).2; have := hb.1; simp only [World.size_drew] at this; omega⟩)
        have HQ5 := hid (show w5.cell? ⟨y, 3, none⟩ = some (.slice pa l.length pc) from (blk_cell HT5.out.by_ 3).trans rfl)
        have HLE := hid (show l.length < 4194304 ∧ y + 1 ≤ w5.heap.size from ⟨by have := HLL.out; omega, HT5.out.xy.2.2⟩)
        clear k1 k2 k3 k4 hq3
        refine ⟨fun _ _ _ _ => HQ5.out, ?_⟩
        refine wpAnyF_one (i := 6) (by kernel_rfl) (wpOp_run rfl (by rfl) ?_)
        go_simp
        refine ⟨fun _ _ _ _ => (Keeps.alloc (fun _ => True) w5 _).cell trivial HQ5.out, ?_⟩
        refine wpAnyF_one (i := 7) (by kernel_rfl) (wpOp_run rfl (by rfl) ?_)
        refine wp_app1 (.tmp 96) (.tmp 101) 22 rfl (y + 1) 27 4 56 tyTerm Tm.rep_lasts _ _ rfl HT5.out.own X.1 [_, _, _, _] rfl rfl HN5.out HLE.out ?_
        intro v2 w6 hown hg
        have hny : ownB (.slice pa l.length pc) ≠ some y := fun e => by have := (hol y e).1; omega
        have hk6 : Keeps (fun b => ownB (.slice pa l.length pc) ≠ some b) w5 w6 := (Keeps.alloc _ _ _).trans (hg.keeps fun b hb => hb)
        refine ⟨fun _ _ _ _ => hk6.cell hny HQ5.out, ?_⟩
        obtain ⟨pa2, pc2, hv2, -⟩ := OwnR.val' hown
        rw [show (l ++ [X.1]).length = l.length + 1 by simp] at hv2
        subst hv2
        have HT7 := hid (HT5.out.push hBx hown hg (by have := HXL.out; have := HLL.out; omega))
        have hq6 := blk4 (blk_keeps HT5.out.by_ hk6 hny)
        obtain ⟨q0, q1, q2, q3, qf⟩ := hq6
        clear hown hg hk6
        simp only [Act.put, List.setIfInBounds_toArray, List.set_cons_zero, List.set_cons_succ]
        refine wpTk (i := 8) (v := ?_) rfl (Or.inl ⟨by rfl, ?_⟩) (fun h => by omega) ?_
        rotate_left
        · (intro w' hw; clear hw; go_simp <;> with_reducible rfl)
        try simp only [Act.put, List.setIfInBounds_toArray, List.set_cons_zero, List.set_cons_succ]
        refine wpAnyF_one (i := 9) (by kernel_rfl) (wpOp_run rfl (by rfl) ?_)
        go_simp
        refine ⟨fun k0 hk0 _ h12 => ?_, wpAnyF_done (by kernel_rfl) ?_ _⟩
        · subst h12
          exact absurd (show waits _ 9 1 = true by kernel_rfl) (by rw [hk0]; decide)
        generalize w6.setCell ⟨y, 3, none⟩ _ = W7 at *
        obtain ⟨b0, b1, b2, bf⟩ := HT7.out.rd.cells
        have hgl7 := HT7.out.rd.lt.1
        clear q0 q1 q2 q3 qf
        cases hbd : X.2.bad with
        | true =>
          have HBD := hid (show argsR (termR n) (r1.s.length + 1) [] r1 = (l ++ [X.1], X.2) by rw [HAR.out, argsR_bad (by rw [← HXE.out]; exact hbd), ← HXE.out])
          rw [hbd] at b2
          clear hbd
          go_wp2_with fail
          go_meet
          case rel =>
            rw [HBD.out]
            exact ⟨_, _, HT7.out⟩
        | false =>
          have HBD := hid hbd
          rw [hbd] at b2
          clear hbd
          have HAT : Hid (Calls Tryd.prog 27 #[.pointer (some ⟨g, 0, none⟩), .string ⟨#[44]⟩] W7 _) := hid (rat_ok [44] (by simp) HT7.out.rd)
          go_wp2_with fail
          refine HAT.out.mono ?_
          rintro e w8 ⟨rfl, v8, k1, k2, k3⟩
          have hal := at_len (sg := [44]) X.2
          have HT8 := hid (HT7.out.move k1 k2 k3 (by have := HXL.out; have := HLL.out; have := hal.1; simp only [List.length_append, List.length_singleton]; omega))
          have HAL := hid hal
          clear k1 k2 k3 hal
          cases hat : (X.2.at_ [44]).1 with
          | false =>
            have HAT2 := hid (show argsR (termR n) (r1.s.length + 1) [] r1 = (l ++ [X.1], (X.2.at_ [44]).2) by rw [HAR.out, argsR_no (by rw [← HXE.out]; exact HBD.out) (by rw [← HXE.out]; exact hat), ← HXE.out])
            clear hat
            go_wp2_with fail
            go_meet
            case rel =>
              rw [HAT2.out]
              exact ⟨_, _, HT8.out⟩
          | true =>
            have HAT2 := hid (show argsR (termR n) (r1.s.length + 1) [] r1 = argsR (termR n) k (l ++ [X.1]) (X.2.at_ [44]).2 by rw [HAR.out, argsR_go (by rw [← HXE.out]; exact HBD.out) (by rw [← HXE.out]; exact hat), ← HXE.out])
            have HAL2 := hid (HAL.out.2 hat)
            clear hat
            go_wp2_with fail
            go_roundw
            case rel =>
              have h1 := HAL2.out
              have h2 := HXL.out
              have h3 := HKL.out
              have h4 := HLL.out
              simp only [List.length_singleton] at h1
              exact ⟨k - 1, l ++ [X.1], (X.2.at_ [44]).2, v8, _, HT8.out, by rw [HAT2.out, show k - 1 + 1 = k by omega], by omega, by simp only [List.length_append, List.length_singleton]; omega⟩
            case measure =>
              have h1 := HAL2.out
              have h2 := HXL.out
              simp only [List.length_singleton] at h1
              rw [rdMu_of HT8.out.rd, rdMu_of HTL.out.rd]
              omega
    case rest =>
      obtain ⟨vx, va, hT⟩ := hcut
      obtain ⟨A, hA⟩ : ∃ A, A = argsR (termR n) (r1.s.length + 1) [] r1 := ⟨_, rfl⟩
      rw [← hA] at hT
      have HTL := hid hT
      have HA := hid hA
      obtain ⟨pa, pc, rfl, hpl, hpm⟩ := OwnR.val' hT.own
      clear hT hA HL0
      have HAT : Hid (Calls Tryd.prog 27 #[.pointer (some ⟨g, 0, none⟩), .string ⟨#[41]⟩] wc _) := hid (rat_ok [41] (by simp) HTL.out.rd)
      go_wp2_with fail
      refine HAT.out.mono ?_
      rintro e w8 ⟨rfl, v8, k1, k2, k3⟩
      have hal := at_len (sg := [41]) A.2
      have HT8 := hid (HTL.out.move k1 k2 k3 (by have := HTL.out.ll; have := hal.1; omega))
      clear k1 k2 k3 hal
      cases hat : (A.2.at_ [41]).1 with
      | true =>
        have HM := hid (show A.2.must [41] = (A.2.at_ [41]).2 by unfold Rd.must; rw [if_pos hat])
        have HT9 := HT8
        clear hat
        obtain ⟨q0, q1, q2, q3, qf⟩ := blk4 HT9.out.by_
        obtain ⟨x0, x1, x2, x3, xf⟩ := blk4 HT9.out.bx
        have hyl := HT9.out.xy.2.2
        have hxl9 := blk_lt HT9.out.bx
        go_wp2_with fail
        rw [HT.out, ← HA.out, HM.out]
        refine bodyPost_ret (v := .agg #[.int .i64 3, .int .i64 0, .string (bs Wd), .slice pa A.1.length pc]) (by simp [results, Tryd.results26, go_sem, hcs, x0, x1, x2, x3, q0, q1, q2, q3, hyx]; try rfl) rfl ?_
        refine rtm_end HT9.out.rd HT9.out.ch HT9.out.vg HT9.out.nx hBx ?_
        have hol := HT9.out.own.lt
        refine Tm.rep_iff.2 ⟨i64_3, i64_0, by omega, _, rfl, OwnR.sl' Tm.rep_lasts (HT9.out.own.mono Tm.rep_lasts fun b hb hA => ⟨⟨by omega, hA.2⟩, by omega⟩) (by have := HT9.out.ll; omega) fun b hb => ?_⟩
        have h1 := (hol b hb).1
        exact ⟨⟨by omega, HT9.out.na b hb⟩, by omega⟩
      | false =>
        have HM := hid (show A.2.must [41] = (A.2.at_ [41]).2.kill by unfold Rd.must; rw [if_neg (by rw [hat]; simp)])
        obtain ⟨b0, b1, b2, bf⟩ := HT8.out.rd.cells
        have hgl8 := HT8.out.rd.lt.1
        obtain ⟨v9, k1, k2, k3⟩ := HT8.out.rd.setBad true
        have HT9 := hid (HT8.out.move k1 k2 k3 (by have := HT8.out.ll; exact this))
        have hgy : ¬ g = y := fun e => HT8.out.ny (.inl e.symm)
        clear hat k1 k2 k3
        obtain ⟨p0, p1, p2, p3, pf⟩ := blk4 HT8.out.by_
        obtain ⟨o0, o1, o2, o3, of⟩ := blk4 HT8.out.bx
        obtain ⟨q0, q1, q2, q3, qf⟩ := blk4 HT9.out.by_
        obtain ⟨x0, x1, x2, x3, xf⟩ := blk4 HT9.out.bx
        have hyl := HT9.out.xy.2.2
        have hxl9 := blk_lt HT9.out.bx
        go_wp2_with fail
        rw [HT.out, ← HA.out, HM.out]
        refine bodyPost_ret (v := .agg #[.int .i64 3, .int .i64 0, .string (bs Wd), .slice pa A.1.length pc]) (by simp [results, Tryd.results26, go_sem, hcs, x0, x1, x2, x3, q0, q1, q2, q3, o0, o1, o2, o3, p0, p1, p2, p3, hgx, hgy, hyx]; try rfl) rfl ?_
        refine rtm_end HT9.out.rd HT9.out.ch HT9.out.vg HT9.out.nx hBx ?_
        have hol := HT9.out.own.lt
        refine Tm.rep_iff.2 ⟨i64_3, i64_0, by omega, _, rfl, OwnR.sl' Tm.rep_lasts (HT9.out.own.mono Tm.rep_lasts fun b hb hA => ⟨⟨by omega, hA.2⟩, by omega⟩) (by have := HT9.out.ll; omega) fun b hb => ?_⟩
        have h1 := (hol b hb).1
        exact ⟨⟨by omega, HT9.out.na b hb⟩, by omega⟩
end
end Go.Proofs.YtlpmfkpefoegeacDoor
