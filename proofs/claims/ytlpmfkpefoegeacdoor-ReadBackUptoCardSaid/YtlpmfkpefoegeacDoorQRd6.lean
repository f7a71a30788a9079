/-
  The reader: term, but for words of small letters.
-/
import Derived.Test.YtlpmfkpefoegeacDoorQRd5
namespace Go.Proofs.YtlpmfkpefoegeacDoor
set_option linter.unusedVariables false
set_option linter.unusedSimpArgs false
open Go.RowKit
abbrev zcells : Obj := .cells #[.int .i64 0, .int .i64 0, .string ⟨#[]⟩, .slice none 0 0] 27
section
variable {B base g : Nat} {vv v1 : Value} {r r1 r2 : Rd} {w w1 w2 : World}
theorem term_start (h : RdI B base g vv r w) (hs : RdStep B base g vv r1 (w.alloc zcells) w1) :
    ∃ v1, RdI B base g v1 r1 w1 ∧ Ch (RdM g vv) w w1 ∧ VG w vv v1 ∧ w1.heap[w.heap.size]? = some (.cells #[.int .i64 0, .int .i64 0, .string ⟨#[]⟩, .slice none 0 0] 27 (0, 0)) ∧ w.heap.size < w1.heap.size ∧ ¬ RdM g v1 w.heap.size := by
  obtain ⟨v1, h1, h2, h3⟩ := hs
  have hn : ¬ RdM g vv w.heap.size := fun e => by have := h.rm_lt _ e; omega
  refine ⟨v1, h1, ((Ch.refl _ _).alloc _).trans h2 (fun b hb => .inl hb), fun b hb => (h3 b hb).imp id (fun e => by simp only [World.size_alloc] at e; omega), (h2.block _ (by simp) hn).trans (blk_new _ _), by have := h2.size; simp only [World.size_alloc] at this; omega, fun e => ?_⟩
  rcases e with e | e
  · have := h.lt.1; omega
  · rcases h3 _ e with e | e
    · have := (h.vars.lt _ e).2; omega
    · simp only [World.size_alloc] at e; omega
theorem step_x {x : Nat} {o : Obj} (hs : RdStep B base g v1 r2 w1 w2) (hx : w1.heap[x]? = some o) (hn : ¬ RdM g v1 x) :
    ∃ v2, RdI B base g v2 r2 w2 ∧ Ch (RdM g v1) w1 w2 ∧ VG w1 v1 v2 ∧ w2.heap[x]? = some o ∧ ¬ RdM g v2 x := by
  obtain ⟨v2, h1, h2, h3⟩ := hs
  have hl := blk_lt hx
  refine ⟨v2, h1, h2, h3, (h2.block x hl hn).trans hx, fun e => ?_⟩
  rcases VG.rm h3 x e with e | e
  · exact hn e
  · omega
theorem step_chain {v2 : Value} (hc1 : Ch (RdM g vv) w w1) (hv1 : VG w vv v1) (hc2 : Ch (RdM g v1) w1 w2) (hv2 : VG w1 v1 v2) : Ch (RdM g vv) w w2 ∧ VG w vv v2 :=
  ⟨hc1.trans hc2 (VG.rm hv1), hv1.trans hv2 hc1.size⟩
theorem rtm_end {t : Tm} {a0 a1 a2 a3 : Value} {v2 : Value} (h : RdI B base g v2 r2 w2) (hch : Ch (RdM g vv) w w2) (hvg : VG w vv v2) (hn : ¬ RdM g v2 w.heap.size) (hB : B ≤ w.heap.size)
    (hrep : Tm.rep (fun b => (w.heap.size ≤ b ∧ ¬ RdM g v2 b) ∧ b ≠ w.heap.size) w2 t [a0, a1, a2, a3]) :
    RTm B base g vv (t, r2) w (.returned (.agg #[a0, a1, a2, a3])) ((((w2.setCell ⟨w.heap.size, 0, none⟩ a0).setCell ⟨w.heap.size, 1, none⟩ a1).setCell ⟨w.heap.size, 2, none⟩ a2).setCell ⟨w.heap.size, 3, none⟩ a3) := by
  have hk : Keeps (fun b => (w.heap.size ≤ b ∧ ¬ RdM g v2 b) ∧ b ≠ w.heap.size) w2 ((((w2.setCell ⟨w.heap.size, 0, none⟩ a0).setCell ⟨w.heap.size, 1, none⟩ a1).setCell ⟨w.heap.size, 2, none⟩ a2).setCell ⟨w.heap.size, 3, none⟩ a3) :=
    (((Keeps.setCell _ _ _ _ (by simp)).trans (Keeps.setCell _ _ _ _ (by simp))).trans (Keeps.setCell _ _ _ _ (by simp))).trans (Keeps.setCell _ _ _ _ (by simp))
  exact ⟨[a0, a1, a2, a3], v2, rfl, (((h.other hn hB).other hn hB).other hn hB).other hn hB,
    (((hch.setCell (p := ⟨w.heap.size, 0, none⟩) (.inr (Nat.le_refl _)) _).setCell (p := ⟨w.heap.size, 1, none⟩) (.inr (Nat.le_refl _)) _).setCell (p := ⟨w.heap.size, 2, none⟩) (.inr (Nat.le_refl _)) _).setCell (p := ⟨w.heap.size, 3, none⟩) (.inr (Nat.le_refl _)) _,
    hvg, Tm.rep_lasts.2.1 _ _ _ _ _ (Tm.rep_lasts.1 _ _ _ _ _ hrep hk) fun b _ hb => hb.1⟩
theorem rep_leaf {A : Nat → Prop} {w : World} {k n : Int} {s : ByteArray} (hk : I64 k) (hn : I64 n) (hs : s.size ≤ 1048576) : Tm.rep A w (.mk k n s []) [.int .i64 k, .int .i64 n, .string s, .slice none 0 0] :=
  Tm.rep_iff.2 ⟨hk, hn, hs, _, rfl, SlR.nil ..⟩
theorem i64_0 : I64 0 := by unfold I64; omega
theorem i64_1 : I64 1 := by unfold I64; omega
theorem i64_2 : I64 2 := by unfold I64; omega
theorem i64_3 : I64 3 := by unfold I64; omega
set_option maxHeartbeats 4000000 in
theorem rterm_lost0 (d : Int) (hd : 24 < d) (h : RdI B base g vv r w) : Calls Tryd.prog 26 #[.pointer (some ⟨g, 0, none⟩), .int .i64 d] w (RTm B base g vv (tmz, r.space.kill) w) := by
  have HU := hid h
  have HSP := hid (rspace_ok (h.below ((Below.refl _ _).alloc (Nat.le_refl _) zcells)))
  have hBx : B ≤ w.heap.size := by have := h.bg; omega
  have hcs := cell_set
  have f1 : decide (24 < d) = true := by simpa using hd
  clear hd
  clear h
  go_enter Tryd.func26, Tryd.ntmps26
  go_wp2_with fail
  refine HSP.out.mono ?_
  rintro e w1 ⟨rfl, hst⟩
  obtain ⟨v1, h1, c1, g1, x1, hz1, n1⟩ := term_start HU.out hst
  have HI := hid h1
  have HCH := hid c1
  have HV := hid g1
  have HX := hid x1
  have HN := hid n1
  obtain ⟨b0, b1, b2, bf⟩ := h1.cells
  have hgl := h1.lt.1
  have hgx : ¬ g = w.heap.size := fun e => n1 (.inl e.symm)
  obtain ⟨x0, x1, x2, x3, xf⟩ := blk4 x1
  have e0 : r.space.s = spaceF r.s := rfl
  have e2 : r.space.bad = r.bad := rfl
  rw [e0] at b0
  rw [e2] at b2
  clear hst h1 c1 g1 n1 e0 e2
  go_wp2_with fail
  refine bodyPost_ret (v := .agg #[.int .i64 0, .int .i64 0, .string ⟨#[]⟩, .slice none 0 0]) (by simp [results, Tryd.results26, go_sem, hcs, x0, x1, x2, x3, hgx]; try rfl) rfl ?_
  obtain ⟨v2, k1, k2, k3, k4, k5⟩ := step_x (HI.out.setBad true) HX.out HN.out
  obtain ⟨k6, k7⟩ := step_chain HCH.out HV.out k2 k3
  exact rtm_end k1 k6 k7 k5 hBx (rep_leaf i64_0 i64_0 (by simp [ByteArray.size]))
set_option maxHeartbeats 4000000 in
theorem rterm_lost1 (d : Int) (hd : d ≤ 24) (hb : r.bad = true) (h : RdI B base g vv r w) : Calls Tryd.prog 26 #[.pointer (some ⟨g, 0, none⟩), .int .i64 d] w (RTm B base g vv (tmz, r.space.kill) w) := by
  have HU := hid h
  have HSP := hid (rspace_ok (h.below ((Below.refl _ _).alloc (Nat.le_refl _) zcells)))
  have hBx : B ≤ w.heap.size := by have := h.bg; omega
  have hcs := cell_set
  have f1 : decide (24 < d) = false := by simp; omega
  have HB := hid hb
  clear hd hb
  clear h
  go_enter Tryd.func26, Tryd.ntmps26
  go_wp2_with fail
  refine HSP.out.mono ?_
  rintro e w1 ⟨rfl, hst⟩
  obtain ⟨v1, h1, c1, g1, x1, hz1, n1⟩ := term_start HU.out hst
  have HI := hid h1
  have HCH := hid c1
  have HV := hid g1
  have HX := hid x1
  have HN := hid n1
  obtain ⟨b0, b1, b2, bf⟩ := h1.cells
  have hgl := h1.lt.1
  have hgx : ¬ g = w.heap.size := fun e => n1 (.inl e.symm)
  obtain ⟨x0, x1, x2, x3, xf⟩ := blk4 x1
  have e0 : r.space.s = spaceF r.s := rfl
  have e2 : r.space.bad = r.bad := rfl
  rw [e0] at b0
  rw [e2] at b2
  clear hst h1 c1 g1 n1 e0 e2
  rw [HB.out] at b2
  go_wp2_with fail
  refine bodyPost_ret (v := .agg #[.int .i64 0, .int .i64 0, .string ⟨#[]⟩, .slice none 0 0]) (by simp [results, Tryd.results26, go_sem, hcs, x0, x1, x2, x3, hgx]; try rfl) rfl ?_
  obtain ⟨v2, k1, k2, k3, k4, k5⟩ := step_x (HI.out.setBad true) HX.out HN.out
  obtain ⟨k6, k7⟩ := step_chain HCH.out HV.out k2 k3
  exact rtm_end k1 k6 k7 k5 hBx (rep_leaf i64_0 i64_0 (by simp [ByteArray.size]))
set_option maxHeartbeats 4000000 in
theorem rterm_lost2 (d : Int) (hd : d ≤ 24) (hb : r.bad = false) (hs : spaceF r.s = []) (h : RdI B base g vv r w) : Calls Tryd.prog 26 #[.pointer (some ⟨g, 0, none⟩), .int .i64 d] w (RTm B base g vv (tmz, r.space.kill) w) := by
  have HU := hid h
  have HSP := hid (rspace_ok (h.below ((Below.refl _ _).alloc (Nat.le_refl _) zcells)))
  have hBx : B ≤ w.heap.size := by have := h.bg; omega
  have hcs := cell_set
  have f1 : decide (24 < d) = false := by simp; omega
  have HB := hid hb
  have HS := hid hs
  obtain ⟨t1, t2⟩ := nil_text
  clear hd hb hs
  clear h
  go_enter Tryd.func26, Tryd.ntmps26
  go_wp2_with fail
  refine HSP.out.mono ?_
  rintro e w1 ⟨rfl, hst⟩
  obtain ⟨v1, h1, c1, g1, x1, hz1, n1⟩ := term_start HU.out hst
  have HI := hid h1
  have HCH := hid c1
  have HV := hid g1
  have HX := hid x1
  have HN := hid n1
  obtain ⟨b0, b1, b2, bf⟩ := h1.cells
  have hgl := h1.lt.1
  have hgx : ¬ g = w.heap.size := fun e => n1 (.inl e.symm)
  obtain ⟨x0, x1, x2, x3, xf⟩ := blk4 x1
  have e0 : r.space.s = spaceF r.s := rfl
  have e2 : r.space.bad = r.bad := rfl
  rw [e0] at b0
  rw [e2] at b2
  clear hst h1 c1 g1 n1 e0 e2
  rw [HB.out] at b2
  rw [HS.out] at b0
  go_wp2_with fail
  refine bodyPost_ret (v := .agg #[.int .i64 0, .int .i64 0, .string ⟨#[]⟩, .slice none 0 0]) (by simp [results, Tryd.results26, go_sem, hcs, x0, x1, x2, x3, hgx]; try rfl) rfl ?_
  obtain ⟨v2, k1, k2, k3, k4, k5⟩ := step_x (HI.out.setBad true) HX.out HN.out
  obtain ⟨k6, k7⟩ := step_chain HCH.out HV.out k2 k3
  exact rtm_end k1 k6 k7 k5 hBx (rep_leaf i64_0 i64_0 (by simp [ByteArray.size]))
set_option maxHeartbeats 4000000 in
theorem rterm_up (d : Int) (hd : d ≤ 24) (c : UInt8) (rest : Str) (hb : r.bad = false) (hs : spaceF r.s = c :: rest) (hc : 65 ≤ (c.toNat : Int) ∧ (c.toNat : Int) ≤ 90) (h : RdI B base g vv r w) : Calls Tryd.prog 26 #[.pointer (some ⟨g, 0, none⟩), .int .i64 d] w (RTm B base g vv (varR { r with s := (c :: rest).drop (wordLen (c :: rest)) } ((c :: rest).take (wordLen (c :: rest)))) w) := by
  have HU := hid h
  have HSP := hid (rspace_ok (h.below ((Below.refl _ _).alloc (Nat.le_refl _) zcells)))
  have hBx : B ≤ w.heap.size := by have := h.bg; omega
  have hcs := cell_set
  have f1 : decide (24 < d) = false := by simp; omega
  have HB := hid hb
  have HS := hid hs
  obtain ⟨S, hS⟩ : ∃ S, S = bs (c :: rest) := ⟨_, rfl⟩
  have HSS := hid hS
  have t1 : S.toList.isEmpty = false := by rw [hS, bs_toList]; rfl
  have t2 : ¬ S.toList = [] := by rw [hS, bs_toList]; simp
  have t3 : 0 < S.size := by rw [hS, bs_size]; simp
  have hg0 : S[0] = c := by subst hS; exact cons_get c rest t3
  have HG := hid hg0
  have hc0 : 0 ≤ (S[0].toNat : Int) := by omega
  obtain ⟨hc1, hc2⟩ := hc
  have f2 : decide ((65 : Int) ≤ (S[0].toNat : Int)) = true := by rw [hg0]; exact decide_eq_true (by omega)
  have f3 : decide ((S[0].toNat : Int) ≤ (90 : Int)) = true := by rw [hg0]; exact decide_eq_true (by omega)
  have hwp : 1 ≤ wordLen (c :: rest) := by rw [wordLen_cons, if_pos (by simp [up_iff.2 ⟨hc1, hc2⟩])]; omega
  have HWP := hid hwp
  clear hc1 hc2 hwp
  clear hd hb hs hS hg0
  clear h
  go_enter Tryd.func26, Tryd.ntmps26
  go_wp2_with fail
  refine HSP.out.mono ?_
  rintro e w1 ⟨rfl, hst⟩
  obtain ⟨v1, h1, c1, g1, x1, hz1, n1⟩ := term_start HU.out hst
  have HI := hid h1
  have HCH := hid c1
  have HV := hid g1
  have HX := hid x1
  have HN := hid n1
  obtain ⟨b0, b1, b2, bf⟩ := h1.cells
  have hgl := h1.lt.1
  have hgx : ¬ g = w.heap.size := fun e => n1 (.inl e.symm)
  obtain ⟨x0, x1, x2, x3, xf⟩ := blk4 x1
  have e0 : r.space.s = spaceF r.s := rfl
  have e2 : r.space.bad = r.bad := rfl
  rw [e0] at b0
  rw [e2] at b2
  clear hst h1 c1 g1 n1 e0 e2
  rw [HB.out] at b2
  rw [HS.out, ← HSS.out] at b0
  go_wp2_with fail
  have HW := hid (rword_ok (c :: rest) (by rw [← HS.out]; exact spaceF_idem r.s) HI.out)
  refine HW.out.mono ?_
  rintro e w2 ⟨rfl, hst2⟩
  obtain ⟨v2, k1, k2, k3, k4, k5⟩ := step_x hst2 HX.out HN.out
  have HI2 := hid k1
  have HC2 := hid (step_chain HCH.out HV.out k2 k3)
  have HX2 := hid k4
  have HN2 := hid k5
  have hl := HI.out.len
  have e0 : r.space.s = c :: rest := HS.out
  rw [e0] at hl
  have hwl := wordLen_step (Nat.le_refl (wordLen (c :: rest)))
  have HL := hid hl
  have HWL := hid hwl
  clear hst2 k1 k2 k3 k4 k5 hl hwl e0 b0 b1 b2 bf x0 x1 x2 x3 xf HW
  go_wp2_with fail
  refine (rvar_ok ((c :: rest).take (wordLen (c :: rest))) (by have := HL.out; rw [List.length_take]; omega) HI2.out (by
    have := HL.out
    have := HWP.out
    have := HWL.out
    show ((c :: rest).drop (wordLen (c :: rest))).length + r.vars.length + 1 ≤ 2000
    rw [List.length_drop]
    have e : r.space.vars.length = r.vars.length := rfl
    omega)).mono ?_
  rintro e w3 ⟨us, v3, rfl, k1, k2, k3, k4⟩
  obtain ⟨-, -, -, va, rfl, hsl⟩ := Tm.rep_iff.1 k4
  obtain ⟨ua, uc, -, -, rfl, -⟩ := hsl.at
  clear hsl
  have HI3 := hid k1
  have HC3 := hid (step_chain HC2.out.1 HC2.out.2 k2 k3)
  have HR3 := hid k4
  have hzz : w.heap.size < w2.heap.size := blk_lt HX2.out
  have hx3 := (k2.block _ hzz HN2.out).trans HX2.out
  have HX3 := hid hx3
  have hn3 : ¬ RdM g v3 w.heap.size := fun e => (VG.rm k3 _ e).elim HN2.out (fun e => by omega)
  have HN3 := hid hn3
  have hgl3 := k1.lt.1
  obtain ⟨x0, x1, x2, x3, xf⟩ := blk4 hx3
  clear k1 k2 k3 k4 hx3 hn3
  go_wp2_with fail
  refine bodyPost_ret (v := .agg #[.int .i64 0, .int .i64 (varF r.space.vars ((c :: rest).take (wordLen (c :: rest)))).1, .string ⟨#[]⟩, .slice ua 0 uc]) (by simp [results, Tryd.results26, go_sem, hcs, x0, x1, x2, x3, hgx]; try rfl) rfl ?_
  refine rtm_end HI3.out HC3.out.1 HC3.out.2 HN3.out hBx ?_
  exact Tm.rep_lasts.2.1 _ _ _ _ _ HR3.out fun b _ hb => ⟨⟨by omega, hb.2⟩, fun e => by omega⟩
set_option maxHeartbeats 4000000 in
theorem rterm_bang (d : Int) (hd : d ≤ 24) (c : UInt8) (rest : Str) (hb : r.bad = false) (hs : spaceF r.s = c :: rest) (hc : (c.toNat : Int) = 33) (h : RdI B base g vv r w) : Calls Tryd.prog 26 #[.pointer (some ⟨g, 0, none⟩), .int .i64 d] w (RTm B base g vv (.mk 1 0 (bs [33]) [], { r with s := rest }) w) := by
  have HU := hid h
  have HSP := hid (rspace_ok (h.below ((Below.refl _ _).alloc (Nat.le_refl _) zcells)))
  have hBx : B ≤ w.heap.size := by have := h.bg; omega
  have hcs := cell_set
  have f1 : decide (24 < d) = false := by simp; omega
  have HB := hid hb
  have HS := hid hs
  obtain ⟨S, hS⟩ : ∃ S, S = bs (c :: rest) := ⟨_, rfl⟩
  have HSS := hid hS
  have t1 : S.toList.isEmpty = false := by rw [hS, bs_toList]; rfl
  have t2 : ¬ S.toList = [] := by rw [hS, bs_toList]; simp
  have t3 : 0 < S.size := by rw [hS, bs_size]; simp
  have hg0 : S[0] = c := by subst hS; exact cons_get c rest t3
  have HG := hid hg0
  have hc0 : 0 ≤ (S[0].toNat : Int) := by omega
  have f2 : decide ((65 : Int) ≤ (S[0].toNat : Int)) = false := by rw [hg0]; exact decide_eq_false (by omega)
  have f4 : ((S[0].toNat : Int) == (33 : Int)) = true := by rw [hg0]; rw [beq_iff_eq]; omega
  clear hc
  clear hd hb hs hS hg0
  clear h
  go_enter Tryd.func26, Tryd.ntmps26
  go_wp2_with fail
  refine HSP.out.mono ?_
  rintro e w1 ⟨rfl, hst⟩
  obtain ⟨v1, h1, c1, g1, x1, hz1, n1⟩ := term_start HU.out hst
  have HI := hid h1
  have HCH := hid c1
  have HV := hid g1
  have HX := hid x1
  have HN := hid n1
  obtain ⟨b0, b1, b2, bf⟩ := h1.cells
  have hgl := h1.lt.1
  have hgx : ¬ g = w.heap.size := fun e => n1 (.inl e.symm)
  obtain ⟨x0, x1, x2, x3, xf⟩ := blk4 x1
  have e0 : r.space.s = spaceF r.s := rfl
  have e2 : r.space.bad = r.bad := rfl
  rw [e0] at b0
  rw [e2] at b2
  clear hst h1 c1 g1 n1 e0 e2
  rw [HB.out] at b2
  rw [HS.out, ← HSS.out] at b0
  go_wp2_with fail
  have hx : S.extract 1 S.size = bs rest := by rw [HSS.out]; exact cons_rest c rest
  rw [hx]
  obtain ⟨v2, k1, k2, k3, k4, k5⟩ := step_x (HI.out.setS rest (by rw [show r.space.s = c :: rest from HS.out]; simp)) HX.out HN.out
  obtain ⟨k6, k7⟩ := step_chain HCH.out HV.out k2 k3
  refine bodyPost_ret (v := .agg #[.int .i64 1, .int .i64 0, .string ⟨#[33]⟩, .slice none 0 0]) (by simp [results, Tryd.results26, go_sem, hcs, x0, x1, x2, x3, hgx]; try rfl) rfl ?_
  exact rtm_end k1 k6 k7 k5 hBx (rep_leaf i64_1 i64_0 (by simp [ByteArray.size, bs]))
def numRd (r : Rd) (c : UInt8) (rest : Str) : Tm × Rd := match numF (c :: rest) with
  | some k => (.mk 2 k ⟨#[]⟩ [], { r with s := (c :: rest).drop (numLen (c :: rest)) })
  | none => (.mk 2 0 ⟨#[]⟩ [], { r with s := c :: rest, bad := true })
theorem numF_bnd {s : Str} {k : Int} (h : some k = numF s) : -1099511627776 ≤ k ∧ k ≤ 1099511627776 := by
  rw [numF_eq] at h
  unfold atoiF at h
  split at h
  · split at h
    · rename_i h2
      simp only [Option.some.injEq] at h
      subst h
      exact h2.2
    · cases h
  · cases h
set_option maxHeartbeats 4000000 in
theorem rterm_num1 (d : Int) (hd : d ≤ 24) (c : UInt8) (rest : Str) (hb : r.bad = false) (hs : spaceF r.s = c :: rest) (hc : (c.toNat : Int) = 45) (h : RdI B base g vv r w) : Calls Tryd.prog 26 #[.pointer (some ⟨g, 0, none⟩), .int .i64 d] w (RTm B base g vv (numRd r c rest) w) := by
  have HU := hid h
  have HSP := hid (rspace_ok (h.below ((Below.refl _ _).alloc (Nat.le_refl _) zcells)))
  have hBx : B ≤ w.heap.size := by have := h.bg; omega
  have hcs := cell_set
  have f1 : decide (24 < d) = false := by simp; omega
  have HB := hid hb
  have HS := hid hs
  obtain ⟨S, hS⟩ : ∃ S, S = bs (c :: rest) := ⟨_, rfl⟩
  have HSS := hid hS
  have t1 : S.toList.isEmpty = false := by rw [hS, bs_toList]; rfl
  have t2 : ¬ S.toList = [] := by rw [hS, bs_toList]; simp
  have t3 : 0 < S.size := by rw [hS, bs_size]; simp
  have hg0 : S[0] = c := by subst hS; exact cons_get c rest t3
  have HG := hid hg0
  have hc0 : 0 ≤ (S[0].toNat : Int) := by omega
  have f2 : decide ((65 : Int) ≤ (S[0].toNat : Int)) = false := by rw [hg0]; exact decide_eq_false (by omega)
  have f4 : ((S[0].toNat : Int) == (33 : Int)) = false := by rw [hg0]; rw [beq_eq_false_iff_ne]; omega
  have f5 : ((S[0].toNat : Int) == (45 : Int)) = true := by rw [hg0]; rw [beq_iff_eq]; omega
  have HCC := hid (show c = 45 ∨ digB c = true from .inl (UInt8.toNat_inj.1 (by have e45 : (45 : UInt8).toNat = 45 := rfl; omega)))
  clear hc
  clear hd hb hs hS hg0
  clear h
  go_enter Tryd.func26, Tryd.ntmps26
  go_wp2_with fail
  refine HSP.out.mono ?_
  rintro e w1 ⟨rfl, hst⟩
  obtain ⟨v1, h1, c1, g1, x1, hz1, n1⟩ := term_start HU.out hst
  have HI := hid h1
  have HCH := hid c1
  have HV := hid g1
  have HX := hid x1
  have HN := hid n1
  obtain ⟨b0, b1, b2, bf⟩ := h1.cells
  have hgl := h1.lt.1
  have hgx : ¬ g = w.heap.size := fun e => n1 (.inl e.symm)
  obtain ⟨x0, x1, x2, x3, xf⟩ := blk4 x1
  have e0 : r.space.s = spaceF r.s := rfl
  have e2 : r.space.bad = r.bad := rfl
  rw [e0] at b0
  rw [e2] at b2
  clear hst h1 c1 g1 n1 e0 e2
  rw [HB.out] at b2
  rw [HS.out, ← HSS.out] at b0
  go_wp2_with fail
  have HNUM := hid (rnum_ok c rest HCC.out (by rw [← HS.out]; exact spaceF_idem r.s) HI.out)
  refine HNUM.out.mono ?_
  intro e w2 hp
  unfold RNumPost at hp
  cases ho : numF (c :: rest) with
  | none =>
    rw [ho] at hp
    obtain ⟨rfl, hst2⟩ := hp
    have HRES := hid (show numRd r c rest = (.mk 2 0 ⟨#[]⟩ [], { r with s := c :: rest, bad := true }) by unfold numRd; rw [ho])
    clear ho
    obtain ⟨v2, k1, k2, k3, k4, k5⟩ := step_x hst2 HX.out HN.out
    have HI2 := hid k1
    have HC2 := hid (step_chain HCH.out HV.out k2 k3)
    have HX2 := hid k4
    have HN2 := hid k5
    obtain ⟨b0, b1, b2, bf⟩ := k1.cells
    have hgl2 := k1.lt.1
    obtain ⟨x0, x1, x2, x3, xf⟩ := blk4 k4
    have e9 : (⟨c :: rest, r.space.vars, r.space.bad⟩ : Rd).bad = false := HB.out
    rw [e9] at b2
    clear hst2 k1 k2 k3 k4 k5 e9
    go_wp2_with fail
    obtain ⟨v3, k1, k2, k3, k4, k5⟩ := step_x (HI2.out.setBad true) HX2.out HN2.out
    obtain ⟨k6, k7⟩ := step_chain HC2.out.1 HC2.out.2 k2 k3
    rw [HRES.out]
    refine bodyPost_ret (v := .agg #[.int .i64 2, .int .i64 0, .string ⟨#[]⟩, .slice none 0 0]) (by simp [results, Tryd.results26, go_sem, hcs, x0, x1, x2, x3, hgx]; try rfl) rfl ?_
    exact rtm_end k1 k6 k7 k5 hBx (rep_leaf i64_2 i64_0 (by simp [ByteArray.size]))
  | some k =>
    rw [ho] at hp
    obtain ⟨rfl, hst2⟩ := hp
    have HRES := hid (show numRd r c rest = (.mk 2 k ⟨#[]⟩ [], { r with s := (c :: rest).drop (numLen (c :: rest)) }) by unfold numRd; rw [ho])
    have HO := hid ho.symm
    clear ho
    obtain ⟨v2, k1, k2, k3, k4, k5⟩ := step_x hst2 HX.out HN.out
    have HI2 := hid k1
    have HC2 := hid (step_chain HCH.out HV.out k2 k3)
    have HX2 := hid k4
    have HN2 := hid k5
    obtain ⟨b0, b1, b2, bf⟩ := k1.cells
    have hgl2 := k1.lt.1
    obtain ⟨x0, x1, x2, x3, xf⟩ := blk4 k4
    have e9 : (⟨(c :: rest).drop (numLen (c :: rest)), r.space.vars, r.space.bad⟩ : Rd).bad = false := HB.out
    rw [e9] at b2
    have hkb := numF_bnd HO.out
    clear hst2 k1 k2 k3 k4 k5 e9
    go_wp2_with fail
    obtain ⟨v3, k1, k2, k3, k4, k5⟩ := step_x (HI2.out.setBad false) HX2.out HN2.out
    obtain ⟨k6, k7⟩ := step_chain HC2.out.1 HC2.out.2 k2 k3
    rw [HRES.out]
    have e8 : (⟨(c :: rest).drop (numLen (c :: rest)), r.space.vars, false⟩ : Rd) = { r with s := (c :: rest).drop (numLen (c :: rest)) } := by rw [← HB.out]; rfl
    rw [← e8]
    refine bodyPost_ret (v := .agg #[.int .i64 2, .int .i64 k, .string ⟨#[]⟩, .slice none 0 0]) (by simp [results, Tryd.results26, go_sem, hcs, x0, x1, x2, x3, hgx]; try rfl) rfl ?_
    exact rtm_end k1 k6 k7 k5 hBx (rep_leaf i64_2 (by unfold I64; omega) (by simp [ByteArray.size]))
set_option maxHeartbeats 4000000 in
theorem rterm_num2 (d : Int) (hd : d ≤ 24) (c : UInt8) (rest : Str) (hb : r.bad = false) (hs : spaceF r.s = c :: rest) (hc : 48 ≤ (c.toNat : Int) ∧ (c.toNat : Int) ≤ 57) (h : RdI B base g vv r w) : Calls Tryd.prog 26 #[.pointer (some ⟨g, 0, none⟩), .int .i64 d] w (RTm B base g vv (numRd r c rest) w) := by
  have HU := hid h
  have HSP := hid (rspace_ok (h.below ((Below.refl _ _).alloc (Nat.le_refl _) zcells)))
  have hBx : B ≤ w.heap.size := by have := h.bg; omega
  have hcs := cell_set
  have f1 : decide (24 < d) = false := by simp; omega
  have HB := hid hb
  have HS := hid hs
  obtain ⟨S, hS⟩ : ∃ S, S = bs (c :: rest) := ⟨_, rfl⟩
  have HSS := hid hS
  have t1 : S.toList.isEmpty = false := by rw [hS, bs_toList]; rfl
  have t2 : ¬ S.toList = [] := by rw [hS, bs_toList]; simp
  have t3 : 0 < S.size := by rw [hS, bs_size]; simp
  have hg0 : S[0] = c := by subst hS; exact cons_get c rest t3
  have HG := hid hg0
  have hc0 : 0 ≤ (S[0].toNat : Int) := by omega
  obtain ⟨hc1, hc2⟩ := hc
  have f2 : decide ((65 : Int) ≤ (S[0].toNat : Int)) = false := by rw [hg0]; exact decide_eq_false (by omega)
  have f4 : ((S[0].toNat : Int) == (33 : Int)) = false := by rw [hg0]; rw [beq_eq_false_iff_ne]; omega
  have f5 : ((S[0].toNat : Int) == (45 : Int)) = false := by rw [hg0]; rw [beq_eq_false_iff_ne]; omega
  have f6 : decide ((48 : Int) ≤ (S[0].toNat : Int)) = true := by rw [hg0]; exact decide_eq_true (by omega)
  have f7 : decide ((S[0].toNat : Int) ≤ (57 : Int)) = true := by rw [hg0]; exact decide_eq_true (by omega)
  have HCC := hid (show c = 45 ∨ digB c = true from .inr (dig_iff.2 ⟨hc1, hc2⟩))
  clear hc1 hc2
  clear hd hb hs hS hg0
  clear h
  go_enter Tryd.func26, Tryd.ntmps26
  go_wp2_with fail
  refine HSP.out.mono ?_
  rintro e w1 ⟨rfl, hst⟩
  obtain ⟨v1, h1, c1, g1, x1, hz1, n1⟩ := term_start HU.out hst
  have HI := hid h1
  have HCH := hid c1
  have HV := hid g1
  have HX := hid x1
  have HN := hid n1
  obtain ⟨b0, b1, b2, bf⟩ := h1.cells
  have hgl := h1.lt.1
  have hgx : ¬ g = w.heap.size := fun e => n1 (.inl e.symm)
  obtain ⟨x0, x1, x2, x3, xf⟩ := blk4 x1
  have e0 : r.space.s = spaceF r.s := rfl
  have e2 : r.space.bad = r.bad := rfl
  rw [e0] at b0
  rw [e2] at b2
  clear hst h1 c1 g1 n1 e0 e2
  rw [HB.out] at b2
  rw [HS.out, ← HSS.out] at b0
  go_wp2_with fail
  have HNUM := hid (rnum_ok c rest HCC.out (by rw [← HS.out]; exact spaceF_idem r.s) HI.out)
  refine HNUM.out.mono ?_
  intro e w2 hp
  unfold RNumPost at hp
  cases ho : numF (c :: rest) with
  | none =>
    rw [ho] at hp
    obtain ⟨rfl, hst2⟩ := hp
    have HRES := hid (show numRd r c rest = (.mk 2 0 ⟨#[]⟩ [], { r with s := c :: rest, bad := true }) by unfold numRd; rw [ho])
    clear ho
    obtain ⟨v2, k1, k2, k3, k4, k5⟩ := step_x hst2 HX.out HN.out
    have HI2 := hid k1
    have HC2 := hid (step_chain HCH.out HV.out k2 k3)
    have HX2 := hid k4
    have HN2 := hid k5
    obtain ⟨b0, b1, b2, bf⟩ := k1.cells
    have hgl2 := k1.lt.1
    obtain ⟨x0, x1, x2, x3, xf⟩ := blk4 k4
    have e9 : (⟨c :: rest, r.space.vars, r.space.bad⟩ : Rd).bad = false := HB.out
    rw [e9] at b2
    clear hst2 k1 k2 k3 k4 k5 e9
    go_wp2_with fail
    obtain ⟨v3, k1, k2, k3, k4, k5⟩ := step_x (HI2.out.setBad true) HX2.out HN2.out
    obtain ⟨k6, k7⟩ := step_chain HC2.out.1 HC2.out.2 k2 k3
    rw [HRES.out]
    refine bodyPost_ret (v := .agg #[.int .i64 2, .int .i64 0, .string ⟨#[]⟩, .slice none 0 0]) (by simp [results, Tryd.results26, go_sem, hcs, x0, x1, x2, x3, hgx]; try rfl) rfl ?_
    exact rtm_end k1 k6 k7 k5 hBx (rep_leaf i64_2 i64_0 (by simp [ByteArray.size]))
  | some k =>
    rw [ho] at hp
    obtain ⟨rfl, hst2⟩ := hp
    have HRES := hid (show numRd r c rest = (.mk 2 k ⟨#[]⟩ [], { r with s := (c :: rest).drop (numLen (c :: rest)) }) by unfold numRd; rw [ho])
    have HO := hid ho.symm
    clear ho
    obtain ⟨v2, k1, k2, k3, k4, k5⟩ := step_x hst2 HX.out HN.out
    have HI2 := hid k1
    have HC2 := hid (step_chain HCH.out HV.out k2 k3)
    have HX2 := hid k4
    have HN2 := hid k5
    obtain ⟨b0, b1, b2, bf⟩ := k1.cells
    have hgl2 := k1.lt.1
    obtain ⟨x0, x1, x2, x3, xf⟩ := blk4 k4
    have e9 : (⟨(c :: rest).drop (numLen (c :: rest)), r.space.vars, r.space.bad⟩ : Rd).bad = false := HB.out
    rw [e9] at b2
    have hkb := numF_bnd HO.out
    clear hst2 k1 k2 k3 k4 k5 e9
    go_wp2_with fail
    obtain ⟨v3, k1, k2, k3, k4, k5⟩ := step_x (HI2.out.setBad false) HX2.out HN2.out
    obtain ⟨k6, k7⟩ := step_chain HC2.out.1 HC2.out.2 k2 k3
    rw [HRES.out]
    have e8 : (⟨(c :: rest).drop (numLen (c :: rest)), r.space.vars, false⟩ : Rd) = { r with s := (c :: rest).drop (numLen (c :: rest)) } := by rw [← HB.out]; rfl
    rw [← e8]
    refine bodyPost_ret (v := .agg #[.int .i64 2, .int .i64 k, .string ⟨#[]⟩, .slice none 0 0]) (by simp [results, Tryd.results26, go_sem, hcs, x0, x1, x2, x3, hgx]; try rfl) rfl ?_
    exact rtm_end k1 k6 k7 k5 hBx (rep_leaf i64_2 (by unfold I64; omega) (by simp [ByteArray.size]))
end
end Go.Proofs.YtlpmfkpefoegeacDoor
