/-
  The solver: call.
-/
import Derived.Test.YtlpmfkpefoegeabDoorQPlace
import Derived.Test.YtlpmfkpefoegeabDoorQShift
namespace Go.Proofs.YtlpmfkpefoegeabDoor
set_option linter.unusedVariables false
set_option linter.unusedSimpArgs false
open Go.RowKit
def ResR (A : Nat → Prop) (w : World) (r : Res) (v : Value) : Prop := match r with
  | .next gl => ∃ x, v = .tuple #[x, .bool true, .bool true] ∧ GlsR A w gl x
  | .no => ∃ x, v = .tuple #[x, .bool false, .bool true]
  | .off => ∃ x, v = .tuple #[x, .bool false, .bool false]
def SCallPost (base : Nat) (P : List Cl) (q g mb : Nat) (pv tv cv ov : Value) (r : Res × Sv) (w : World) (e : Ending) (w' : World) : Prop := ∃ v, e = .returned v ∧
  ∃ tv' cv' ov', SvI base P q g mb g pv tv' cv' ov' r.2 w' ∧ Ch (SM g mb tv cv ov) w w' ∧ (∀ b, ownB tv' = some b → ownB tv = some b ∨ w.heap.size ≤ b) ∧ (∀ b, ownB cv' = some b → ownB cv = some b ∨ w.heap.size ≤ b) ∧ (∀ b, ownB ov' = some b → ownB ov = some b ∨ w.heap.size ≤ b) ∧
    ResR (SA g mb g tv' cv' ov') w' r.1 v
section
variable {base : Nat} {P : List Cl} {q g mb : Nat} {pv tv cv ov : Value} {s : Sv} {w : World}
theorem callF_at {P : List Cl} {g : Gl} {rest : List Gl} {k : Nat} {s : Sv} (h : k < P.length) : callF P g rest (P.length - k) k s = (if ¬ likeF (P[k]).head g.t then callF P g rest (P.length - (k + 1)) (k + 1) s
      else
        let u := uniS 400 [(shiftF (P[k]).head s.vars, g.t)] s.env
        if u.work < 0 then (.off, { s with env := u.env }.put 4)
        else if u.ok = false then callF P g rest (P.length - (k + 1)) (k + 1) s
        else (.next (bodyF s.choices.length s.vars (P[k]).body rest), { s with
            env := u.env
            choices := if nextF P g.t (P.length - (k + 1)) (k + 1) < P.length then ⟨g :: rest, nextF P g.t (P.length - (k + 1)) (k + 1), s.env.length⟩ :: s.choices else s.choices
            vars := s.vars + (P[k]).vars })) := by
  rw [show P.length - k = (P.length - (k + 1)) + 1 by omega, callF, List.getElem?_eq_getElem h]
theorem nextF_at {P : List Cl} {t : Tm} {k : Nat} (h : k < P.length) : nextF P t (P.length - k) k = if likeF (P[k]).head t then k else nextF P t (P.length - (k + 1)) (k + 1) := by
  rw [show P.length - k = (P.length - (k + 1)) + 1 by omega, nextF, List.getElem?_eq_getElem h]
set_option maxRecDepth 100000 in
set_option maxHeartbeats 8000000 in
theorem scall_ok (g0 : Gl) (rest : List Gl) (gv : Value) (k : Nat) (h : SvI base P q g mb g pv tv cv ov s w) (hP : GoodP P) (hE : EnvOk s.vars s.env) (hvv : s.vars ≤ 900000) (hgls : GlsOk s.vars (g0 :: rest)) (hgv : GlsR (SA g mb g tv cv ov) w (g0 :: rest) gv)
    (hk : k ≤ P.length) (hfew : s.choices.length < 900) (hlen : s.env.length ≤ 900000) (hout : s.out.length + 1 ≤ 20) :
    Calls Tryd.prog 91 #[.pointer (some ⟨g, 0, none⟩), gv, .int .i64 (k : Int)] w (SCallPost base P q g mb pv tv cv ov (callF P g0 rest (P.length - k) k s) w) := by
  have HU := hid h
  have HP := hid hP
  have HE := hid hE
  have HGO := hid hgls
  have HGV := hid hgv
  have HFEW := hid hfew
  have HLEN' := hid hlen
  have HOUT := hid hout
  have HVV := hid hvv
  obtain ⟨gb, ga, gcap, rv, rfl, hgA, hgb, hgr, hgrest⟩ := hgv
  obtain ⟨pa, pc, pb, poff, hpv, hpl1, hpl2, hpl3, hpA, hpE⟩ := SlR.at h.prog
  subst hpv
  have HPA := hid hpA
  have HPE := hid hpE
  have hP24 := hP.1
  have hv0 := h.v0
  unfold maxLen at hpl2
  clear h hP hE hgls hgA hgb hgr hgrest hpA hpE hlen
  go_enter Tryd.func91, Tryd.ntmps91
  go_wp2_with fail
  go_loopw [9, 10, 11, 12, 13, 14, 15, 16] (fun i9 _ _ _ _ _ _ _ wr => ∃ (kk : Nat) (t1 c1 o1 : Value), k ≤ kk ∧ kk ≤ P.length ∧ i9 = .int .i64 (kk : Int) ∧ SvI base P q g mb g (.slice pa P.length pc) t1 c1 o1 s wr ∧ Ch (SM g mb tv cv ov) w wr ∧ (∀ b, ownB t1 = some b → ownB tv = some b ∨ w.heap.size ≤ b) ∧ (∀ b, ownB c1 = some b → ownB cv = some b ∨ w.heap.size ≤ b) ∧ (∀ b, ownB o1 = some b → ownB ov = some b ∨ w.heap.size ≤ b) ∧ callF P g0 rest (P.length - k) k s = callF P g0 rest (P.length - kk) kk s) (fun i9 _ _ _ _ _ _ _ wr => P.length - (intOf i9).toNat)
  case atStart => exact ⟨k, tv, cv, ov, Nat.le_refl _, hk, rfl, HU.out, Ch.refl _ _, fun b h => .inl h, fun b h => .inl h, fun b h => .inl h, rfl⟩
  case round =>
    obtain ⟨wo, rfl⟩ : ∃ wo : World, wo = wr := ⟨_, rfl⟩
    obtain ⟨kk, t1, c1, o1, hk1, hk2, rfl, hsv, hch, ht1, hc1, ho1, hcf⟩ := hrel
    have HSV := hid hsv
    have HCH := hid hch
    have HT1 := hid ht1
    have HC1 := hid hc1
    have HO1 := hid ho1
    have HCF := hid hcf
    have HG1 := hid (HGV.out.move hch ht1 hc1 ho1)
    obtain ⟨hl1, hl2, hl3⟩ := hsv.lt
    obtain ⟨b0, b1, b2, b3, b4, b5, b6, b7, bf⟩ := box8 hsv.box
    have hws := hch.size
    clear hsv hch ht1 hc1 ho1 hcf hk
    have hkk0 : (0 : Int) ≤ (kk : Int) := Int.natCast_nonneg _
    by_cases hlt : kk < P.length
    rotate_left
    · have hres := hid (show callF P g0 rest (P.length - k) k s = (.no, s) by
        rw [HCF.out, show P.length - kk = 0 by omega]; rfl)
      go_wp2_with fail
      go_ret3
      rw [hres.out]
      exact ⟨_, rfl, t1, c1, o1, HSV.out, HCH.out, HT1.out, HC1.out, HO1.out, _, rfl⟩
    obtain ⟨rfl, hpb⟩ := HPA.out (by omega)
    have hkk1 : (kk : Int) < (P.length : Int) := by omega
    obtain ⟨ha, hca, ba, bca, p0, p1, p2, p3, p4, p5, hr⟩ := cl_cells HPE.out hpb (HCH.out.keeps (A := fun b => b < base) fun b _ hb e => by have := (HU.out.sm_lt b e).1; omega) hlt
    obtain ⟨c, hcc⟩ : ∃ c, c = P[kk] := ⟨_, rfl⟩
    rw [← hcc] at p0 p1 p2 p3 p4 p5 hr
    have HCA := hid (show callF P g0 rest (P.length - k) k s = _ from HCF.out.trans (callF_at hlt))
    rw [← hcc] at HCA
    have HCC := hid hcc
    have HCG := hid (show c.Good by rw [hcc]; exact HP.out.2 _ (List.getElem_mem hlt))
    have HR := hid hr
    have hpbl : pb < wo.heap.size := by omega
    obtain ⟨gb', ga', gcap', rv', e, hgA, hgb, hgr, hgrest⟩ := HG1.out
    simp only [Value.pointer.injEq, Option.some.injEq, Addr.mk.injEq, and_true] at e
    subst e
    have HGB := hid hgb
    have HGR := hid hgr
    have HGA := hid hgA
    have HGREST := hid hgrest
    obtain ⟨g00, g01, g02, g03, g04, g05, gf⟩ := blk6 hgb
    have hgbl := blk_lt hgb
    clear hr hcc hgA hgb hgr hgrest
    go_wp2_with fail
    obtain ⟨W1, hW1⟩ : ∃ W1, W1 = wo.alloc (.cells #[.int .i64 c.head.kind, .int .i64 c.head.n, .string c.head.s, .slice ha c.head.args.length hca, .slice ba c.body.length bca, .int .i64 c.vars] 39) := ⟨_, rfl⟩
    have HB1 := hid (show Below wo.heap.size wo W1 by rw [hW1]; exact (Below.refl _ _).alloc (Nat.le_refl _) _)
    have HX1 := hid (show W1.heap[wo.heap.size]? = some (.cells #[.int .i64 c.head.kind, .int .i64 c.head.n, .string c.head.s, .slice ha c.head.args.length hca, .slice ba c.body.length bca, .int .i64 c.vars] 39 (0, 0)) by rw [hW1]; exact blk_new _ _)
    obtain ⟨cb, hcb⟩ : ∃ cb, cb = wo.heap.size := ⟨_, rfl⟩
    have HCB := hid hcb
    have hcbw : cb < W1.heap.size := by rw [hcb]; exact blk_lt HX1.out
    have hcbr : wo.heap.size ≤ cb := by omega
    rw [← hcb] at HX1
    rw [← hcb, ← hW1]
    clear hW1 hcb b0 b1 b2 b3 b4 b5 b6 b7 bf g00 g01 g02 g03 g04 g05 gf p0 p1 p2 p3 p4 p5
    have HSV1 := hid (HSV.out.below HB1.out)
    have HGB1 := hid (blk_below HGB.out HB1.out)
    obtain ⟨b0, b1, b2, b3, b4, b5, b6, b7, bf⟩ := box8 HSV1.out.box
    obtain ⟨g00, g01, g02, g03, g04, g05, gf⟩ := blk6 HGB1.out
    obtain ⟨q0, q1, q2, q3, q4, q5, qf⟩ := blk6 HX1.out
    have HHR := hid (show Tm.rep (fun b => b < base) W1 c.head [.int .i64 c.head.kind, .int .i64 c.head.n, .string c.head.s, .slice ha c.head.args.length hca] by
      obtain ⟨_, _, _, _, e, h1, -⟩ := HR.out
      simp only [List.cons.injEq, Value.slice.injEq, and_true, true_and] at e
      obtain ⟨⟨rfl, rfl⟩, -⟩ := e
      exact Tm.rep_lasts.1 _ _ _ _ _ h1 (Keeps.of_below HB1.out))
    have HBR := hid (show TmsR (fun b => b < base) W1 c.body (.slice ba c.body.length bca) by
      obtain ⟨_, _, _, _, e, -, h1, -⟩ := HR.out
      simp only [List.cons.injEq, Value.slice.injEq, and_true, true_and] at e
      obtain ⟨-, rfl, rfl⟩ := e
      exact SlR.keeps Tm.rep_lasts h1 (Keeps.of_below HB1.out))
    have HGT := hid (Tm.rep_lasts.1 _ _ _ _ _ HGR.out (Keeps.of_below HB1.out))
    have hz1 := HB1.out.size
    go_still_tail 6, (by kernel_rfl)
    change wpList _ _ _ _ _ W1.drew
    have HLIKE := hid (slike_ok c.head g0.t _ _ W1.drew _ _ (Tm.rep_lasts.1 _ _ _ _ _ HHR.out (Keeps.drew _ _)) (Tm.rep_lasts.1 _ _ _ _ _ HGT.out (Keeps.drew _ _)))
    have HBD := hid (show Below wo.heap.size wo W1.drew from HB1.out.drew)
    have HBD1 := hid (show Below W1.heap.size W1 W1.drew from (Below.refl _ _).drew)
    generalize W1.drew = W2 at *
    clear b0 b1 b2 b3 b4 b5 b6 b7 bf g00 g01 g02 g03 g04 g05 gf q0 q1 q2 q3 q4 q5 qf
    go_wp2_with fail
    refine (HLIKE.out).mono ?_
    rintro e W3 ⟨lk, rfl, hb3, hlk⟩
    have HB3 := hid (show Below W1.heap.size W1 W3 from HBD1.out.trans (hb3.mono HBD1.out.size))
    have HBw3 := hid (show Below wo.heap.size wo W3 from HB1.out.trans (HB3.out.mono hz1))
    have HLK := hid hlk
    clear hb3 hlk HLIKE HBD HBD1
    have HSV3 := hid (HSV1.out.below HB3.out)
    have HGB3 := hid (blk_below HGB1.out HB3.out)
    have HX3 := hid (blk_below HX1.out HB3.out)
    obtain ⟨b0, b1, b2, b3, b4, b5, b6, b7, bf⟩ := box8 HSV3.out.box
    obtain ⟨g00, g01, g02, g03, g04, g05, gf⟩ := blk6 HGB3.out
    obtain ⟨q0, q1, q2, q3, q4, q5, qf⟩ := blk6 HX3.out
    cases lk with
    | false =>
      have hnl : ¬ likeF c.head g0.t := fun h => by have := HLK.out.2 h; cases this
      have hcf := hid (show callF P g0 rest (P.length - k) k s = callF P g0 rest (P.length - (kk + 1)) (kk + 1) s by rw [HCA.out, if_pos hnl])
      go_wp2_with fail
      go_roundw
      case rel => exact ⟨kk + 1, t1, c1, o1, by omega, by omega, by go_num, HSV3.out, HCH.out.then_below HBw3.out, HT1.out, HC1.out, HO1.out, hcf.out⟩
      case measure => simp [intOf]; omega
    | true =>
      have hlik : likeF c.head g0.t := HLK.out.1 rfl
      have HCN := hid (HCA.out.trans (if_neg (not_not_intro hlik)))
      clear hlik HLK
      obtain ⟨ca, cc, hcv⟩ : ∃ ca cc, c1 = .slice ca s.choices.length cc := by
        obtain ⟨_, _, _, _, ca, cc, _, _, _, _, e, _⟩ := HSV3.out.vals
        exact ⟨ca, cc, e⟩
      subst hcv
      go_wp2_with fail
      have hz3 := HBw3.out.size
      clear b0 b1 b2 b3 b4 b5 b6 b7 bf g00 g01 g02 g03 g04 g05 gf q0 q1 q2 q3 q4 q5 qf
      go_loopw [12] (fun im wi => ∃ m : Nat, kk + 1 ≤ m ∧ m ≤ P.length ∧ im = .int .i64 (m : Int) ∧ Below W3.heap.size W3 wi ∧ nextF P g0.t (P.length - (kk + 1)) (kk + 1) = nextF P g0.t (P.length - m) m) (fun im wi => P.length - (intOf im).toNat)
      case atStart => exact ⟨kk + 1, Nat.le_refl _, by omega, by go_num, Below.refl _ _, rfl⟩
      case round =>
        obtain ⟨m, hm1, hm2, rfl, hbi, hnx⟩ := hrel
        have HBI := hid hbi
        have HNX := hid hnx
        have hzi := hbi.size
        clear hbi hnx
        have hm0 : (0 : Int) ≤ (m : Int) := Int.natCast_nonneg _
        have HBwi := hid (HBw3.out.trans (HBI.out.mono hz3))
        have HSVi := hid (HSV3.out.below HBI.out)
        have HGBi := hid (blk_below HGB3.out HBI.out)
        have HXi := hid (blk_below HX3.out HBI.out)
        obtain ⟨b0, b1, b2, b3, b4, b5, b6, b7, bf⟩ := box8 HSVi.out.box
        obtain ⟨g00, g01, g02, g03, g04, g05, gf⟩ := blk6 HGBi.out
        by_cases hml : m < P.length
        · have hmli : (m : Int) < (P.length : Int) := by omega
          obtain ⟨ha', hca', ba', bca', p0, p1, p2, p3, p4, p5, hr'⟩ := cl_cells HPE.out hpb ((HCH.out.then_below HBwi.out).keeps (A := fun b => b < base) fun b _ hb e => by have := (HU.out.sm_lt b e).1; omega) hml
          have HMR := hid (show Tm.rep (fun b => b < base) wr (P[m]).head [.int .i64 (P[m]).head.kind, .int .i64 (P[m]).head.n, .string (P[m]).head.s, .slice ha' (P[m]).head.args.length hca'] by
            obtain ⟨_, _, _, _, e, h1, -⟩ := hr'
            simp only [List.cons.injEq, Value.slice.injEq, and_true, true_and] at e
            obtain ⟨⟨rfl, rfl⟩, -⟩ := e
            exact h1)
          have HNA := hid (nextF_at (t := g0.t) hml)
          clear hr'
          go_wp2_with fail
          go_still_tail 20, (by kernel_rfl)
          change wpList _ _ _ _ _ wr.drew
          have HLIKE := hid (slike_ok (P[m]).head g0.t _ _ wr.drew _ _ (Tm.rep_lasts.1 _ _ _ _ _ HMR.out (Keeps.drew _ _)) (Tm.rep_lasts.1 _ _ _ _ _ HGT.out ((Keeps.of_below HB3.out).trans ((Keeps.of_below HBI.out).trans (Keeps.drew _ _)))))
          have HBD1 := hid (show Below wr.heap.size wr wr.drew from (Below.refl _ _).drew)
          have hzd : wr.heap.size ≤ wr.drew.heap.size := Nat.le_refl _
          generalize wr.drew = W4 at *
          clear b0 b1 b2 b3 b4 b5 b6 b7 bf g00 g01 g02 g03 g04 g05 gf p0 p1 p2 p3 p4 p5
          go_wp2_with fail
          refine (HLIKE.out).mono ?_
          rintro e W5 ⟨lk, rfl, hb5, hlk⟩
          have HB5 := hid (show Below W3.heap.size W3 W5 from HBI.out.trans ((HBD1.out.trans (hb5.mono hzd)).mono hzi))
          have HLK := hid hlk
          clear hb5 hlk HLIKE HBD1
          cases lk with
          | false =>
            have hnl : ¬ likeF (P[m]).head g0.t := fun h => by have := HLK.out.2 h; cases this
            have HN2 := hid (HNX.out.trans (HNA.out.trans (if_neg hnl)))
            clear hnl HLK
            go_wp2_with fail
            go_roundw
            case rel => exact ⟨m + 1, by omega, by omega, by go_num, HB5.out, HN2.out⟩
            case measure => simp [intOf]; omega
          | true =>
            have HN2 := hid (HNX.out.trans (HNA.out.trans (if_pos (HLK.out.1 rfl))))
            clear HLK
            -- behind the search for the next clause: the world is W5
            have HBo5 := hid (show Below wo.heap.size wo W5 from HBw3.out.trans (HB5.out.mono hz3))
            have HSV5 := hid (HSV3.out.below HB5.out)
            have HGB5 := hid (blk_below HGB3.out HB5.out)
            have HX5 := hid (blk_below HX3.out HB5.out)
            have hz5 := HBo5.out.size
            obtain ⟨_, _, ta, tc, ca', cc', _, _, _, htv, hcv', _, -, -, htl1, htl2, -⟩ := HSV5.out.vals
            subst htv
            unfold maxLen at htl2
            obtain ⟨b0, b1, b2, b3, b4, b5, b6, b7, bf⟩ := box8 HSV5.out.box
            go_wp2_with fail
            obtain ⟨W6, hW6⟩ : ∃ W6, W6 = W5.alloc (.cells #[.int .i64 400] 3) := ⟨_, rfl⟩
            obtain ⟨xb, hxb⟩ : ∃ xb, xb = W5.heap.size := ⟨_, rfl⟩
            have HSV6 := hid (show SvI base P q g mb xb _ _ _ _ s W6 by rw [hxb, hW6]; exact HSV5.out.leave _)
            have HWK6 := hid (show WkAt xb 400 W6 by rw [hxb, hW6]; exact blk_new _ _)
            have HB6 := hid (show Below W5.heap.size W5 W6 by rw [hW6]; exact (Below.refl _ _).alloc (Nat.le_refl _) _)
            have hxo : wo.heap.size ≤ xb := by omega
            have hx6 : xb < W6.heap.size := blk_lt HWK6.out
            have hcx : cb < xb := by rw [hxb]; exact blk_lt HX5.out
            have hgx : gb < xb := by rw [hxb]; exact blk_lt HGB5.out
            have hggx : g < xb := by rw [hxb]; exact HSV5.out.lt.1
            have HXB := hid hxb
            rw [← hW6, ← hxb]
            clear hW6 hxb b0 b1 b2 b3 b4 b5 b6 b7 bf
            have HBo6 := hid (HBo5.out.trans (HB6.out.mono hz5))
            have HGB6 := hid (blk_below HGB5.out HB6.out)
            have HX6 := hid (blk_below HX5.out HB6.out)
            have hz6 := HB6.out.size
            go_wp2_with fail
            refine wp_region_F (F := fun _ w' => w'.heap[cb]? = some (.cells #[.int .i64 c.head.kind, .int .i64 c.head.n, .string c.head.s, .slice ha c.head.args.length hca, .slice ba c.body.length bca, .int .i64 c.vars] 39 (0, 0)) ∧ w'.cell? ⟨g, 4, none⟩ = some (.int .i64 s.vars) ∧ w'.heap[gb]? = some (.cells #[.int .i64 g0.t.kind, .int .i64 g0.t.n, .string g0.t.s, .slice ga' g0.t.args.length gcap', .int .i64 (g0.bar : Int), rv'] 88 (0, 0))) (by kernel_rfl) ?_
            have HF : W6.drew.heap[cb]? = some (.cells #[.int .i64 c.head.kind, .int .i64 c.head.n, .string c.head.s, .slice ha c.head.args.length hca, .slice ba c.body.length bca, .int .i64 c.vars] 39 (0, 0)) ∧ W6.drew.cell? ⟨g, 4, none⟩ = some (.int .i64 s.vars) ∧ W6.drew.heap[gb]? = some (.cells #[.int .i64 g0.t.kind, .int .i64 g0.t.n, .string g0.t.s, .slice ga' g0.t.args.length gcap', .int .i64 (g0.bar : Int), rv'] 88 (0, 0)) := ⟨HX6.out, (box8 (show W6.drew.heap[g]? = _ from HSV6.out.box)).2.2.2.2.1, HGB6.out⟩
            refine wpAnyF_take (i := 0) (v := ?_) rfl (by kernel_rfl) (by kernel_rfl) (by kernel_rfl) (fun _ _ _ h => h) (Or.inl ⟨by rfl, ?_⟩) HF ?_
            rotate_left
            · (intro w' hw; clear hw; go_simp <;> with_reducible rfl)
            try simp only [Act.put, List.setIfInBounds_toArray, List.set_cons_zero, List.set_cons_succ]
            refine wpAnyF_take (i := 1) (v := ?_) rfl (by kernel_rfl) (by kernel_rfl) (by kernel_rfl) (fun _ _ _ h => h) (Or.inl ⟨by rfl, ?_⟩) HF ?_
            rotate_left
            · (intro w' hw; clear hw; go_simp <;> with_reducible rfl)
            try simp only [Act.put, List.setIfInBounds_toArray, List.set_cons_zero, List.set_cons_succ]
            refine wpAnyF_take (i := 2) (v := .agg #[.int .i64 c.head.kind, .int .i64 c.head.n, .string c.head.s, .slice ha c.head.args.length hca]) rfl (by kernel_rfl) (by kernel_rfl) (by kernel_rfl) (fun _ _ _ h => h) (Or.inl ⟨by rfl, ?_⟩) HF ?_
            · (intro w' hw; obtain ⟨f0, f1, f2, f3, f4, f5, -⟩ := blk6 hw.1; clear hw; go_simp)
            try simp only [Act.put, List.setIfInBounds_toArray, List.set_cons_zero, List.set_cons_succ]
            refine wpAnyF_take (i := 3) (v := ?_) rfl (by kernel_rfl) (by kernel_rfl) (by kernel_rfl) (fun _ _ _ h => h) (Or.inl ⟨by rfl, ?_⟩) HF ?_
            rotate_left
            · (intro w' hw; clear hw; go_simp <;> with_reducible rfl)
            try simp only [Act.put, List.setIfInBounds_toArray, List.set_cons_zero, List.set_cons_succ]
            refine wpAnyF_take (i := 4) (v := ?_) rfl (by kernel_rfl) (by kernel_rfl) (by kernel_rfl) (fun _ _ _ h => h) (Or.inl ⟨by rfl, ?_⟩) HF ?_
            rotate_left
            · (intro w' hw; clear hw; go_simp <;> with_reducible rfl)
            try simp only [Act.put, List.setIfInBounds_toArray, List.set_cons_zero, List.set_cons_succ]
            refine wpAnyF_take (i := 5) (v := ?_) rfl (by kernel_rfl) (by kernel_rfl) (by kernel_rfl) (fun _ _ _ h => h) (Or.inl ⟨by rfl, ?_⟩) HF ?_
            rotate_left
            · (intro w' hw; clear hw; go_simp <;> with_reducible rfl)
            try simp only [Act.put, List.setIfInBounds_toArray, List.set_cons_zero, List.set_cons_succ]
            refine wpAnyF_take (i := 6) (v := ?_) rfl (by kernel_rfl) (by kernel_rfl) (by kernel_rfl) (fun _ _ _ h => h) (Or.inl ⟨by rfl, ?_⟩) HF ?_
            rotate_left
            · (intro w' hw; have f4 := hw.2.1; clear hw; go_simp <;> with_reducible rfl)
            try simp only [Act.put, List.setIfInBounds_toArray, List.set_cons_zero, List.set_cons_succ]
            refine wpAnyF_take (i := 8) (v := ?_) rfl (by kernel_rfl) (by kernel_rfl) (by kernel_rfl) (fun _ _ _ h => h) (Or.inl ⟨by rfl, ?_⟩) HF ?_
            rotate_left
            · (intro w' hw; clear hw; go_simp <;> with_reducible rfl)
            try simp only [Act.put, List.setIfInBounds_toArray, List.set_cons_zero, List.set_cons_succ]
            refine wpAnyF_take (i := 9) (v := ?_) rfl (by kernel_rfl) (by kernel_rfl) (by kernel_rfl) (fun _ _ _ h => h) (Or.inl ⟨by rfl, ?_⟩) HF ?_
            rotate_left
            · (intro w' hw; clear hw; go_simp <;> with_reducible rfl)
            try simp only [Act.put, List.setIfInBounds_toArray, List.set_cons_zero, List.set_cons_succ]
            refine wpAnyF_take (i := 10) (v := ?_) rfl (by kernel_rfl) (by kernel_rfl) (by kernel_rfl) (fun _ _ _ h => h) (Or.inl ⟨by rfl, ?_⟩) HF ?_
            rotate_left
            · (intro w' hw; clear hw; go_simp <;> with_reducible rfl)
            try simp only [Act.put, List.setIfInBounds_toArray, List.set_cons_zero, List.set_cons_succ]
            refine wpAnyF_take (i := 11) (v := .agg #[.int .i64 g0.t.kind, .int .i64 g0.t.n, .string g0.t.s, .slice ga' g0.t.args.length gcap']) rfl (by kernel_rfl) (by kernel_rfl) (by kernel_rfl) (fun _ _ _ h => h) (Or.inl ⟨by rfl, ?_⟩) HF ?_
            · (intro w' hw; obtain ⟨f0, f1, f2, f3, f4, f5, -⟩ := blk6 hw.2.2; clear hw; go_simp)
            try simp only [Act.put, List.setIfInBounds_toArray, List.set_cons_zero, List.set_cons_succ]
            refine wpAnyF_one (i := 7) (by kernel_rfl) (wpOp_run rfl (by rfl) ?_)
            go_simp
            have HVS := hid (show I64 s.vars by have := HVV.out; unfold I64; omega)
            have HHR6 := hid (Tm.rep_lasts.1 _ _ _ _ _ HHR.out ((((Keeps.of_below HB3.out).trans (Keeps.of_below HB5.out)).trans (Keeps.of_below HB6.out)).trans (Keeps.drew _ _)))
            refine (shift_ok c.head s.vars _ _ _ HVS.out HHR6.out).mono ?_
            rintro e W7 ⟨r, rfl, hb7, us, rfl, hsr⟩
            have HB7 := hid (show Below W6.heap.size W6 W7 from ((Below.refl _ W6).drew).trans hb7)
            have HSR := hid hsr
            obtain ⟨sha, shc, rfl, -⟩ := Tm.rep4 hsr
            have HSV7 := hid (HSV6.out.below HB7.out)
            have HWK7 := hid (show WkAt xb 400 W7 from blk_below HWK6.out HB7.out)
            have HX7 := hid (blk_below HX6.out HB7.out)
            have HGB7 := hid (blk_below HGB6.out HB7.out)
            have hz7 := HB7.out.size
            have hF7 := hid (show W7.heap[cb]? = some (.cells #[.int .i64 c.head.kind, .int .i64 c.head.n, .string c.head.s, .slice ha c.head.args.length hca, .slice ba c.body.length bca, .int .i64 c.vars] 39 (0, 0)) ∧ W7.cell? ⟨g, 4, none⟩ = some (.int .i64 s.vars) ∧ W7.heap[gb]? = some (.cells #[.int .i64 g0.t.kind, .int .i64 g0.t.n, .string g0.t.s, .slice ga' g0.t.args.length gcap', .int .i64 (g0.bar : Int), rv'] 88 (0, 0)) from ⟨HX7.out, (box8 HSV7.out.box).2.2.2.2.1, HGB7.out⟩)
            clear hb7 hsr HF
            refine ⟨fun _ _ _ => hF7.out, ?_⟩
            refine wpAnyF_one (i := 12) (by kernel_rfl) (wpOp_run rfl (by rfl) ?_)
            go_simp
            have HCV := hid HCG.out.1.1
            have HCV8 := hid HCG.out.1.2.1
            have HAI := hid (show (shiftF c.head s.vars).In (s.vars + c.vars) from shiftF_in HCG.out.2.2.1.1 HCV8.out hv0 (by have := HVV.out; omega))
            have HBI2 := hid (show g0.t.In (s.vars + c.vars) from (HGO.out g0 (by simp)).1.mono (by have := HCV.out; omega))
            have HEI := hid (HE.out.mono (N' := s.vars + c.vars) (by have := HCV.out; omega))
            have HRA := hid (show Tm.rep (SA g mb xb (.slice ta s.env.length tc) (.slice ca s.choices.length cc) o1) W7 (shiftF c.head s.vars) _ from Tm.rep_lasts.2.1 _ _ _ _ _ HSR.out fun b _ hb => by
              have hb' : W6.heap.size ≤ b := hb
              exact ⟨fun hs => by have := (HSV6.out.sm_lt b hs).2; omega, by omega⟩)
            have HRB := hid (Tm.rep_lasts.1 _ _ _ _ _ (Tm.rep_lasts.2.1 _ (SA g mb xb (.slice ta s.env.length tc) (.slice ca s.choices.length cc) o1) _ _ _ HGR.out fun b hb h => ⟨h.1, by omega⟩) (((Keeps.of_below HBo6.out)).trans (Keeps.of_below HB7.out)))
            refine (sunify_ok (by omega) 400 (Nat.le_refl _) (.slice ta s.env.length tc) s (shiftF c.head s.vars) g0.t W7 _ _ HSV7.out HWK7.out HEI.out HAI.out HBI2.out HRA.out HRB.out (by have := HLEN'.out; omega)).mono ?_
            rintro e W8 ⟨rfl, ⟨t8, hsv8, hch8, hta8⟩, hwk8⟩
            have HUE := hid (uniS_env (N := s.vars + c.vars) 400 [(shiftF c.head s.vars, g0.t)] s.env HEI.out (by
              intro p hp
              simp only [List.mem_singleton] at hp
              subst hp
              exact ⟨HAI.out, HBI2.out⟩))
            have hF8 := hid (show W8.heap[cb]? = some (.cells #[.int .i64 c.head.kind, .int .i64 c.head.n, .string c.head.s, .slice ha c.head.args.length hca, .slice ba c.body.length bca, .int .i64 c.vars] 39 (0, 0)) ∧ W8.cell? ⟨g, 4, none⟩ = some (.int .i64 s.vars) ∧ W8.heap[gb]? = some (.cells #[.int .i64 g0.t.kind, .int .i64 g0.t.n, .string g0.t.s, .slice ga' g0.t.args.length gcap', .int .i64 (g0.bar : Int), rv'] 88 (0, 0)) from
              ⟨(hch8.block cb (by omega) (fun e => e.elim (HSV7.out.ty_free HX7.out (by decide) (by decide) (by decide) (by decide)) (fun e => by omega))).trans HX7.out, (box8 hsv8.box).2.2.2.2.1,
                (hch8.block gb (by omega) (fun e => e.elim (HSV7.out.ty_free HGB7.out (by decide) (by decide) (by decide) (by decide)) (fun e => by omega))).trans HGB7.out⟩)
            refine ⟨fun _ _ _ => hF8.out, ?_⟩
            refine wpAnyF_one (i := 13) (by kernel_rfl) (wpOp_run rfl (by rfl) ?_)
            go_simp
            refine ⟨fun _ _ h => h, ?_⟩
            refine wpAnyF_done (by kernel_rfl) ?_ _
            obtain ⟨u, hu⟩ : ∃ u, u = uniS 400 [(shiftF c.head s.vars, g0.t)] s.env := ⟨_, rfl⟩
            have HCN' := HCN.out
            try simp only at HCN'
            rw [← hu] at HCN' hsv8 hwk8 HUE ⊢
            have HCU := hid HCN'
            have HWK8 := hid hwk8
            have hz8 := hch8.size
            have HCHo := hid (show Ch (SM g mb (.slice ta s.env.length tc) (.slice ca s.choices.length cc) o1) wo W8 from (Ch.of_below (M := SM g mb (.slice ta s.env.length tc) (.slice ca s.choices.length cc) o1) (HBo6.out.trans (HB7.out.mono (by omega)))).trans hch8 (fun b hb => hb.elim .inl (fun e => .inr (by omega))))
            have HTA8 := hid (show ∀ b, ownB t8 = some b → ownB (.slice ta s.env.length tc) = some b ∨ wo.heap.size ≤ b from fun b hb => (hta8 b hb).imp id (fun e => by omega))
            have HSV8 := hid hsv8.take_in
            have hxg : xb ≠ g := by omega
            obtain ⟨uo, ue, uw⟩ := u
            obtain ⟨w0, wf, wl⟩ := hwk8.cell
            have HSTEP := hid (fun (s' : Sv) (w' : World) (hh : SStep base P q g mb (.slice (some ⟨pb, poff, none⟩) P.length pc) t8 (.slice ca s.choices.length cc) o1 s' W8 w') =>
              (SStep.trans HCH.out HT1.out HC1.out HO1.out (SStep.trans HCHo.out HTA8.out (fun b h => .inl h) (fun b h => .inl h) hh) : SStep base P q g mb (.slice (some ⟨pb, poff, none⟩) P.length pc) tv cv ov s' w w'))
            clear hsv8 hwk8 hch8 hta8 hu HCN'
            simp only at w0
            by_cases huw : uw < 0
            · have hres := hid (show callF P g0 rest (P.length - k) k s = (.off, { s with env := ue }.put 4) by rw [HCU.out, if_pos huw])
              go_wp2_with fail
              refine (send_ok 4 (by unfold I64; omega) HSV8.out HOUT.out).mono ?_
              rintro e W9 ⟨rfl, hst⟩
              have HST := hid hst
              clear hst
              go_wp2_with fail
              go_ret3
              rw [hres.out]
              obtain ⟨t', c', o', z1, z2, z3, z4, z5⟩ := HSTEP.out _ _ HST.out
              exact ⟨_, rfl, t', c', o', z1, z2, z3, z4, z5, _, rfl⟩
            have HNU := hid huw
            have hun : decide (uw < 0) = false := by simpa using huw
            have HCU2 := hid (HCU.out.trans (if_neg huw))
            clear huw
            cases uo with
            | false =>
              have hcf := hid (show callF P g0 rest (P.length - k) k s = callF P g0 rest (P.length - (kk + 1)) (kk + 1) s by rw [HCU2.out, if_pos rfl])
              go_wp2_with fail
              have HUN := hid (sundo_ok s.env.length HSV8.out (by obtain ⟨_, F, e, _⟩ := HUE.out; have e' : ue = s.env ++ F := e; show s.env.length ≤ ue.length; rw [e']; simp) HUE.out.1.nodup)
              refine (HUN.out).mono ?_
              rintro e W9 ⟨r, rfl, hst⟩
              have HST := hid (show SStep base P q g mb (.slice (some ⟨pb, poff, none⟩) P.length pc) t8 (.slice ca s.choices.length cc) o1 s W8 W9 by
                have e : ({ s with env := ue.take s.env.length } : Sv) = s := by
                  obtain ⟨_, F, e, _⟩ := HUE.out
                  have e' : ue = s.env ++ F := e
                  rw [e', List.take_left]
                rw [← e]
                exact hst)
              clear hst HUN
              go_wp2_with fail
              go_roundw
              case rel =>
                obtain ⟨t', c', o', z1, z2, z3, z4, z5⟩ := HSTEP.out _ _ HST.out
                exact ⟨kk + 1, t', c', o', by omega, by omega, by go_num, z1, z2, z3, z4, z5, hcf.out⟩
              case measure => simp [intOf]; omega
            | true =>
              have HCU3 := hid (HCU2.out.trans (if_neg (by simp)))
              have HBX8 := hid HSV8.out.box
              obtain ⟨b0, b1, b2, b3, b4, b5, b6, b7, bf⟩ := box8 HSV8.out.box
              obtain ⟨q0, q1, q2, q3, q4, q5, qf⟩ := blk6 hF8.out.1
              obtain ⟨g00, g01, g02, g03, g04, g05, gf⟩ := blk6 hF8.out.2.2
              have hbl5 : (c.body.length : Int) ≤ 5 := by have := HCG.out.1.2.2.1; omega
              have hbl0 : (0 : Int) ≤ (c.body.length : Int) := Int.natCast_nonneg _
              have hbar : (s.choices.length : Int) ≤ 900 := by have := HFEW.out; omega
              have HGREST8 := hid (show GlsR (SA g mb g t8 (.slice ca s.choices.length cc) o1) W8 rest rv' from HGREST.out.move HCHo.out HTA8.out (fun b h => .inl h) (fun b h => .inl h))
              by_cases hmore : m < P.length
              · have hmi : (m : Int) < (P.length : Int) := by omega
                have HAP8 := hid HSV8.out.apart
                obtain ⟨hgl8, -, -⟩ := HSV8.out.lt
                have HGG8 := hid (show GlsR (SA g mb g t8 (.slice ca s.choices.length cc) o1) W8 (g0 :: rest) (.pointer (some ⟨gb, 0, none⟩)) from HG1.out.move HCHo.out HTA8.out (fun b h => .inl h) (fun b h => .inl h))
                have HNB := hid (HSV8.out.ty_free hF8.out.1 (by decide) (by decide) (by decide) (by decide))
                have HNG := hid (HSV8.out.ty_free hF8.out.2.2 (by decide) (by decide) (by decide) (by decide))
                have hbs8 := HSV8.out.lt.2.2
                have hcs := cell_set
                have hgb8 : gb < W8.heap.size := by omega
                have hcb8 : cb < W8.heap.size := by omega
                go_wp2_with (at_builtin; go_must (refine wpList_app1 rfl (.tmp 112) (.tmp 117) 83 rfl base 137 3 24 tyChc chcR_lasts (A := SA g mb g t8 (.slice ca s.choices.length cc) o1) (.slice ca s.choices.length cc) s.choices.reverse rfl HSV8.out.chc ⟨g0 :: rest, m, s.env.length⟩ [.pointer (some ⟨gb, 0, none⟩), .int .i64 (m : Int), .int .i64 (s.env.length : Int)] (by rfl) rfl ⟨_, rfl, HGG8.out.mono fun b hb hA => ⟨hA, fun e => hA.1 (.inr (.inr (.inr (.inl e))))⟩⟩ ⟨by have := HFEW.out; simp; omega, hbs8⟩ ?_); go_must (intro v2 w2 hown hgrew; have hB2 := (hgrew.grown.block g (by simp; omega) (fun e => HAP8.out.cg e.symm)).trans (blk_alloc HBX8.out _); obtain ⟨va2, vc2, hv2, hvl2, hvm2⟩ := OwnR.val' hown; rw [show (s.choices.reverse ++ [(⟨g0 :: rest, m, s.env.length⟩ : Chc)]).length = s.choices.length + 1 by simp] at hv2; subst hv2; have HO2 := hid hown; have HG2 := hid hgrew; have HGB2 := hid ((hgrew.grown.block gb (by simp; omega) (fun e => HNG.out (.inr (.inr (.inr (.inl e.symm)))))).trans (blk_alloc hF8.out.2.2 _)); have HCB2 := hid ((hgrew.grown.block cb (by simp; omega) (fun e => HNB.out (.inr (.inr (.inr (.inl e.symm)))))).trans (blk_alloc hF8.out.1 _)); obtain ⟨gg00, gg01, gg02, gg03, gg04, gg05, ggf⟩ := blk6 HGB2.out; obtain ⟨r0, r1, r2, r3, r4, r5, rff⟩ := blk6 HCB2.out; have hgbg : gb ≠ g := (fun e => HNG.out (.inl e)); have hcbg : cb ≠ g := (fun e => HNB.out (.inl e)); have hgbg' : g ≠ gb := (fun e => HNG.out (.inl e.symm)); have hcbg' : g ≠ cb := (fun e => HNB.out (.inl e.symm)); obtain ⟨k0, k1, k2, k3, k4, k5, k6, k7, kf⟩ := box8 hB2; clear hown hgrew hB2))
                have HPU := hid (HSV8.out.push (x := ⟨g0 :: rest, m, s.env.length⟩) (by have := HFEW.out; simp only; omega) HO2.out HG2.out)
                have HF9 := hid (show (w2.setCell ⟨g, 3, none⟩ (.slice va2 (s.choices.length + 1) vc2)).heap[cb]? = _ from (Below.heap_setCell _ _ _ _ (fun e => HNB.out (.inl e))).trans HCB2.out)
                generalize w2.setCell ⟨g, 3, none⟩ (.slice va2 (s.choices.length + 1) vc2) = W9 at *
                obtain ⟨s9, hs9⟩ : ∃ s9 : Sv, s9 = { s with env := ue, choices := ⟨g0 :: rest, m, s.env.length⟩ :: s.choices } := ⟨_, rfl⟩
                have HST9 := hid (show SStep base P q g mb (.slice (some ⟨pb, poff, none⟩) P.length pc) t8 (.slice ca s.choices.length cc) o1 s9 W8 W9 by rw [hs9]; exact HPU.out)
                have HV9 := hid (show s9.vars = s.vars by rw [hs9])
                have hres0 := hid (show callF P g0 rest (P.length - k) k s = (.next (bodyF s.choices.length s.vars c.body rest), { s9 with vars := s.vars + c.vars }) by
                  rw [HCU3.out, HN2.out, if_pos hmore, hs9])
                clear hs9 b0 b1 b2 b3 b4 b5 b6 b7 bf q0 q1 q2 q3 q4 q5 qf g00 g01 g02 g03 g04 g05 gf k0 k1 k2 k3 k4 k5 k6 k7 kf gg00 gg01 gg02 gg03 gg04 gg05 ggf r0 r1 r2 r3 r4 r5 rff
                obtain ⟨t9, c9, o9, hsv9, hch9, hta9, hca9, hoa9⟩ := HST9.out
                have HGREST9 := hid (HGREST8.out.move hch9 hta9 hca9 hoa9)
                have HSV9 := hid hsv9
                have HEND := hid (fun (v : Value) (w' : World) (h9 : ∃ t' c' o', SvI base P q g mb g (.slice (some ⟨pb, poff, none⟩) P.length pc) t' c' o' { s9 with vars := s.vars + c.vars } w' ∧ Ch (SM g mb t9 c9 o9) W9 w' ∧ (∀ b, ownB t' = some b → ownB t9 = some b ∨ W9.heap.size ≤ b) ∧ (∀ b, ownB c' = some b → ownB c9 = some b ∨ W9.heap.size ≤ b) ∧ (∀ b, ownB o' = some b → ownB o9 = some b ∨ W9.heap.size ≤ b) ∧ GlsR (SA g mb g t' c' o') w' (bodyF s.choices.length s.vars c.body rest) v) => by
                  obtain ⟨t', c', o', y1, y2, y3, y4, y5, y6⟩ := h9
                  have hs9z := hch9.size
                  have e2 : Ch (SM g mb t8 (.slice ca s.choices.length cc) o1) W8 w' := hch9.trans y2 (sm_up hta9 hca9 hoa9)
                  have e3 : ∀ b, ownB t' = some b → ownB t8 = some b ∨ W8.heap.size ≤ b := fun b hb => (y3 b hb).elim (fun e => hta9 b e) (fun e => .inr (by omega))
                  have e4 : ∀ b, ownB c' = some b → ownB (.slice ca s.choices.length cc) = some b ∨ W8.heap.size ≤ b := fun b hb => (y4 b hb).elim (fun e => hca9 b e) (fun e => .inr (by omega))
                  have e5 : ∀ b, ownB o' = some b → ownB o1 = some b ∨ W8.heap.size ≤ b := fun b hb => (y5 b hb).elim (fun e => hoa9 b e) (fun e => .inr (by omega))
                  have hoz := HCHo.out.size
                  have f2 : Ch (SM g mb (.slice ta s.env.length tc) (.slice ca s.choices.length cc) o1) wo w' := HCHo.out.trans e2 (sm_up HTA8.out (fun b h => .inl h) (fun b h => .inl h))
                  have f3 : ∀ b, ownB t' = some b → ownB (.slice ta s.env.length tc) = some b ∨ wo.heap.size ≤ b := fun b hb => (e3 b hb).elim (fun e => HTA8.out b e) (fun e => .inr (by omega))
                  have f4 : ∀ b, ownB c' = some b → ownB (.slice ca s.choices.length cc) = some b ∨ wo.heap.size ≤ b := fun b hb => (e4 b hb).imp id (fun e => by omega)
                  have f5 : ∀ b, ownB o' = some b → ownB o1 = some b ∨ wo.heap.size ≤ b := fun b hb => (e5 b hb).imp id (fun e => by omega)
                  have hwz := HCH.out.size
                  exact (⟨t', c', o', y1, HCH.out.trans f2 (sm_up HT1.out HC1.out HO1.out), fun b hb => (f3 b hb).elim (fun e => HT1.out b e) (fun e => .inr (by omega)), fun b hb => (f4 b hb).elim (fun e => HC1.out b e) (fun e => .inr (by omega)), fun b hb => (f5 b hb).elim (fun e => HO1.out b e) (fun e => .inr (by omega)), y6⟩ :
                    ∃ t' c' o', SvI base P q g mb g (.slice (some ⟨pb, poff, none⟩) P.length pc) t' c' o' { s9 with vars := s.vars + c.vars } w' ∧ Ch (SM g mb tv cv ov) w w' ∧ (∀ b, ownB t' = some b → ownB tv = some b ∨ w.heap.size ≤ b) ∧ (∀ b, ownB c' = some b → ownB cv = some b ∨ w.heap.size ≤ b) ∧ (∀ b, ownB o' = some b → ownB ov = some b ∨ w.heap.size ≤ b) ∧ GlsR (SA g mb g t' c' o') w' (bodyF s.choices.length s.vars c.body rest) v))
                have hz9 := hch9.size
                have HKB9 := hid ((HCHo.out.keeps (A := fun b => b < base) fun b _ hb e => by have := (HSV.out.sm_lt b e).1; omega).trans (hch9.keeps (A := fun b => b < base) fun b _ hb e => by have := (HSV8.out.sm_lt b e).1; omega))
                have HBRo := hid (show TmsR (fun b => b < base) wo c.body (.slice ba c.body.length bca) by
                  obtain ⟨_, _, _, _, e, -, h1, -⟩ := HR.out
                  simp only [List.cons.injEq, Value.slice.injEq, and_true, true_and] at e
                  obtain ⟨-, rfl, rfl⟩ := e
                  exact h1)
                clear hsv9 hch9 hta9 hca9 hoa9
                go_loopw [6, 16] (fun i6 i16 wi => ∃ (j : Nat) (v : Value), j ≤ c.body.length ∧ i6 = v ∧ i16 = .int .i64 ((j : Int) - 1) ∧ Below W9.heap.size W9 wi ∧ GlsR (SA g mb g t9 c9 o9) wi (bodyF s.choices.length s.vars (c.body.drop j) rest) v) (fun i6 i16 wi => (intOf i16 + 1).toNat)
                case atStart => exact ⟨c.body.length, rv', Nat.le_refl _, rfl, rfl, Below.refl _ _, by rw [List.drop_length]; exact HGREST9.out⟩
                case round =>
                  obtain ⟨j, v, hj, rfl, rfl, hbl, hgl⟩ := hrel
                  have HBL := hid hbl
                  have HGL := hid hgl
                  have hzl := hbl.size
                  obtain ⟨vp, hvp⟩ := hgl.ptr
                  have hsvl := HSV9.out.below hbl
                  have HSVL := hid hsvl
                  have HXL := hid (blk_below HF9.out hbl)
                  obtain ⟨b0, b1, b2, b3, b4, b5, b6, b7, bf⟩ := box8 hsvl.box
                  obtain ⟨q0, q1, q2, q3, q4, q5, qf⟩ := blk6 HXL.out
                  have hgll := hsvl.lt.1
                  have hcbl := blk_lt HXL.out
                  rw [HV9.out] at b4
                  subst hvp
                  clear hbl hgl hsvl
                  by_cases hj0 : j = 0
                  · subst hj0
                    have HGF := hid (show GlsR (SA g mb g t9 c9 o9) wr (bodyF s.choices.length s.vars c.body rest) (.pointer vp) from HGL.out)
                    have hcs := cell_set
                    have hvb : s.vars + c.vars ≤ 1000000 := by have := HVV.out; have := HCV8.out; omega
                    have hvb0 : 0 ≤ s.vars + c.vars := by have := HCV.out; omega
                    have hcv0 : 0 ≤ c.vars := HCV.out
                    have hcv8 : c.vars ≤ 8 := HCV8.out
                    go_wp2_with fail
                    go_still_tail 9, (by kernel_rfl)
                    change wpList _ _ _ _ _ wr.drew
                    have HSVd := hid (HSVL.out.below ((Below.refl _ _).drew))
                    have HGFd := hid (HGF.out.keeps (Keeps.drew _ _))
                    have HBLd := hid (HBL.out.drew)
                    have HXd := hid (box8 HSVd.out.box)
                    generalize wr.drew = Wd at *
                    clear b0 b1 b2 b3 b4 b5 b6 b7 bf q0 q1 q2 q3 q4 q5 qf
                    obtain ⟨b0, b1, b2, b3, b4, b5, b6, b7, bf⟩ := HXd.out
                    go_wp2_with fail
                    go_ret3
                    rw [hres0.out]
                    have hsv := HSVd.out.setVars hvb0 hvb
                    obtain ⟨t', c', o', y1, y2, y3, y4, y5⟩ := hsv
                    have hdz := HBLd.out.size
                    obtain ⟨t', c', o', z1, z2, z3, z4, z5, z6⟩ := HEND.out (.pointer vp) (Wd.setCell ⟨g, 4, none⟩ (.int .i64 (s.vars + c.vars))) ⟨t', c', o', y1, (Ch.of_below (M := SM g mb t9 c9 o9) HBLd.out).trans y2 (fun b h => .inl h), fun b hb => (y3 b hb).imp id (fun e => by omega), fun b hb => (y4 b hb).imp id (fun e => by omega), fun b hb => (y5 b hb).imp id (fun e => by omega), HGFd.out.move y2 y3 y4 y5⟩
                    exact ⟨_, rfl, t', c', o', z1, z2, z3, z4, z5, _, rfl, z6⟩
                  · obtain ⟨jj, rfl⟩ : ∃ jj, j = jj + 1 := ⟨j - 1, by omega⟩
                    rw [show (((jj + 1 : Nat) : Int) - 1) = (jj : Int) by omega]
                    have hjl : jj < c.body.length := by omega
                    obtain ⟨_, _, bb, boff, e, -, -, -, hba, hbe⟩ := SlR.at HBRo.out
                    simp only [Value.slice.injEq, true_and] at e
                    obtain ⟨rfl, rfl⟩ := e
                    obtain ⟨rfl, hbb⟩ := hba (by omega)
                    have hkb : Keeps (fun b => b < base) wo wr := HKB9.out.trans (Keeps.of_below HBL.out)
                    obtain ⟨sa, sc, e0, e1, e2, e3, hre⟩ := tm_cells hbe hbb hkb hjl
                    have HRE := hid hre
                    have hjj0 : (0 : Int) ≤ (jj : Int) := Int.natCast_nonneg _
                    have hjj1 : (jj : Int) < (c.body.length : Int) := by omega
                    have hbbl : bb < wr.heap.size := World.block_lt_of_cell? wr _ e0
                    clear hba hbe hkb hre hj0
                    go_wp2_with fail
                    refine wp_region_F (F := fun _ w' => Below wr.drew.heap.size wr.drew w') (by kernel_rfl) ?_
                    have HF : Below wr.drew.heap.size wr.drew wr.drew := Below.refl _ _
                    refine wpAnyF_take (i := 0) (v := ?_) rfl (by kernel_rfl) (by kernel_rfl) (by kernel_rfl) (fun _ _ _ h => h) (Or.inl ⟨by rfl, ?_⟩) HF ?_
                    rotate_left
                    · (intro w' hw; clear hw; go_simp <;> with_reducible rfl)
                    try simp only [Act.put, List.setIfInBounds_toArray, List.set_cons_zero, List.set_cons_succ]
                    refine wpAnyF_take (i := 1) (v := ?_) rfl (by kernel_rfl) (by kernel_rfl) (by kernel_rfl) (fun _ _ _ h => h) (Or.inl ⟨by rfl, ?_⟩) HF ?_
                    rotate_left
                    · (intro w' hw; have f4 := (hw.cell (p := ⟨cb, 4, none⟩) (by simp only [World.size_drew]; omega)).trans q4; clear hw; go_simp <;> with_reducible rfl)
                    try simp only [Act.put, List.setIfInBounds_toArray, List.set_cons_zero, List.set_cons_succ]
                    refine wpAnyF_take (i := 2) (v := ?_) rfl (by kernel_rfl) (by kernel_rfl) (by kernel_rfl) (fun _ _ _ h => h) (Or.inl ⟨by rfl, ?_⟩) HF ?_
                    rotate_left
                    · (intro w' hw; clear hw; go_simp <;> with_reducible rfl)
                    try simp only [Act.put, List.setIfInBounds_toArray, List.set_cons_zero, List.set_cons_succ]
                    refine wpAnyF_take (i := 3) (v := ?_) rfl (by kernel_rfl) (by kernel_rfl) (by kernel_rfl) (fun _ _ _ h => h) (Or.inl ⟨by rfl, ?_⟩) HF ?_
                    rotate_left
                    · (intro w' hw; clear hw; go_simp <;> with_reducible rfl)
                    try simp only [Act.put, List.setIfInBounds_toArray, List.set_cons_zero, List.set_cons_succ]
                    refine wpAnyF_take (i := 4) (v := .agg #[.int .i64 c.body[jj].kind, .int .i64 c.body[jj].n, .string c.body[jj].s, .slice sa c.body[jj].args.length sc]) rfl (by kernel_rfl) (by kernel_rfl) (by kernel_rfl) (fun _ _ _ h => h) (Or.inl ⟨by rfl, ?_⟩) HF ?_
                    · (intro w' hw; have f0 := (hw.cell (p := ⟨bb, boff + jj * 4, none⟩) (by simp only [World.size_drew]; omega)).trans e0; have f1 := (hw.cell (p := ⟨bb, boff + jj * 4 + 1, none⟩) (by simp only [World.size_drew]; omega)).trans e1; have f2 := (hw.cell (p := ⟨bb, boff + jj * 4 + 2, none⟩) (by simp only [World.size_drew]; omega)).trans e2; have f3 := (hw.cell (p := ⟨bb, boff + jj * 4 + 3, none⟩) (by simp only [World.size_drew]; omega)).trans e3; clear hw; go_simp)
                    try simp only [Act.put, List.setIfInBounds_toArray, List.set_cons_zero, List.set_cons_succ]
                    refine wpAnyF_take (i := 5) (v := ?_) rfl (by kernel_rfl) (by kernel_rfl) (by kernel_rfl) (fun _ _ _ h => h) (Or.inl ⟨by rfl, ?_⟩) HF ?_
                    rotate_left
                    · (intro w' hw; clear hw; go_simp <;> with_reducible rfl)
                    try simp only [Act.put, List.setIfInBounds_toArray, List.set_cons_zero, List.set_cons_succ]
                    refine wpAnyF_take (i := 6) (v := ?_) rfl (by kernel_rfl) (by kernel_rfl) (by kernel_rfl) (fun _ _ _ h => h) (Or.inl ⟨by rfl, ?_⟩) HF ?_
                    rotate_left
                    · (intro w' hw; clear hw; go_simp <;> with_reducible rfl)
                    try simp only [Act.put, List.setIfInBounds_toArray, List.set_cons_zero, List.set_cons_succ]
                    refine wpAnyF_take (i := 7) (v := ?_) rfl (by kernel_rfl) (by kernel_rfl) (by kernel_rfl) (fun _ _ _ h => h) (Or.inl ⟨by rfl, ?_⟩) HF ?_
                    rotate_left
                    · (intro w' hw; clear hw; go_simp <;> with_reducible rfl)
                    try simp only [Act.put, List.setIfInBounds_toArray, List.set_cons_zero, List.set_cons_succ]
                    refine wpAnyF_take (i := 8) (v := ?_) rfl (by kernel_rfl) (by kernel_rfl) (by kernel_rfl) (fun _ _ _ h => h) (Or.inl ⟨by rfl, ?_⟩) HF ?_
                    rotate_left
                    · (intro w' hw; have f4 := (hw.cell (p := ⟨g, 4, none⟩) (by simp only [World.size_drew]; omega)).trans b4; clear hw; go_simp <;> with_reducible rfl)
                    try simp only [Act.put, List.setIfInBounds_toArray, List.set_cons_zero, List.set_cons_succ]
                    refine wpAnyF_take (i := 10) (v := ?_) rfl (by kernel_rfl) (by kernel_rfl) (by kernel_rfl) (fun _ _ _ h => h) (Or.inl ⟨by rfl, ?_⟩) HF ?_
                    rotate_left
                    · (intro w' hw; clear hw; go_simp <;> with_reducible rfl)
                    try simp only [Act.put, List.setIfInBounds_toArray, List.set_cons_zero, List.set_cons_succ]
                    refine wpAnyF_take (i := 11) (v := ?_) rfl (by kernel_rfl) (by kernel_rfl) (by kernel_rfl) (fun _ _ _ h => h) (Or.inl ⟨by rfl, ?_⟩) HF ?_
                    rotate_left
                    · (intro w' hw; clear hw; go_simp <;> with_reducible rfl)
                    try simp only [Act.put, List.setIfInBounds_toArray, List.set_cons_zero, List.set_cons_succ]
                    refine wpAnyF_one (i := 9) (by kernel_rfl) (wpOp_run rfl (by rfl) ?_)
                    go_simp
                    refine (shift_ok c.body[jj] s.vars _ _ _ HVS.out (Tm.rep_lasts.1 _ _ _ _ _ HRE.out (Keeps.drew _ _))).mono ?_
                    rintro e W10 ⟨r, rfl, hb10, us10, rfl, hsr10⟩
                    have HB10 := hid (show Below wr.heap.size wr W10 from ((Below.refl _ wr).drew).trans hb10)
                    have HS10 := hid hsr10
                    obtain ⟨xa10, xc10, rfl, -⟩ := Tm.rep4 hsr10
                    have hz10 := HB10.out.size
                    have HD10 := hid (show Below wr.drew.heap.size wr.drew W10 from hb10)
                    clear hb10 hsr10 b0 b1 b2 b3 b4 b5 b6 b7 bf q0 q1 q2 q3 q4 q5 qf e0 e1 e2 e3
                    refine ⟨fun _ _ _ => HD10.out, ?_⟩
                    refine wpAnyF_one (i := 12) (by kernel_rfl) (wpOp_run rfl (by rfl) ?_)
                    go_simp
                    refine ⟨fun _ _ _ => HD10.out, ?_⟩
                    refine wpAnyF_one (i := 13) (by kernel_rfl) (wpOp_run rfl (by rfl) ?_)
                    go_simp
                    refine ⟨fun _ _ h => h.alloc hz10 _, ?_⟩
                    refine wpAnyF_one (i := 14) (by kernel_rfl) (wpOp_run rfl (by rfl) ?_)
                    go_simp
                    refine ⟨fun _ _ h => h, ?_⟩
                    refine wpAnyF_done (by kernel_rfl) ?_ _
                    go_wp2_with fail
                    go_roundw
                    case rel =>
                      have hbz : Below W9.heap.size W9 W10 := HBL.out.trans (HB10.out.mono hzl)
                      refine ⟨jj, _, by omega, rfl, by go_num, hbz.alloc (by omega) _, ?_⟩
                      rw [show c.body.drop jj = c.body[jj] :: c.body.drop (jj + 1) from List.drop_eq_getElem_cons hjl]
                      have hs10 := (HSVL.out.below HB10.out).sm_lt
                      have hsl := HSVL.out.sm_lt
                      refine ⟨W10.heap.size, xa10, xc10, .pointer vp, rfl, ⟨fun hs => by have := (hs10 _ hs).2; omega, fun e => by have := (HSVL.out.lt).1; omega⟩, blk_new _ _, ?_, ?_⟩
                      · exact Tm.rep_lasts.1 _ _ _ _ _ (Tm.rep_lasts.2.1 _ _ _ _ _ HS10.out fun b _ hb => by
                          have hb' : wr.heap.size ≤ b := hb
                          exact ⟨fun hs => by have := (hsl b hs).2; omega, fun e => by omega⟩) (Keeps.alloc _ _ _)
                      · exact (HGL.out.keeps (Keeps.of_below HB10.out)).keeps (Keeps.alloc _ _ _)
                    case measure => simp [intOf]
              · exact absurd hml hmore
        · have hmle : m = P.length := by omega
          have HN2 := hid (show nextF P g0.t (P.length - (kk + 1)) (kk + 1) = m by rw [HNX.out, hmle, Nat.sub_self]; rfl)
          have hmd : decide ((m : Int) < (P.length : Int)) = false := by simp; omega
          have hmd' : ¬ (m : Int) < (P.length : Int) := by omega
          clear hmle
          go_wp2_with fail
          go_quiet (fail)
          have HB5 := hid (show Below W3.heap.size W3 (wr.drewN nq) from ⟨HBI.out.os, HBI.out.tape, HBI.out.output, HBI.out.size, HBI.out.block⟩)
          generalize wr.drewN nq = W5 at *
          clear b0 b1 b2 b3 b4 b5 b6 b7 bf g00 g01 g02 g03 g04 g05 gf
          -- behind the search for the next clause: the world is W5
          have HBo5 := hid (show Below wo.heap.size wo W5 from HBw3.out.trans (HB5.out.mono hz3))
          have HSV5 := hid (HSV3.out.below HB5.out)
          have HGB5 := hid (blk_below HGB3.out HB5.out)
          have HX5 := hid (blk_below HX3.out HB5.out)
          have hz5 := HBo5.out.size
          obtain ⟨_, _, ta, tc, ca', cc', _, _, _, htv, hcv', _, -, -, htl1, htl2, -⟩ := HSV5.out.vals
          subst htv
          unfold maxLen at htl2
          obtain ⟨b0, b1, b2, b3, b4, b5, b6, b7, bf⟩ := box8 HSV5.out.box
          go_wp2_with fail
          obtain ⟨W6, hW6⟩ : ∃ W6, W6 = W5.alloc (.cells #[.int .i64 400] 3) := ⟨_, rfl⟩
          obtain ⟨xb, hxb⟩ : ∃ xb, xb = W5.heap.size := ⟨_, rfl⟩
          have HSV6 := hid (show SvI base P q g mb xb _ _ _ _ s W6 by rw [hxb, hW6]; exact HSV5.out.leave _)
          have HWK6 := hid (show WkAt xb 400 W6 by rw [hxb, hW6]; exact blk_new _ _)
          have HB6 := hid (show Below W5.heap.size W5 W6 by rw [hW6]; exact (Below.refl _ _).alloc (Nat.le_refl _) _)
          have hxo : wo.heap.size ≤ xb := by omega
          have hx6 : xb < W6.heap.size := blk_lt HWK6.out
          have hcx : cb < xb := by rw [hxb]; exact blk_lt HX5.out
          have hgx : gb < xb := by rw [hxb]; exact blk_lt HGB5.out
          have hggx : g < xb := by rw [hxb]; exact HSV5.out.lt.1
          have HXB := hid hxb
          rw [← hW6, ← hxb]
          clear hW6 hxb b0 b1 b2 b3 b4 b5 b6 b7 bf
          have HBo6 := hid (HBo5.out.trans (HB6.out.mono hz5))
          have HGB6 := hid (blk_below HGB5.out HB6.out)
          have HX6 := hid (blk_below HX5.out HB6.out)
          have hz6 := HB6.out.size
          go_wp2_with fail
          refine wp_region_F (F := fun _ w' => w'.heap[cb]? = some (.cells #[.int .i64 c.head.kind, .int .i64 c.head.n, .string c.head.s, .slice ha c.head.args.length hca, .slice ba c.body.length bca, .int .i64 c.vars] 39 (0, 0)) ∧ w'.cell? ⟨g, 4, none⟩ = some (.int .i64 s.vars) ∧ w'.heap[gb]? = some (.cells #[.int .i64 g0.t.kind, .int .i64 g0.t.n, .string g0.t.s, .slice ga' g0.t.args.length gcap', .int .i64 (g0.bar : Int), rv'] 88 (0, 0))) (by kernel_rfl) ?_
          have HF : W6.drew.heap[cb]? = some (.cells #[.int .i64 c.head.kind, .int .i64 c.head.n, .string c.head.s, .slice ha c.head.args.length hca, .slice ba c.body.length bca, .int .i64 c.vars] 39 (0, 0)) ∧ W6.drew.cell? ⟨g, 4, none⟩ = some (.int .i64 s.vars) ∧ W6.drew.heap[gb]? = some (.cells #[.int .i64 g0.t.kind, .int .i64 g0.t.n, .string g0.t.s, .slice ga' g0.t.args.length gcap', .int .i64 (g0.bar : Int), rv'] 88 (0, 0)) := ⟨HX6.out, (box8 (show W6.drew.heap[g]? = _ from HSV6.out.box)).2.2.2.2.1, HGB6.out⟩
          refine wpAnyF_take (i := 0) (v := ?_) rfl (by kernel_rfl) (by kernel_rfl) (by kernel_rfl) (fun _ _ _ h => h) (Or.inl ⟨by rfl, ?_⟩) HF ?_
          rotate_left
          · (intro w' hw; clear hw; go_simp <;> with_reducible rfl)
          try simp only [Act.put, List.setIfInBounds_toArray, List.set_cons_zero, List.set_cons_succ]
          refine wpAnyF_take (i := 1) (v := ?_) rfl (by kernel_rfl) (by kernel_rfl) (by kernel_rfl) (fun _ _ _ h => h) (Or.inl ⟨by rfl, ?_⟩) HF ?_
          rotate_left
          · (intro w' hw; clear hw; go_simp <;> with_reducible rfl)
          try simp only [Act.put, List.setIfInBounds_toArray, List.set_cons_zero, List.set_cons_succ]
          refine wpAnyF_take (i := 2) (v := .agg #[.int .i64 c.head.kind, .int .i64 c.head.n, .string c.head.s, .slice ha c.head.args.length hca]) rfl (by kernel_rfl) (by kernel_rfl) (by kernel_rfl) (fun _ _ _ h => h) (Or.inl ⟨by rfl, ?_⟩) HF ?_
          · (intro w' hw; obtain ⟨f0, f1, f2, f3, f4, f5, -⟩ := blk6 hw.1; clear hw; go_simp)
          try simp only [Act.put, List.setIfInBounds_toArray, List.set_cons_zero, List.set_cons_succ]
          refine wpAnyF_take (i := 3) (v := ?_) rfl (by kernel_rfl) (by kernel_rfl) (by kernel_rfl) (fun _ _ _ h => h) (Or.inl ⟨by rfl, ?_⟩) HF ?_
          rotate_left
          · (intro w' hw; clear hw; go_simp <;> with_reducible rfl)
          try simp only [Act.put, List.setIfInBounds_toArray, List.set_cons_zero, List.set_cons_succ]
          refine wpAnyF_take (i := 4) (v := ?_) rfl (by kernel_rfl) (by kernel_rfl) (by kernel_rfl) (fun _ _ _ h => h) (Or.inl ⟨by rfl, ?_⟩) HF ?_
          rotate_left
          · (intro w' hw; clear hw; go_simp <;> with_reducible rfl)
          try simp only [Act.put, List.setIfInBounds_toArray, List.set_cons_zero, List.set_cons_succ]
          refine wpAnyF_take (i := 5) (v := ?_) rfl (by kernel_rfl) (by kernel_rfl) (by kernel_rfl) (fun _ _ _ h => h) (Or.inl ⟨by rfl, ?_⟩) HF ?_
          rotate_left
          · (intro w' hw; clear hw; go_simp <;> with_reducible rfl)
          try simp only [Act.put, List.setIfInBounds_toArray, List.set_cons_zero, List.set_cons_succ]
          refine wpAnyF_take (i := 6) (v := ?_) rfl (by kernel_rfl) (by kernel_rfl) (by kernel_rfl) (fun _ _ _ h => h) (Or.inl ⟨by rfl, ?_⟩) HF ?_
          rotate_left
          · (intro w' hw; have f4 := hw.2.1; clear hw; go_simp <;> with_reducible rfl)
          try simp only [Act.put, List.setIfInBounds_toArray, List.set_cons_zero, List.set_cons_succ]
          refine wpAnyF_take (i := 8) (v := ?_) rfl (by kernel_rfl) (by kernel_rfl) (by kernel_rfl) (fun _ _ _ h => h) (Or.inl ⟨by rfl, ?_⟩) HF ?_
          rotate_left
          · (intro w' hw; clear hw; go_simp <;> with_reducible rfl)
          try simp only [Act.put, List.setIfInBounds_toArray, List.set_cons_zero, List.set_cons_succ]
          refine wpAnyF_take (i := 9) (v := ?_) rfl (by kernel_rfl) (by kernel_rfl) (by kernel_rfl) (fun _ _ _ h => h) (Or.inl ⟨by rfl, ?_⟩) HF ?_
          rotate_left
          · (intro w' hw; clear hw; go_simp <;> with_reducible rfl)
          try simp only [Act.put, List.setIfInBounds_toArray, List.set_cons_zero, List.set_cons_succ]
          refine wpAnyF_take (i := 10) (v := ?_) rfl (by kernel_rfl) (by kernel_rfl) (by kernel_rfl) (fun _ _ _ h => h) (Or.inl ⟨by rfl, ?_⟩) HF ?_
          rotate_left
          · (intro w' hw; clear hw; go_simp <;> with_reducible rfl)
          try simp only [Act.put, List.setIfInBounds_toArray, List.set_cons_zero, List.set_cons_succ]
          refine wpAnyF_take (i := 11) (v := .agg #[.int .i64 g0.t.kind, .int .i64 g0.t.n, .string g0.t.s, .slice ga' g0.t.args.length gcap']) rfl (by kernel_rfl) (by kernel_rfl) (by kernel_rfl) (fun _ _ _ h => h) (Or.inl ⟨by rfl, ?_⟩) HF ?_
          · (intro w' hw; obtain ⟨f0, f1, f2, f3, f4, f5, -⟩ := blk6 hw.2.2; clear hw; go_simp)
          try simp only [Act.put, List.setIfInBounds_toArray, List.set_cons_zero, List.set_cons_succ]
          refine wpAnyF_one (i := 7) (by kernel_rfl) (wpOp_run rfl (by rfl) ?_)
          go_simp
          have HVS := hid (show I64 s.vars by have := HVV.out; unfold I64; omega)
          have HHR6 := hid (Tm.rep_lasts.1 _ _ _ _ _ HHR.out ((((Keeps.of_below HB3.out).trans (Keeps.of_below HB5.out)).trans (Keeps.of_below HB6.out)).trans (Keeps.drew _ _)))
          refine (shift_ok c.head s.vars _ _ _ HVS.out HHR6.out).mono ?_
          rintro e W7 ⟨r, rfl, hb7, us, rfl, hsr⟩
          have HB7 := hid (show Below W6.heap.size W6 W7 from ((Below.refl _ W6).drew).trans hb7)
          have HSR := hid hsr
          obtain ⟨sha, shc, rfl, -⟩ := Tm.rep4 hsr
          have HSV7 := hid (HSV6.out.below HB7.out)
          have HWK7 := hid (show WkAt xb 400 W7 from blk_below HWK6.out HB7.out)
          have HX7 := hid (blk_below HX6.out HB7.out)
          have HGB7 := hid (blk_below HGB6.out HB7.out)
          have hz7 := HB7.out.size
          have hF7 := hid (show W7.heap[cb]? = some (.cells #[.int .i64 c.head.kind, .int .i64 c.head.n, .string c.head.s, .slice ha c.head.args.length hca, .slice ba c.body.length bca, .int .i64 c.vars] 39 (0, 0)) ∧ W7.cell? ⟨g, 4, none⟩ = some (.int .i64 s.vars) ∧ W7.heap[gb]? = some (.cells #[.int .i64 g0.t.kind, .int .i64 g0.t.n, .string g0.t.s, .slice ga' g0.t.args.length gcap', .int .i64 (g0.bar : Int), rv'] 88 (0, 0)) from ⟨HX7.out, (box8 HSV7.out.box).2.2.2.2.1, HGB7.out⟩)
          clear hb7 hsr HF
          refine ⟨fun _ _ _ => hF7.out, ?_⟩
          refine wpAnyF_one (i := 12) (by kernel_rfl) (wpOp_run rfl (by rfl) ?_)
          go_simp
          have HCV := hid HCG.out.1.1
          have HCV8 := hid HCG.out.1.2.1
          have HAI := hid (show (shiftF c.head s.vars).In (s.vars + c.vars) from shiftF_in HCG.out.2.2.1.1 HCV8.out hv0 (by have := HVV.out; omega))
          have HBI2 := hid (show g0.t.In (s.vars + c.vars) from (HGO.out g0 (by simp)).1.mono (by have := HCV.out; omega))
          have HEI := hid (HE.out.mono (N' := s.vars + c.vars) (by have := HCV.out; omega))
          have HRA := hid (show Tm.rep (SA g mb xb (.slice ta s.env.length tc) (.slice ca s.choices.length cc) o1) W7 (shiftF c.head s.vars) _ from Tm.rep_lasts.2.1 _ _ _ _ _ HSR.out fun b _ hb => by
            have hb' : W6.heap.size ≤ b := hb
            exact ⟨fun hs => by have := (HSV6.out.sm_lt b hs).2; omega, by omega⟩)
          have HRB := hid (Tm.rep_lasts.1 _ _ _ _ _ (Tm.rep_lasts.2.1 _ (SA g mb xb (.slice ta s.env.length tc) (.slice ca s.choices.length cc) o1) _ _ _ HGR.out fun b hb h => ⟨h.1, by omega⟩) (((Keeps.of_below HBo6.out)).trans (Keeps.of_below HB7.out)))
          refine (sunify_ok (by omega) 400 (Nat.le_refl _) (.slice ta s.env.length tc) s (shiftF c.head s.vars) g0.t W7 _ _ HSV7.out HWK7.out HEI.out HAI.out HBI2.out HRA.out HRB.out (by have := HLEN'.out; omega)).mono ?_
          rintro e W8 ⟨rfl, ⟨t8, hsv8, hch8, hta8⟩, hwk8⟩
          have HUE := hid (uniS_env (N := s.vars + c.vars) 400 [(shiftF c.head s.vars, g0.t)] s.env HEI.out (by
            intro p hp
            simp only [List.mem_singleton] at hp
            subst hp
            exact ⟨HAI.out, HBI2.out⟩))
          have hF8 := hid (show W8.heap[cb]? = some (.cells #[.int .i64 c.head.kind, .int .i64 c.head.n, .string c.head.s, .slice ha c.head.args.length hca, .slice ba c.body.length bca, .int .i64 c.vars] 39 (0, 0)) ∧ W8.cell? ⟨g, 4, none⟩ = some (.int .i64 s.vars) ∧ W8.heap[gb]? = some (.cells #[.int .i64 g0.t.kind, .int .i64 g0.t.n, .string g0.t.s, .slice ga' g0.t.args.length gcap', .int .i64 (g0.bar : Int), rv'] 88 (0, 0)) from
            ⟨(hch8.block cb (by omega) (fun e => e.elim (HSV7.out.ty_free HX7.out (by decide) (by decide) (by decide) (by decide)) (fun e => by omega))).trans HX7.out, (box8 hsv8.box).2.2.2.2.1,
              (hch8.block gb (by omega) (fun e => e.elim (HSV7.out.ty_free HGB7.out (by decide) (by decide) (by decide) (by decide)) (fun e => by omega))).trans HGB7.out⟩)
          refine ⟨fun _ _ _ => hF8.out, ?_⟩
          refine wpAnyF_one (i := 13) (by kernel_rfl) (wpOp_run rfl (by rfl) ?_)
          go_simp
          refine ⟨fun _ _ h => h, ?_⟩
          refine wpAnyF_done (by kernel_rfl) ?_ _
          obtain ⟨u, hu⟩ : ∃ u, u = uniS 400 [(shiftF c.head s.vars, g0.t)] s.env := ⟨_, rfl⟩
          have HCN' := HCN.out
          try simp only at HCN'
          rw [← hu] at HCN' hsv8 hwk8 HUE ⊢
          have HCU := hid HCN'
          have HWK8 := hid hwk8
          have hz8 := hch8.size
          have HCHo := hid (show Ch (SM g mb (.slice ta s.env.length tc) (.slice ca s.choices.length cc) o1) wo W8 from (Ch.of_below (M := SM g mb (.slice ta s.env.length tc) (.slice ca s.choices.length cc) o1) (HBo6.out.trans (HB7.out.mono (by omega)))).trans hch8 (fun b hb => hb.elim .inl (fun e => .inr (by omega))))
          have HTA8 := hid (show ∀ b, ownB t8 = some b → ownB (.slice ta s.env.length tc) = some b ∨ wo.heap.size ≤ b from fun b hb => (hta8 b hb).imp id (fun e => by omega))
          have HSV8 := hid hsv8.take_in
          have hxg : xb ≠ g := by omega
          obtain ⟨uo, ue, uw⟩ := u
          obtain ⟨w0, wf, wl⟩ := hwk8.cell
          have HSTEP := hid (fun (s' : Sv) (w' : World) (hh : SStep base P q g mb (.slice (some ⟨pb, poff, none⟩) P.length pc) t8 (.slice ca s.choices.length cc) o1 s' W8 w') =>
            (SStep.trans HCH.out HT1.out HC1.out HO1.out (SStep.trans HCHo.out HTA8.out (fun b h => .inl h) (fun b h => .inl h) hh) : SStep base P q g mb (.slice (some ⟨pb, poff, none⟩) P.length pc) tv cv ov s' w w'))
          clear hsv8 hwk8 hch8 hta8 hu HCN'
          simp only at w0
          by_cases huw : uw < 0
          · have hres := hid (show callF P g0 rest (P.length - k) k s = (.off, { s with env := ue }.put 4) by rw [HCU.out, if_pos huw])
            go_wp2_with fail
            refine (send_ok 4 (by unfold I64; omega) HSV8.out HOUT.out).mono ?_
            rintro e W9 ⟨rfl, hst⟩
            have HST := hid hst
            clear hst
            go_wp2_with fail
            go_ret3
            rw [hres.out]
            obtain ⟨t', c', o', z1, z2, z3, z4, z5⟩ := HSTEP.out _ _ HST.out
            exact ⟨_, rfl, t', c', o', z1, z2, z3, z4, z5, _, rfl⟩
          have HNU := hid huw
          have hun : decide (uw < 0) = false := by simpa using huw
          have HCU2 := hid (HCU.out.trans (if_neg huw))
          clear huw
          cases uo with
          | false =>
            have hcf := hid (show callF P g0 rest (P.length - k) k s = callF P g0 rest (P.length - (kk + 1)) (kk + 1) s by rw [HCU2.out, if_pos rfl])
            go_wp2_with fail
            have HUN := hid (sundo_ok s.env.length HSV8.out (by obtain ⟨_, F, e, _⟩ := HUE.out; have e' : ue = s.env ++ F := e; show s.env.length ≤ ue.length; rw [e']; simp) HUE.out.1.nodup)
            refine (HUN.out).mono ?_
            rintro e W9 ⟨r, rfl, hst⟩
            have HST := hid (show SStep base P q g mb (.slice (some ⟨pb, poff, none⟩) P.length pc) t8 (.slice ca s.choices.length cc) o1 s W8 W9 by
              have e : ({ s with env := ue.take s.env.length } : Sv) = s := by
                obtain ⟨_, F, e, _⟩ := HUE.out
                have e' : ue = s.env ++ F := e
                rw [e', List.take_left]
              rw [← e]
              exact hst)
            clear hst HUN
            go_wp2_with fail
            go_roundw
            case rel =>
              obtain ⟨t', c', o', z1, z2, z3, z4, z5⟩ := HSTEP.out _ _ HST.out
              exact ⟨kk + 1, t', c', o', by omega, by omega, by go_num, z1, z2, z3, z4, z5, hcf.out⟩
            case measure => simp [intOf]; omega
          | true =>
            have HCU3 := hid (HCU2.out.trans (if_neg (by simp)))
            have HBX8 := hid HSV8.out.box
            obtain ⟨b0, b1, b2, b3, b4, b5, b6, b7, bf⟩ := box8 HSV8.out.box
            obtain ⟨q0, q1, q2, q3, q4, q5, qf⟩ := blk6 hF8.out.1
            obtain ⟨g00, g01, g02, g03, g04, g05, gf⟩ := blk6 hF8.out.2.2
            have hbl5 : (c.body.length : Int) ≤ 5 := by have := HCG.out.1.2.2.1; omega
            have hbl0 : (0 : Int) ≤ (c.body.length : Int) := Int.natCast_nonneg _
            have hbar : (s.choices.length : Int) ≤ 900 := by have := HFEW.out; omega
            have HGREST8 := hid (show GlsR (SA g mb g t8 (.slice ca s.choices.length cc) o1) W8 rest rv' from HGREST.out.move HCHo.out HTA8.out (fun b h => .inl h) (fun b h => .inl h))
            by_cases hmore : m < P.length
            · exact absurd hmore hml
            · have hmi : decide ((m : Int) < (P.length : Int)) = false := decide_eq_false (by omega)
              have hmi2 : (P.length : Int) ≤ (m : Int) := by omega
              go_wp2_with fail
              obtain ⟨W9, hW9⟩ : ∃ W9, W9 = W8 := ⟨_, rfl⟩
              obtain ⟨s9, hs9⟩ : ∃ s9 : Sv, s9 = { s with env := ue } := ⟨_, rfl⟩
              have HF9 := hid ((congrArg (fun W : World => W.heap[cb]?) hW9).trans hF8.out.1)
              have HST9 := hid (show SStep base P q g mb (.slice (some ⟨pb, poff, none⟩) P.length pc) t8 (.slice ca s.choices.length cc) o1 s9 W8 W9 by rw [hs9, hW9]; exact SStep.refl HSV8.out)
              have HV9 := hid (show s9.vars = s.vars by rw [hs9])
              have hres0 := hid (show callF P g0 rest (P.length - k) k s = (.next (bodyF s.choices.length s.vars c.body rest), { s9 with vars := s.vars + c.vars }) by
                rw [HCU3.out, HN2.out, if_neg hmore, hs9])
              rw [← hW9]
              clear hs9 hW9 b0 b1 b2 b3 b4 b5 b6 b7 bf q0 q1 q2 q3 q4 q5 qf g00 g01 g02 g03 g04 g05 gf
              obtain ⟨t9, c9, o9, hsv9, hch9, hta9, hca9, hoa9⟩ := HST9.out
              have HGREST9 := hid (HGREST8.out.move hch9 hta9 hca9 hoa9)
              have HSV9 := hid hsv9
              have HEND := hid (fun (v : Value) (w' : World) (h9 : ∃ t' c' o', SvI base P q g mb g (.slice (some ⟨pb, poff, none⟩) P.length pc) t' c' o' { s9 with vars := s.vars + c.vars } w' ∧ Ch (SM g mb t9 c9 o9) W9 w' ∧ (∀ b, ownB t' = some b → ownB t9 = some b ∨ W9.heap.size ≤ b) ∧ (∀ b, ownB c' = some b → ownB c9 = some b ∨ W9.heap.size ≤ b) ∧ (∀ b, ownB o' = some b → ownB o9 = some b ∨ W9.heap.size ≤ b) ∧ GlsR (SA g mb g t' c' o') w' (bodyF s.choices.length s.vars c.body rest) v) => by
                obtain ⟨t', c', o', y1, y2, y3, y4, y5, y6⟩ := h9
                have hs9z := hch9.size
                have e2 : Ch (SM g mb t8 (.slice ca s.choices.length cc) o1) W8 w' := hch9.trans y2 (sm_up hta9 hca9 hoa9)
                have e3 : ∀ b, ownB t' = some b → ownB t8 = some b ∨ W8.heap.size ≤ b := fun b hb => (y3 b hb).elim (fun e => hta9 b e) (fun e => .inr (by omega))
                have e4 : ∀ b, ownB c' = some b → ownB (.slice ca s.choices.length cc) = some b ∨ W8.heap.size ≤ b := fun b hb => (y4 b hb).elim (fun e => hca9 b e) (fun e => .inr (by omega))
                have e5 : ∀ b, ownB o' = some b → ownB o1 = some b ∨ W8.heap.size ≤ b := fun b hb => (y5 b hb).elim (fun e => hoa9 b e) (fun e => .inr (by omega))
                have hoz := HCHo.out.size
                have f2 : Ch (SM g mb (.slice ta s.env.length tc) (.slice ca s.choices.length cc) o1) wo w' := HCHo.out.trans e2 (sm_up HTA8.out (fun b h => .inl h) (fun b h => .inl h))
                have f3 : ∀ b, ownB t' = some b → ownB (.slice ta s.env.length tc) = some b ∨ wo.heap.size ≤ b := fun b hb => (e3 b hb).elim (fun e => HTA8.out b e) (fun e => .inr (by omega))
                have f4 : ∀ b, ownB c' = some b → ownB (.slice ca s.choices.length cc) = some b ∨ wo.heap.size ≤ b := fun b hb => (e4 b hb).imp id (fun e => by omega)
                have f5 : ∀ b, ownB o' = some b → ownB o1 = some b ∨ wo.heap.size ≤ b := fun b hb => (e5 b hb).imp id (fun e => by omega)
                have hwz := HCH.out.size
                exact (⟨t', c', o', y1, HCH.out.trans f2 (sm_up HT1.out HC1.out HO1.out), fun b hb => (f3 b hb).elim (fun e => HT1.out b e) (fun e => .inr (by omega)), fun b hb => (f4 b hb).elim (fun e => HC1.out b e) (fun e => .inr (by omega)), fun b hb => (f5 b hb).elim (fun e => HO1.out b e) (fun e => .inr (by omega)), y6⟩ :
                  ∃ t' c' o', SvI base P q g mb g (.slice (some ⟨pb, poff, none⟩) P.length pc) t' c' o' { s9 with vars := s.vars + c.vars } w' ∧ Ch (SM g mb tv cv ov) w w' ∧ (∀ b, ownB t' = some b → ownB tv = some b ∨ w.heap.size ≤ b) ∧ (∀ b, ownB c' = some b → ownB cv = some b ∨ w.heap.size ≤ b) ∧ (∀ b, ownB o' = some b → ownB ov = some b ∨ w.heap.size ≤ b) ∧ GlsR (SA g mb g t' c' o') w' (bodyF s.choices.length s.vars c.body rest) v))
              have hz9 := hch9.size
              have HKB9 := hid ((HCHo.out.keeps (A := fun b => b < base) fun b _ hb e => by have := (HSV.out.sm_lt b e).1; omega).trans (hch9.keeps (A := fun b => b < base) fun b _ hb e => by have := (HSV8.out.sm_lt b e).1; omega))
              have HBRo := hid (show TmsR (fun b => b < base) wo c.body (.slice ba c.body.length bca) by
                obtain ⟨_, _, _, _, e, -, h1, -⟩ := HR.out
                simp only [List.cons.injEq, Value.slice.injEq, and_true, true_and] at e
                obtain ⟨-, rfl, rfl⟩ := e
                exact h1)
              clear hsv9 hch9 hta9 hca9 hoa9
              go_loopw [6, 16] (fun i6 i16 wi => ∃ (j : Nat) (v : Value), j ≤ c.body.length ∧ i6 = v ∧ i16 = .int .i64 ((j : Int) - 1) ∧ Below W9.heap.size W9 wi ∧ GlsR (SA g mb g t9 c9 o9) wi (bodyF s.choices.length s.vars (c.body.drop j) rest) v) (fun i6 i16 wi => (intOf i16 + 1).toNat)
              case atStart => exact ⟨c.body.length, rv', Nat.le_refl _, rfl, rfl, Below.refl _ _, by rw [List.drop_length]; exact HGREST9.out⟩
              case round =>
                obtain ⟨j, v, hj, rfl, rfl, hbl, hgl⟩ := hrel
                have HBL := hid hbl
                have HGL := hid hgl
                have hzl := hbl.size
                obtain ⟨vp, hvp⟩ := hgl.ptr
                have hsvl := HSV9.out.below hbl
                have HSVL := hid hsvl
                have HXL := hid (blk_below HF9.out hbl)
                obtain ⟨b0, b1, b2, b3, b4, b5, b6, b7, bf⟩ := box8 hsvl.box
                obtain ⟨q0, q1, q2, q3, q4, q5, qf⟩ := blk6 HXL.out
                have hgll := hsvl.lt.1
                have hcbl := blk_lt HXL.out
                rw [HV9.out] at b4
                subst hvp
                clear hbl hgl hsvl
                by_cases hj0 : j = 0
                · subst hj0
                  have HGF := hid (show GlsR (SA g mb g t9 c9 o9) wr (bodyF s.choices.length s.vars c.body rest) (.pointer vp) from HGL.out)
                  have hcs := cell_set
                  have hvb : s.vars + c.vars ≤ 1000000 := by have := HVV.out; have := HCV8.out; omega
                  have hvb0 : 0 ≤ s.vars + c.vars := by have := HCV.out; omega
                  have hcv0 : 0 ≤ c.vars := HCV.out
                  have hcv8 : c.vars ≤ 8 := HCV8.out
                  go_wp2_with fail
                  go_still_tail 9, (by kernel_rfl)
                  change wpList _ _ _ _ _ wr.drew
                  have HSVd := hid (HSVL.out.below ((Below.refl _ _).drew))
                  have HGFd := hid (HGF.out.keeps (Keeps.drew _ _))
                  have HBLd := hid (HBL.out.drew)
                  have HXd := hid (box8 HSVd.out.box)
                  generalize wr.drew = Wd at *
                  clear b0 b1 b2 b3 b4 b5 b6 b7 bf q0 q1 q2 q3 q4 q5 qf
                  obtain ⟨b0, b1, b2, b3, b4, b5, b6, b7, bf⟩ := HXd.out
                  go_wp2_with fail
                  go_ret3
                  rw [hres0.out]
                  have hsv := HSVd.out.setVars hvb0 hvb
                  obtain ⟨t', c', o', y1, y2, y3, y4, y5⟩ := hsv
                  have hdz := HBLd.out.size
                  obtain ⟨t', c', o', z1, z2, z3, z4, z5, z6⟩ := HEND.out (.pointer vp) (Wd.setCell ⟨g, 4, none⟩ (.int .i64 (s.vars + c.vars))) ⟨t', c', o', y1, (Ch.of_below (M := SM g mb t9 c9 o9) HBLd.out).trans y2 (fun b h => .inl h), fun b hb => (y3 b hb).imp id (fun e => by omega), fun b hb => (y4 b hb).imp id (fun e => by omega), fun b hb => (y5 b hb).imp id (fun e => by omega), HGFd.out.move y2 y3 y4 y5⟩
                  exact ⟨_, rfl, t', c', o', z1, z2, z3, z4, z5, _, rfl, z6⟩
                · obtain ⟨jj, rfl⟩ : ∃ jj, j = jj + 1 := ⟨j - 1, by omega⟩
                  rw [show (((jj + 1 : Nat) : Int) - 1) = (jj : Int) by omega]
                  have hjl : jj < c.body.length := by omega
                  obtain ⟨_, _, bb, boff, e, -, -, -, hba, hbe⟩ := SlR.at HBRo.out
                  simp only [Value.slice.injEq, true_and] at e
                  obtain ⟨rfl, rfl⟩ := e
                  obtain ⟨rfl, hbb⟩ := hba (by omega)
                  have hkb : Keeps (fun b => b < base) wo wr := HKB9.out.trans (Keeps.of_below HBL.out)
                  obtain ⟨sa, sc, e0, e1, e2, e3, hre⟩ := tm_cells hbe hbb hkb hjl
                  have HRE := hid hre
                  have hjj0 : (0 : Int) ≤ (jj : Int) := Int.natCast_nonneg _
                  have hjj1 : (jj : Int) < (c.body.length : Int) := by omega
                  have hbbl : bb < wr.heap.size := World.block_lt_of_cell? wr _ e0
                  clear hba hbe hkb hre hj0
                  go_wp2_with fail
                  refine wp_region_F (F := fun _ w' => Below wr.drew.heap.size wr.drew w') (by kernel_rfl) ?_
                  have HF : Below wr.drew.heap.size wr.drew wr.drew := Below.refl _ _
                  refine wpAnyF_take (i := 0) (v := ?_) rfl (by kernel_rfl) (by kernel_rfl) (by kernel_rfl) (fun _ _ _ h => h) (Or.inl ⟨by rfl, ?_⟩) HF ?_
                  rotate_left
                  · (intro w' hw; clear hw; go_simp <;> with_reducible rfl)
                  try simp only [Act.put, List.setIfInBounds_toArray, List.set_cons_zero, List.set_cons_succ]
                  refine wpAnyF_take (i := 1) (v := ?_) rfl (by kernel_rfl) (by kernel_rfl) (by kernel_rfl) (fun _ _ _ h => h) (Or.inl ⟨by rfl, ?_⟩) HF ?_
                  rotate_left
                  · (intro w' hw; have f4 := (hw.cell (p := ⟨cb, 4, none⟩) (by simp only [World.size_drew]; omega)).trans q4; clear hw; go_simp <;> with_reducible rfl)
                  try simp only [Act.put, List.setIfInBounds_toArray, List.set_cons_zero, List.set_cons_succ]
                  refine wpAnyF_take (i := 2) (v := ?_) rfl (by kernel_rfl) (by kernel_rfl) (by kernel_rfl) (fun _ _ _ h => h) (Or.inl ⟨by rfl, ?_⟩) HF ?_
                  rotate_left
                  · (intro w' hw; clear hw; go_simp <;> with_reducible rfl)
                  try simp only [Act.put, List.setIfInBounds_toArray, List.set_cons_zero, List.set_cons_succ]
                  refine wpAnyF_take (i := 3) (v := ?_) rfl (by kernel_rfl) (by kernel_rfl) (by kernel_rfl) (fun _ _ _ h => h) (Or.inl ⟨by rfl, ?_⟩) HF ?_
                  rotate_left
                  · (intro w' hw; clear hw; go_simp <;> with_reducible rfl)
                  try simp only [Act.put, List.setIfInBounds_toArray, List.set_cons_zero, List.set_cons_succ]
                  refine wpAnyF_take (i := 4) (v := .agg #[.int .i64 c.body[jj].kind, .int .i64 c.body[jj].n, .string c.body[jj].s, .slice sa c.body[jj].args.length sc]) rfl (by kernel_rfl) (by kernel_rfl) (by kernel_rfl) (fun _ _ _ h => h) (Or.inl ⟨by rfl, ?_⟩) HF ?_
                  · (intro w' hw; have f0 := (hw.cell (p := ⟨bb, boff + jj * 4, none⟩) (by simp only [World.size_drew]; omega)).trans e0; have f1 := (hw.cell (p := ⟨bb, boff + jj * 4 + 1, none⟩) (by simp only [World.size_drew]; omega)).trans e1; have f2 := (hw.cell (p := ⟨bb, boff + jj * 4 + 2, none⟩) (by simp only [World.size_drew]; omega)).trans e2; have f3 := (hw.cell (p := ⟨bb, boff + jj * 4 + 3, none⟩) (by simp only [World.size_drew]; omega)).trans e3; clear hw; go_simp)
                  try simp only [Act.put, List.setIfInBounds_toArray, List.set_cons_zero, List.set_cons_succ]
                  refine wpAnyF_take (i := 5) (v := ?_) rfl (by kernel_rfl) (by kernel_rfl) (by kernel_rfl) (fun _ _ _ h => h) (Or.inl ⟨by rfl, ?_⟩) HF ?_
                  rotate_left
                  · (intro w' hw; clear hw; go_simp <;> with_reducible rfl)
                  try simp only [Act.put, List.setIfInBounds_toArray, List.set_cons_zero, List.set_cons_succ]
                  refine wpAnyF_take (i := 6) (v := ?_) rfl (by kernel_rfl) (by kernel_rfl) (by kernel_rfl) (fun _ _ _ h => h) (Or.inl ⟨by rfl, ?_⟩) HF ?_
                  rotate_left
                  · (intro w' hw; clear hw; go_simp <;> with_reducible rfl)
                  try simp only [Act.put, List.setIfInBounds_toArray, List.set_cons_zero, List.set_cons_succ]
                  refine wpAnyF_take (i := 7) (v := ?_) rfl (by kernel_rfl) (by kernel_rfl) (by kernel_rfl) (fun _ _ _ h => h) (Or.inl ⟨by rfl, ?_⟩) HF ?_
                  rotate_left
                  · (intro w' hw; clear hw; go_simp <;> with_reducible rfl)
                  try simp only [Act.put, List.setIfInBounds_toArray, List.set_cons_zero, List.set_cons_succ]
                  refine wpAnyF_take (i := 8) (v := ?_) rfl (by kernel_rfl) (by kernel_rfl) (by kernel_rfl) (fun _ _ _ h => h) (Or.inl ⟨by rfl, ?_⟩) HF ?_
                  rotate_left
                  · (intro w' hw; have f4 := (hw.cell (p := ⟨g, 4, none⟩) (by simp only [World.size_drew]; omega)).trans b4; clear hw; go_simp <;> with_reducible rfl)
                  try simp only [Act.put, List.setIfInBounds_toArray, List.set_cons_zero, List.set_cons_succ]
                  refine wpAnyF_take (i := 10) (v := ?_) rfl (by kernel_rfl) (by kernel_rfl) (by kernel_rfl) (fun _ _ _ h => h) (Or.inl ⟨by rfl, ?_⟩) HF ?_
                  rotate_left
                  · (intro w' hw; clear hw; go_simp <;> with_reducible rfl)
                  try simp only [Act.put, List.setIfInBounds_toArray, List.set_cons_zero, List.set_cons_succ]
                  refine wpAnyF_take (i := 11) (v := ?_) rfl (by kernel_rfl) (by kernel_rfl) (by kernel_rfl) (fun _ _ _ h => h) (Or.inl ⟨by rfl, ?_⟩) HF ?_
                  rotate_left
                  · (intro w' hw; clear hw; go_simp <;> with_reducible rfl)
                  try simp only [Act.put, List.setIfInBounds_toArray, List.set_cons_zero, List.set_cons_succ]
                  refine wpAnyF_one (i := 9) (by kernel_rfl) (wpOp_run rfl (by rfl) ?_)
                  go_simp
                  refine (shift_ok c.body[jj] s.vars _ _ _ HVS.out (Tm.rep_lasts.1 _ _ _ _ _ HRE.out (Keeps.drew _ _))).mono ?_
                  rintro e W10 ⟨r, rfl, hb10, us10, rfl, hsr10⟩
                  have HB10 := hid (show Below wr.heap.size wr W10 from ((Below.refl _ wr).drew).trans hb10)
                  have HS10 := hid hsr10
                  obtain ⟨xa10, xc10, rfl, -⟩ := Tm.rep4 hsr10
                  have hz10 := HB10.out.size
                  have HD10 := hid (show Below wr.drew.heap.size wr.drew W10 from hb10)
                  clear hb10 hsr10 b0 b1 b2 b3 b4 b5 b6 b7 bf q0 q1 q2 q3 q4 q5 qf e0 e1 e2 e3
                  refine ⟨fun _ _ _ => HD10.out, ?_⟩
                  refine wpAnyF_one (i := 12) (by kernel_rfl) (wpOp_run rfl (by rfl) ?_)
                  go_simp
                  refine ⟨fun _ _ _ => HD10.out, ?_⟩
                  refine wpAnyF_one (i := 13) (by kernel_rfl) (wpOp_run rfl (by rfl) ?_)
                  go_simp
                  refine ⟨fun _ _ h => h.alloc hz10 _, ?_⟩
                  refine wpAnyF_one (i := 14) (by kernel_rfl) (wpOp_run rfl (by rfl) ?_)
                  go_simp
                  refine ⟨fun _ _ h => h, ?_⟩
                  refine wpAnyF_done (by kernel_rfl) ?_ _
                  go_wp2_with fail
                  go_roundw
                  case rel =>
                    have hbz : Below W9.heap.size W9 W10 := HBL.out.trans (HB10.out.mono hzl)
                    refine ⟨jj, _, by omega, rfl, by go_num, hbz.alloc (by omega) _, ?_⟩
                    rw [show c.body.drop jj = c.body[jj] :: c.body.drop (jj + 1) from List.drop_eq_getElem_cons hjl]
                    have hs10 := (HSVL.out.below HB10.out).sm_lt
                    have hsl := HSVL.out.sm_lt
                    refine ⟨W10.heap.size, xa10, xc10, .pointer vp, rfl, ⟨fun hs => by have := (hs10 _ hs).2; omega, fun e => by have := (HSVL.out.lt).1; omega⟩, blk_new _ _, ?_, ?_⟩
                    · exact Tm.rep_lasts.1 _ _ _ _ _ (Tm.rep_lasts.2.1 _ _ _ _ _ HS10.out fun b _ hb => by
                        have hb' : wr.heap.size ≤ b := hb
                        exact ⟨fun hs => by have := (hsl b hs).2; omega, fun e => by omega⟩) (Keeps.alloc _ _ _)
                    · exact (HGL.out.keeps (Keeps.of_below HB10.out)).keeps (Keeps.alloc _ _ _)
                  case measure => simp [intOf]
end
end Go.Proofs.YtlpmfkpefoegeabDoor
