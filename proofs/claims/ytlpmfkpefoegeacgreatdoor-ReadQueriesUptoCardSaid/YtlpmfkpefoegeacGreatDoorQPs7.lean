/-
  The document's parser: term, goals.
-/
import Derived.Test.YtlpmfkpefoegeacGreatDoorQPs6
namespace Go.Proofs.YtlpmfkpefoegeacGreatDoor
set_option linter.unusedVariables false
set_option linter.unusedSimpArgs false
open Go.RowKit
section
variable {base g : Nat} {lv vv v1 : Value} {p p1 p2 : Ps} {w w1 w2 : World}
theorem odd_c {c : UInt8} (h1 : ¬ upB c = true) (h2 : ¬ (c = 45 ∨ digB c = true)) : upB c = false ∧ digB c = false ∧ c ≠ 45 := by
  refine ⟨by simpa using h1, ?_, fun e => h2 (.inl e)⟩
  by_cases e : digB c = true
  · exact absurd (.inr e) h2
  · simpa using e
theorem pterm_ok : ∀ (n : Nat) (hn : n ≤ 24) (lv vv : Value) (p : Ps) (w : World), PsI base g lv vv p w →
    Calls Tryz.prog 79 #[.pointer (some ⟨g, 0, none⟩), .int .i64 (n : Int)] w (PTm base g vv (termP n p) w)
  | 0, hn, lv, vv, p, w, h => pterm_lost 0 i64_0 (.inr rfl) h
  | n + 1, hn, lv, vv, p, w, h => by
    have hd : I64 ((n + 1 : Nat) : Int) ∧ ((n + 1 : Nat) : Int) ≠ 0 := ⟨by unfold I64; omega, by omega⟩
    have IH : ∀ (lv vv : Value) (p : Ps) (w : World), PsI base g lv vv p w → Calls Tryz.prog 79 #[.pointer (some ⟨g, 0, none⟩), .int .i64 (((n + 1 : Nat) : Int) - 1)] w (PTm base g vv (termP n p) w) := by
      rw [show ((n + 1 : Nat) : Int) - 1 = (n : Int) by omega]
      exact fun lv vv p w h => pterm_ok n (by omega) lv vv p w h
    cases hl : p.l with
    | nil =>
      have e : termP (n + 1) p = (tmz, p.kill) := by rw [termP, hl]
      rw [e]
      exact pterm_lost _ hd.1 (.inl (by rw [hl]; rfl)) h
    | cons t r =>
      cases t with
      | nil =>
        have e : termP (n + 1) p = (tmz, p.kill) := by rw [termP, hl]
        rw [e]
        exact pterm_lost _ hd.1 (.inl (by rw [hl]; rfl)) h
      | cons c q =>
        have e : termP (n + 1) p = if lowB c = false ∧ upB c = false ∧ digB c = false ∧ c ≠ 45 ∧ c :: q ≠ [33] then (tmz, p.kill) else headP (termP n) c q { p with l := r } := by rw [termP, hl]
        rw [e]
        split
        · rename_i ho
          exact pterm_odd _ hd c q r hl ho h
        · rename_i ho
          unfold headP
          split
          · rename_i h33
            exact pterm_bang _ hd c q r hl h33 h
          · rename_i h33
            split
            · rename_i hu
              exact pterm_up _ hd c q r hl (up_iff.1 hu) h
            · rename_i hu
              split
              · rename_i hn
                have h1 : Calls Tryz.prog 79 #[.pointer (some ⟨g, 0, none⟩), .int .i64 ((n + 1 : Nat) : Int)] w (PTm base g vv (numP (c :: q) { p with l := r }) w) := by
                  rcases hn with h45 | hdg
                  · exact pterm_num1 _ hd c q r hl (by rw [h45]; rfl) h
                  · exact pterm_num2 _ hd c q r hl (dig_iff.1 hdg) h
                unfold numP at h1
                cases hvv : valueF (c :: q) with
                | none => rw [hvv] at h1; exact h1
                | some k => rw [hvv] at h1; exact h1
              · rename_i hn
                obtain ⟨k1, k2, k3⟩ := odd_c hu hn
                have hlow : lowB c = true := by
                  by_cases e : lowB c = true
                  · exact e
                  · exact absurd ⟨by simpa using e, k1, k2, k3, h33⟩ ho
                exact pterm_word n _ hd IH (by omega) c q r hl hlow h
structure PGLoop (base g : Nat) (vv : Value) (l : List Tm) (pp : Ps) (lr vr va : Value) (w0 wr : World) : Prop where
  ps : PsI base g lr vr pp wr
  ch : Ch (RdM g vv) w0 wr
  vg : VG w0 vv vr
  own : OwnR wr w0.heap.size 34 4 Tm.rep (fun b => w0.heap.size ≤ b ∧ ¬ RdM g vr b) l va
  na : ∀ b, ownB va = some b → ¬ RdM g vr b
  ll : l.length + pp.l.length ≤ 2001
section
variable {l : List Tm} {pp pp2 : Ps} {lr lr2 vr vr2 va : Value} {w0 wr w5 : World}
theorem PGLoop.move (h : PGLoop base g vv l pp lr vr va w0 wr) (k1 : PsI base g lr2 vr2 pp2 w5) (k2 : Ch (RdM g vr) wr w5) (k3 : VG wr vr vr2) (hll : l.length + pp2.l.length ≤ 2001) :
    PGLoop base g vv l pp2 lr2 vr2 va w0 w5 := by
  have hn2 : ∀ b, b < wr.heap.size → ¬ RdM g vr b → ¬ RdM g vr2 b := fun b hb hn e => (VG.rm k3 b e).elim hn (fun e => by omega)
  exact ⟨k1, h.ch.trans k2 (VG.rm h.vg), h.vg.trans k3 h.ch.size,
    ((h.own.mono (A' := fun b => (w0.heap.size ≤ b ∧ ¬ RdM g vr2 b) ∧ ¬ RdM g vr b) Tm.rep_lasts (fun b hb hA => ⟨⟨hA.1, hn2 b hb hA.2⟩, hA.2⟩)).keeps (B := fun b => ¬ RdM g vr b) Tm.rep_lasts (k2.keeps fun _ _ h => h) (fun _ h => h.2) h.na).mono Tm.rep_lasts (fun b _ hb => hb.1),
    fun b hb => hn2 b (h.own.lt b hb).2 (h.na b hb), hll⟩
theorem PGLoop.push {t : Tm} {v2 : Value} {w6 : World} {cells : Array Value} (h : PGLoop base g vv l pp lr vr va w0 wr) (hB : g < w0.heap.size) (hown : OwnR w6 w0.heap.size 34 4 Tm.rep (fun b => w0.heap.size ≤ b ∧ ¬ RdM g vr b) (l ++ [t]) v2)
    (hg : Grew (wr.alloc (.cells cells 34)) w6 va v2) (hll : l.length + 1 + pp.l.length ≤ 2001) : PGLoop base g vv (l ++ [t]) pp lr vr v2 w0 w6 := by
  have hown2 : ∀ b, ownB va = some b → w0.heap.size ≤ b ∧ b < wr.heap.size := h.own.lt
  have hk : Keeps (fun b => ownB va ≠ some b) wr w6 := (Keeps.alloc _ _ _).trans (hg.keeps fun b hb => hb)
  refine ⟨h.ps.keeps (hk.mono fun b hb hA e => ?_), hg.ch (h.ch.alloc _) (fun b hb => .inr (hown2 b hb).1), h.vg, hown, fun b hb => ?_, ?_⟩
  · rcases hA with hA | hA
    · have := (hown2 b e).1; omega
    · exact h.na b e hA
  · rcases hg.block with e | e
    · exact h.na b (e ▸ hb)
    · have h1 := e b hb
      simp only [World.size_alloc] at h1
      exact fun hm => by have := h.ps.rm_lt b hm; omega
  · simp only [List.length_append, List.length_singleton]; omega
end
theorem own_oneT {α : Type} {R : (Nat → Prop) → World → α → List Value → Prop} (hR : Lasts R) {A : Nat → Prop} {w : World} {x : α} {us : List Value} {size : Nat} {E : TypeId} (hx : R (fun b => A b ∧ b ≠ w.heap.size) w x us) (hl : us.length = size) (base : Nat) (hb : base ≤ w.heap.size) :
    OwnR (w.alloc (.cells us.toArray E)) base E size R A [x] (.slice (some ⟨w.heap.size, 0, none⟩) 1 1) := by
  refine ⟨[us], rfl, ⟨by simp [hl], .inr ⟨w.heap.size, 1, us.toArray, rfl, by omega, hb, heap_alloc_new _ _, by simp, by simp [maxLen], by simp [hl], by simp [← hl]⟩⟩, fun i y vs hy hv => ?_⟩
  cases i with
  | zero =>
    simp only [List.getElem?_cons_zero, Option.some.injEq] at hy hv
    subst hy hv
    exact ⟨hl, hR.1 _ _ _ _ _ (hR.2.1 _ _ _ _ _ hx (fun b hb hb2 => ⟨hb2.1, by simp [ownB]; exact fun e => hb2.2 e.symm⟩)) (Keeps.alloc _ _ _)⟩
  | succ i => simp at hy
theorem PGLoop.first {t : Tm} {pp : Ps} {lr vr : Value} {us : List Value} (k1 : PsI base g lr vr pp w1) (k2 : Ch (RdM g vv) w w1) (k3 : VG w vv vr) (k4 : Tm.rep (fun b => w.heap.size ≤ b ∧ ¬ RdM g vr b) w1 t us) (hu : us.length = 4) (hll : 1 + pp.l.length ≤ 2001) :
    PGLoop base g vv [t] pp lr vr (.slice (some ⟨w1.heap.size, 0, none⟩) 1 1) w (w1.alloc (.cells us.toArray 34)) := by
  have hn : ¬ RdM g vr w1.heap.size := fun e => by have := k1.rm_lt _ e; omega
  refine ⟨k1.below ((Below.refl _ _).alloc (Nat.le_refl _) _), k2.alloc _, k3, own_oneT Tm.rep_lasts (Tm.rep_lasts.2.1 _ _ _ _ _ k4 fun b hb h => ⟨h, by omega⟩) hu w.heap.size k2.size, fun b hb => ?_, by simpa using hll⟩
  simp [ownB] at hb
  subst hb; exact hn
def PGl (base g : Nat) (vv : Value) (x : List Tm × Ps) (w : World) (e : Ending) (w' : World) : Prop :=
  ∃ gv lv' vv', e = .returned gv ∧ PsI base g lv' vv' x.2 w' ∧ Ch (RdM g vv) w w' ∧ VG w vv vv' ∧ TmsR (fun b => w.heap.size ≤ b ∧ ¬ RdM g vv' b) w' x.1 gv ∧ x.1.length ≤ 2001
set_option maxRecDepth 100000 in
set_option maxHeartbeats 16000000 in
theorem pgoals_ok (h : PsI base g lv vv p w) : Calls Tryz.prog 43 #[.pointer (some ⟨g, 0, none⟩)] w (PGl base g vv (goalsP p) w) := by
  have HU := hid h
  have hBx : g < w.heap.size := h.lt.1
  have HLN := hid h.len
  obtain ⟨X, hX⟩ : ∃ X, X = termP 24 p := ⟨_, rfl⟩
  have hcall := pterm_ok (base := base) (g := g) 24 (by omega) lv vv p w h
  have hxl := termP_len 24 p
  have HG0 := hid (show goalsP p = ((argsP (termP 24) (X.2.l.length + 1) [X.1] X.2).1, (argsP (termP 24) (X.2.l.length + 1) [X.1] X.2).2.must [46]) by rw [hX]; rfl)
  rw [← hX] at hcall hxl
  have HCALL := hid hcall
  have HXL := hid hxl
  clear h hX hcall hxl
  go_enter Tryz.func43, Tryz.ntmps43
  go_wp2_with fail
  refine HCALL.out.mono ?_
  rintro e w5 ⟨us, l5, v5, rfl, k1, k2, k3, k4⟩
  obtain ⟨ua, uc, rfl, -⟩ := Tm.rep4 k4
  have HT0 := hid (PGLoop.first k1 k2 k3 k4 rfl (by have := HXL.out; have := HLN.out; omega))
  clear k1 k2 k3 k4 HCALL
  go_upto_block 0 with fail
  obtain ⟨W5, hW5⟩ : ∃ W5, W5 = w5.alloc (.cells [.int .i64 X.1.kind, .int .i64 X.1.n, .string X.1.s, .slice ua X.1.args.length uc].toArray 34) := ⟨_, rfl⟩
  rw [← hW5] at HT0 ⊢
  obtain ⟨va0, hva0⟩ : ∃ va0, va0 = Value.slice (some ⟨w5.heap.size, 0, none⟩) 1 1 := ⟨_, rfl⟩
  rw [← hva0] at HT0 ⊢
  clear hW5 hva0
  go_cut [3] (fun va wx => ∃ lx vx, PGLoop base g vv (argsP (termP 24) (X.2.l.length + 1) [X.1] X.2).1 (argsP (termP 24) (X.2.l.length + 1) [X.1] X.2).2 lx vx va w wx)
  case first =>
    go_wp2_with fail
    go_loopw [3] (fun va wr => ∃ (k : Nat) (l : List Tm) (pp : Ps) (lr vr : Value), PGLoop base g vv l pp lr vr va w wr ∧ argsP (termP 24) (X.2.l.length + 1) [X.1] X.2 = argsP (termP 24) (k + 1) l pp ∧ pp.l.length ≤ k ∧ l.length + pp.l.length ≤ 2001) (fun _ wr => psMu g wr)
    case atStart => exact ⟨X.2.l.length, [X.1], X.2, _, _, HT0.out, rfl, Nat.le_refl _, by have := HXL.out; have := HLN.out; simp only [List.length_singleton]; omega⟩
    case round =>
      obtain ⟨k, l, pp, lr, vr, hT, hargs, hk, hll⟩ := hrel
      have HTL0 := hid hT
      have HAR := hid hargs
      have HKL := hid hk
      have HLL0 := hid hll
      obtain ⟨b0, b1, b2, bf⟩ := hT.ps.cells
      have hgl := hT.ps.lt.1
      obtain ⟨pa, pc, rfl, hpl, hpm⟩ := OwnR.val' hT.own
      clear hT hargs hk hll HT0
      cases hbd : pp.bad with
      | true =>
        have HBD := hid (HAR.out.trans (argsP_bad hbd))
        rw [hbd] at b2
        clear hbd
        go_wp2_with fail
        go_meet
        case rel =>
          rw [HBD.out]
          exact ⟨_, _, HTL0.out⟩
      | false =>
        have HBD := hid hbd
        rw [hbd] at b2
        clear hbd
        have HAT : Hid (Calls Tryz.prog 80 #[.pointer (some ⟨g, 0, none⟩), .string ⟨#[44]⟩] wr _) := hid (ptake_ok [44] HTL0.out.ps)
        go_wp2_with fail
        refine HAT.out.mono ?_
        rintro e w8 ⟨rfl, l8, v8, k1, k2, k3⟩
        have htk := take_len (sg := [44]) pp
        have HT8 := hid (HTL0.out.move k1 k2 k3 (by have := HLL0.out; have := htk.1; omega))
        have HTK8 := hid htk
        clear k1 k2 k3 htk b0 b1 b2 bf hgl HAT
        cases hat : (pp.take [44]).1 with
        | false =>
          have HAT2 := hid (HAR.out.trans (argsP_no HBD.out hat))
          have HTS := hid (take_same hat)
          clear hat
          go_wp2_with fail
          go_meet
          case rel =>
            rw [HAT2.out]
            have h8 := HT8.out
            rw [HTS.out] at h8
            exact ⟨_, _, h8⟩
        | true =>
          have HAT2 := hid (HAR.out.trans (argsP_go HBD.out hat))
          have HAL2 := hid (HTK8.out.2 hat)
          clear hat
          obtain ⟨p8, hp8⟩ : ∃ p8, p8 = (pp.take [44]).2 := ⟨_, rfl⟩
          rw [← hp8] at HT8 HAT2 HAL2
          obtain ⟨Y, hY⟩ : ∃ Y, Y = termP 24 p8 := ⟨_, rfl⟩
          rw [← hY] at HAT2
          have hcall := pterm_ok (base := base) (g := g) 24 (by omega) l8 v8 p8 w8 HT8.out.ps
          rw [← hY] at hcall
          have HCALL := hid hcall
          have HYL := hid (show Y.2.l.length ≤ p8.l.length by rw [hY]; exact termP_len 24 p8)
          clear hcall hY hp8
          go_wp2_with fail
          refine HCALL.out.mono ?_
          rintro e w9 ⟨us, l9, v9, rfl, k1, k2, k3, k4⟩
          obtain ⟨ya, yc, rfl, -⟩ := Tm.rep4 k4
          have hol := HT8.out.own.lt
          have HT9 := hid (HT8.out.move k1 k2 k3 (by have := HYL.out; have := HLL0.out; have := HAL2.out; omega))
          have HCH0 := hid HT8.out.ch.size
          have HN5 := hid (show Tm.rep (fun b => (w.heap.size ≤ b ∧ ¬ RdM g v9 b) ∧ ownB (.slice pa l.length pc) ≠ some b) w9 Y.1 _ from Tm.rep_lasts.2.1 _ _ _ _ _ k4 fun b _ hb => ⟨⟨Nat.le_trans HCH0.out hb.1, hb.2⟩, fun e => by have := (hol b e).2; have := hb.1; omega⟩)
          have HLE := hid (show l.length < 4194304 ∧ w.heap.size ≤ w9.heap.size from ⟨by have := HLL0.out; omega, HT9.out.ch.size⟩)
          clear k1 k2 k3 k4
          go_wp2_with (at_builtin; go_must (refine wpList_app1 rfl (.tmp 16) (.tmp 19) 23 rfl w.heap.size 34 4 56 tyTerm Tm.rep_lasts (A := fun b => w.heap.size ≤ b ∧ ¬ RdM g v9 b) (.slice pa l.length pc) l rfl HT9.out.own Y.1 [_, _, _, _] (by rfl) rfl HN5.out HLE.out ?_); go_must (intro v2 w6 hown hg; obtain ⟨pa2, pc2, hv2, -⟩ := OwnR.val' hown; rw [show (l ++ [Y.1]).length = l.length + 1 by simp] at hv2; subst hv2; have HT7 := hid (HT9.out.push hBx hown hg (by have := HYL.out; have := HLL0.out; have := HAL2.out; omega)); clear hown hg))
          go_roundw
          case rel =>
            have h1 := HAL2.out
            have h2 := HYL.out
            have h3 := HKL.out
            have h4 := HLL0.out
            exact ⟨k - 1, l ++ [Y.1], Y.2, _, _, HT7.out, by rw [HAT2.out, show k - 1 + 1 = k by omega], by omega, by simp only [List.length_append, List.length_singleton]; omega⟩
          case measure =>
            have h1 := HAL2.out
            have h2 := HYL.out
            rw [psMu_of HT7.out.ps, psMu_of HTL0.out.ps]
            omega
  case rest =>
    obtain ⟨lx2, vx2, hT⟩ := hcut
    obtain ⟨A, hA⟩ : ∃ A, A = argsP (termP 24) (X.2.l.length + 1) [X.1] X.2 := ⟨_, rfl⟩
    rw [← hA] at hT
    have HTL := hid hT
    have HA := hid hA
    obtain ⟨b0, b1, b2, bf⟩ := hT.ps.cells
    have hgl := hT.ps.lt.1
    obtain ⟨pa, pc, rfl, hpl, hpm⟩ := OwnR.val' hT.own
    clear hT hA HT0
    go_upto_region 4 with fail
    go_cut [] (fun wx => ∃ lx vx, PGLoop base g vv A.1 (A.2.must [46]) lx vx (.slice pa A.1.length pc) w wx)
    case first =>
      cases hbd : A.2.bad with
      | true =>
        have HM := hid (show A.2.must [46] = { A.2 with bad := true } by unfold Ps.must; rw [if_pos hbd, ← hbd])
        rw [hbd] at b2
        clear hbd
        obtain ⟨k1, k2⟩ := HTL.out.ps.setBad true
        have HT9 := hid (HTL.out.move k1 k2 (VG.refl _ _) HTL.out.ll)
        clear k1 k2
        go_wp2_with fail
        go_meet
        case rel =>
          rw [HM.out]
          exact ⟨_, _, HT9.out⟩
      | false =>
        have HBD := hid hbd
        rw [hbd] at b2
        clear hbd
        have HAT : Hid (Calls Tryz.prog 80 #[.pointer (some ⟨g, 0, none⟩), .string ⟨#[46]⟩] wc _) := hid (ptake_ok [46] HTL.out.ps)
        go_wp2_with fail
        refine HAT.out.mono ?_
        rintro e w8 ⟨rfl, l8, v8, k1, k2, k3⟩
        have htk := take_len (sg := [46]) A.2
        have HT8 := hid (HTL.out.move k1 k2 k3 (by have := HTL.out.ll; have := htk.1; omega))
        clear k1 k2 k3 htk b0 b1 b2 bf hgl HAT
        obtain ⟨b0, b1, b2, bf⟩ := HT8.out.ps.cells
        have hgl := HT8.out.ps.lt.1
        cases hat : (A.2.take [46]).1 with
        | true =>
          have HM := hid (show A.2.must [46] = { (A.2.take [46]).2 with bad := false } by
            unfold Ps.must
            rw [if_neg (by rw [HBD.out]; simp), if_pos hat]
            have e : (A.2.take [46]).2.bad = false := by rw [take_badP]; exact HBD.out
            rw [← e])
          clear hat
          obtain ⟨k1, k2⟩ := HT8.out.ps.setBad false
          have HT9 := hid (HT8.out.move k1 k2 (VG.refl _ _) HT8.out.ll)
          clear k1 k2
          go_wp2_with fail
          go_meet
          case rel =>
            rw [HM.out]
            exact ⟨_, _, HT9.out⟩
        | false =>
          have HM := hid (show A.2.must [46] = { (A.2.take [46]).2 with bad := true } by
            unfold Ps.must
            rw [if_neg (by rw [HBD.out]; simp), if_neg (by rw [hat]; simp), take_same hat]
            rfl)
          clear hat
          obtain ⟨k1, k2⟩ := HT8.out.ps.setBad true
          have HT9 := hid (HT8.out.move k1 k2 (VG.refl _ _) HT8.out.ll)
          clear k1 k2
          go_wp2_with fail
          go_meet
          case rel =>
            rw [HM.out]
            exact ⟨_, _, HT9.out⟩
    case rest =>
      obtain ⟨lx9, vx9, hT⟩ := hcut
      have HT9 := hid hT
      clear hT b0 b1 b2 bf hgl
      go_wp2_with fail
      go_ret
      rw [HG0.out, ← HA.out]
      exact ⟨_, _, _, rfl, HT9.out.ps, HT9.out.ch, HT9.out.vg, OwnR.sl' Tm.rep_lasts HT9.out.own (show A.1.length ≤ 1048576 by have := HT9.out.ll; omega) fun b hb => ⟨(HT9.out.own.lt b hb).1, HT9.out.na b hb⟩, by have := HT9.out.ll; simp only; omega⟩
end
end Go.Proofs.YtlpmfkpefoegeacGreatDoor
