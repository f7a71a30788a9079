/-
  The reader: term, goals.
-/
import Derived.Test.YtlpmfkpefoegeacDoorQRd7
namespace Go.Proofs.YtlpmfkpefoegeacDoor
set_option linter.unusedVariables false
set_option linter.unusedSimpArgs false
open Go.RowKit
section
variable {B base g : Nat} {vv v1 : Value} {r r1 r2 : Rd} {w w1 w2 : World}
theorem rterm_ok : ∀ (n : Nat) (hn : n ≤ 24) (d : Int) (hd : d = 25 - (n : Int)) (vv : Value) (r : Rd) (w : World), RdI B base g vv r w →
    Calls Tryd.prog 26 #[.pointer (some ⟨g, 0, none⟩), .int .i64 d] w (RTm B base g vv (termR n r) w)
  | 0, hn, d, hd, vv, r, w, h => rterm_lost0 d (by omega) h
  | n + 1, hn, d, hd, vv, r, w, h => by
    have IH := fun (vv : Value) (r : Rd) (w : World) h => rterm_ok n (by omega) (d + 1) (by omega) vv r w h
    by_cases hb : r.bad = true
    · have e : termR (n + 1) r = (tmz, r.space.kill) := by rw [termR, if_pos hb]
      rw [e]; exact rterm_lost1 d (by omega) hb h
    · have hb' : r.bad = false := by simpa using hb
      have e : termR (n + 1) r = match spaceF r.s with
        | [] => (tmz, r.space.kill)
        | c :: rest => headR (termR n) c rest r.vars := by rw [termR, if_neg hb]; cases spaceF r.s <;> rfl
      rw [e]
      cases hs : spaceF r.s with
      | nil => exact rterm_lost2 d (by omega) hb' hs h
      | cons c rest =>
        simp only
        unfold headR
        split
        · rename_i hu
          have h1 := rterm_up d (by omega) c rest hb' hs (up_iff.1 hu) h
          unfold varR at h1
          simp only [hb'] at h1
          exact h1
        · rename_i hu
          split
          · rename_i h33
            have h1 := rterm_bang d (by omega) c rest hb' hs (by rw [h33]; rfl) h
            simp only [hb'] at h1
            exact h1
          · rename_i h33
            split
            · rename_i hn
              have hnr : numRd r c rest = match valueF ((c :: rest).take (numLen (c :: rest))) with
                  | some k => (.mk 2 k ⟨#[]⟩ [], ⟨(c :: rest).drop (numLen (c :: rest)), r.vars, false⟩)
                  | none => (.mk 2 0 ⟨#[]⟩ [], ⟨c :: rest, r.vars, true⟩) := by
                unfold numRd numF
                simp only [hb']
                cases valueF ((c :: rest).take (numLen (c :: rest))) <;> rfl
              have h1 : Calls Tryd.prog 26 #[.pointer (some ⟨g, 0, none⟩), .int .i64 d] w (RTm B base g vv (numRd r c rest) w) := by
                rcases hn with h45 | hdg
                · exact rterm_num1 d (by omega) c rest hb' hs (by rw [h45]; rfl) h
                · exact rterm_num2 d (by omega) c rest hb' hs (dig_iff.1 hdg) h
              rw [hnr] at h1
              exact h1
            · rename_i hn
              exact rterm_word n d (by omega) (by omega) IH c rest hb' hs ⟨by simpa using hu, h33, hn⟩ h
structure GLoop (B base g : Nat) (vv : Value) (l : List Tm) (rr : Rd) (vr va : Value) (w0 wr : World) : Prop where
  rd : RdI B base g vr rr wr
  ch : Ch (RdM g vv) w0 wr
  vg : VG w0 vv vr
  own : OwnR wr w0.heap.size 27 4 Tm.rep (fun b => w0.heap.size ≤ b ∧ ¬ RdM g vr b) l va
  na : ∀ b, ownB va = some b → ¬ RdM g vr b
  ll : l.length + rr.s.length ≤ 2001
section
variable {l : List Tm} {rr rr2 : Rd} {vr vr2 va : Value} {w0 wr w5 : World}
theorem GLoop.move (h : GLoop B base g vv l rr vr va w0 wr) (k1 : RdI B base g vr2 rr2 w5) (k2 : Ch (RdM g vr) wr w5) (k3 : VG wr vr vr2) (hll : l.length + rr2.s.length ≤ 2001) :
    GLoop B base g vv l rr2 vr2 va w0 w5 := by
  have hn2 : ∀ b, b < wr.heap.size → ¬ RdM g vr b → ¬ RdM g vr2 b := fun b hb hn e => (VG.rm k3 b e).elim hn (fun e => by omega)
  exact ⟨k1, h.ch.trans k2 (VG.rm h.vg), h.vg.trans k3 h.ch.size,
    ((h.own.mono (A' := fun b => (w0.heap.size ≤ b ∧ ¬ RdM g vr2 b) ∧ ¬ RdM g vr b) Tm.rep_lasts (fun b hb hA => ⟨⟨hA.1, hn2 b hb hA.2⟩, hA.2⟩)).keeps (B := fun b => ¬ RdM g vr b) Tm.rep_lasts (k2.keeps fun _ _ h => h) (fun _ h => h.2) h.na).mono Tm.rep_lasts (fun b _ hb => hb.1),
    fun b hb => hn2 b (h.own.lt b hb).2 (h.na b hb), hll⟩
theorem GLoop.push {t : Tm} {v2 : Value} {w6 : World} {cells : Array Value} (h : GLoop B base g vv l rr vr va w0 wr) (hB : B ≤ w0.heap.size) (hown : OwnR w6 w0.heap.size 27 4 Tm.rep (fun b => w0.heap.size ≤ b ∧ ¬ RdM g vr b) (l ++ [t]) v2)
    (hg : Grew (wr.alloc (.cells cells 27)) w6 va v2) (hll : l.length + 1 + rr.s.length ≤ 2001) : GLoop B base g vv (l ++ [t]) rr vr v2 w0 w6 := by
  have hown2 : ∀ b, ownB va = some b → w0.heap.size ≤ b ∧ b < wr.heap.size := h.own.lt
  have hk : Keeps (fun b => ownB va ≠ some b) wr w6 := (Keeps.alloc _ _ _).trans (hg.keeps fun b hb => hb)
  refine ⟨h.rd.keeps (hk.mono fun b hb hA e => ?_), hg.ch (h.ch.alloc _) (fun b hb => .inr (hown2 b hb).1), h.vg, hown, fun b hb => ?_, ?_⟩
  · rcases hA with hA | hA
    · have := (hown2 b e).1; omega
    · exact h.na b e hA
  · rcases hg.block with e | e
    · exact h.na b (e ▸ hb)
    · have h1 := e b hb
      simp only [World.size_alloc] at h1
      exact fun hm => by have := h.rd.rm_lt b hm; omega
  · simp only [List.length_append, List.length_singleton]; omega
end
def RGl (B base g : Nat) (vv : Value) (x : List Tm × Rd) (w : World) (e : Ending) (w' : World) : Prop :=
  ∃ lv vv', e = .returned lv ∧ RdI B base g vv' x.2 w' ∧ Ch (RdM g vv) w w' ∧ VG w vv vv' ∧ TmsR (fun b => w.heap.size ≤ b ∧ ¬ RdM g vv' b) w' x.1 lv ∧ x.1.length ≤ 2001
theorem goalsRN_no {f : Rd → Tm × Rd} {k : Nat} {l : List Tm} {r : Rd} (hb : r.bad = false) (ha : ((f r).2.at_ [44]).1 = false) : goalsRN f (k + 1) l r = (l ++ [(f r).1], ((f r).2.at_ [44]).2) := by
  rw [goalsRN, if_neg (by rw [hb]; simp), if_neg (by rw [ha]; simp)]
theorem goalsRN_go {f : Rd → Tm × Rd} {k : Nat} {l : List Tm} {r : Rd} (hb : r.bad = false) (ha : ((f r).2.at_ [44]).1 = true) : goalsRN f (k + 1) l r = goalsRN f k (l ++ [(f r).1]) ((f r).2.at_ [44]).2 := by
  rw [goalsRN, if_neg (by rw [hb]; simp), if_pos ha]
set_option maxRecDepth 100000 in
set_option maxHeartbeats 8000000 in
theorem rgoals_ok (h : RdI B base g vv r w) : Calls Tryd.prog 23 #[.pointer (some ⟨g, 0, none⟩)] w (RGl B base g vv (goalsR r) w) := by
  have HU := hid h
  have hBx : B ≤ w.heap.size := by have := h.bg; omega
  have HLN := hid h.len
  have HG0 := hid (show goalsR r = ((goalsRN (termR 24) (r.s.length + 1) [] r).1, (goalsRN (termR 24) (r.s.length + 1) [] r).2.must [46]) from rfl)
  have HL0 : Hid (GLoop B base g vv [] r vv (.slice none 0 0) w w) := hid ⟨h, Ch.refl _ _, VG.refl _ _, OwnR.nil .., fun b hb => by simp [ownB] at hb, by have := h.len; simp only [List.length_nil]; omega⟩
  clear h
  go_enter Tryd.func23, Tryd.ntmps23
  go_upto_block 0 with fail
  go_cut [3] (fun va wx => ∃ vx, GLoop B base g vv (goalsRN (termR 24) (r.s.length + 1) [] r).1 (goalsRN (termR 24) (r.s.length + 1) [] r).2 vx va w wx)
  case first =>
    go_wp2_with fail
    go_loopw [3] (fun va wr => ∃ (k : Nat) (l : List Tm) (rr : Rd) (vr : Value), GLoop B base g vv l rr vr va w wr ∧ goalsRN (termR 24) (r.s.length + 1) [] r = goalsRN (termR 24) (k + 1) l rr ∧ rr.s.length ≤ k ∧ l.length + rr.s.length ≤ 2000) (fun _ wr => rdMu g wr)
    case atStart => exact ⟨r.s.length, [], r, vv, HL0.out, rfl, Nat.le_refl _, by have := HLN.out; simp only [List.length_nil]; omega⟩
    case round =>
      obtain ⟨k, l, rr, vr, hT, hargs, hk, hll⟩ := hrel
      have HTL := hid hT
      have HAR := hid hargs
      have HKL := hid hk
      have HLL := hid hll
      obtain ⟨pa, pc, rfl, hpl, hpm⟩ := OwnR.val' hT.own
      obtain ⟨b0, b1, b2, bf⟩ := hT.rd.cells
      have hgl := hT.rd.lt.1
      clear hT hargs hk hll HL0
      cases hbd : rr.bad with
      | true =>
        rw [hbd] at b2
        have HBD := hid (show goalsRN (termR 24) (r.s.length + 1) [] r = (l, rr) by rw [HAR.out, goalsRN_bad _ _ _ hbd])
        clear hbd
        go_wp2_with fail
        go_meet
        case rel =>
          rw [HBD.out]
          exact ⟨_, HTL.out⟩
      | false =>
        rw [hbd] at b2
        have HBD := hid hbd
        obtain ⟨X, hX⟩ : ∃ X, X = termR 24 rr := ⟨_, rfl⟩
        have hcall := rterm_ok (B := B) (base := base) (g := g) 24 (by omega) 1 (by omega) vr rr wr HTL.out.rd
        have hxl := term_len 24 rr
        rw [← hX] at hcall hxl
        have HCALL := hid hcall
        have HXE := hid hX
        have HXL := hid hxl
        clear hbd hcall hX hxl
        go_wp2_with fail
        refine HCALL.out.mono ?_
        rintro e w5 ⟨us, vr2, rfl, k1, k2, k3, k4⟩
        obtain ⟨ua, uc, rfl, -⟩ := Tm.rep4 k4
        have hol := HTL.out.own.lt
        have HT5 := hid (HTL.out.move k1 k2 k3 (by have := HXL.out; have := HLL.out; omega))
        have HCH0 := hid HTL.out.ch.size
        have HN5 := hid (show Tm.rep (fun b => (w.heap.size ≤ b ∧ ¬ RdM g vr2 b) ∧ ownB (.slice pa l.length pc) ≠ some b) w5 X.1 _ from Tm.rep_lasts.2.1 _ _ _ _ _ k4 fun b _ hb => ⟨⟨Nat.le_trans HCH0.out hb.1, hb.2⟩, fun e => by have := (hol b e).2; have := hb.1; omega⟩)
        have HLE := hid (show l.length < 4194304 ∧ w.heap.size ≤ w5.heap.size from ⟨by have := HLL.out; omega, HT5.out.ch.size⟩)
        clear k1 k2 k3 k4 b0 b1 b2 bf hgl
        go_wp2_with (at_builtin; go_must (refine wpList_app1 rfl (.tmp 9) (.tmp 12) 22 rfl w.heap.size 27 4 56 tyTerm Tm.rep_lasts (A := fun b => w.heap.size ≤ b ∧ ¬ RdM g vr2 b) (.slice pa l.length pc) l rfl HT5.out.own X.1 [_, _, _, _] (by rfl) rfl HN5.out HLE.out ?_); go_must (intro v2 w6 hown hg; obtain ⟨pa2, pc2, hv2, -⟩ := OwnR.val' hown; rw [show (l ++ [X.1]).length = l.length + 1 by simp] at hv2; subst hv2; have HT7 := hid (HT5.out.push hBx hown hg (by have := HXL.out; have := HLL.out; omega)); clear hown hg))
        have HAT : Hid (Calls Tryd.prog 27 #[.pointer (some ⟨g, 0, none⟩), .string ⟨#[44]⟩] w6 _) := hid (rat_ok [44] (by simp) HT7.out.rd)
        refine HAT.out.mono ?_
        rintro e w8 ⟨rfl, v8, k1, k2, k3⟩
        have hal := at_len (sg := [44]) X.2
        have HT8 := hid (HT7.out.move k1 k2 k3 (by have := HXL.out; have := HLL.out; have := hal.1; simp only [List.length_append, List.length_singleton]; omega))
        have HAL := hid hal
        clear k1 k2 k3 hal
        cases hat : (X.2.at_ [44]).1 with
        | false =>
          have HAT2 := hid (show goalsRN (termR 24) (r.s.length + 1) [] r = (l ++ [X.1], (X.2.at_ [44]).2) by rw [HAR.out, goalsRN_no HBD.out (by rw [← HXE.out]; exact hat), ← HXE.out])
          clear hat
          go_wp2_with fail
          go_meet
          case rel =>
            rw [HAT2.out]
            exact ⟨_, HT8.out⟩
        | true =>
          have HAT2 := hid (show goalsRN (termR 24) (r.s.length + 1) [] r = goalsRN (termR 24) k (l ++ [X.1]) (X.2.at_ [44]).2 by rw [HAR.out, goalsRN_go HBD.out (by rw [← HXE.out]; exact hat), ← HXE.out])
          have HAL2 := hid (HAL.out.2 hat)
          clear hat
          go_wp2_with fail
          go_roundw
          case rel =>
            have h1 := HAL2.out
            have h2 := HXL.out
            have h3 := HKL.out
            have h4 := HLL.out
            simp only [List.length_singleton] at h1
            exact ⟨k - 1, l ++ [X.1], (X.2.at_ [44]).2, v8, HT8.out, by rw [HAT2.out, show k - 1 + 1 = k by omega], by omega, by simp only [List.length_append, List.length_singleton]; omega⟩
          case measure =>
            have h1 := HAL2.out
            have h2 := HXL.out
            simp only [List.length_singleton] at h1
            rw [rdMu_of HT8.out.rd, rdMu_of HTL.out.rd]
            omega
  case rest =>
    obtain ⟨vx, hT⟩ := hcut
    obtain ⟨A, hA⟩ : ∃ A, A = goalsRN (termR 24) (r.s.length + 1) [] r := ⟨_, rfl⟩
    rw [← hA] at hT
    have HTL := hid hT
    have HA := hid hA
    obtain ⟨pa, pc, rfl, hpl, hpm⟩ := OwnR.val' hT.own
    clear hT hA HL0
    have HAT : Hid (Calls Tryd.prog 27 #[.pointer (some ⟨g, 0, none⟩), .string ⟨#[46]⟩] wc _) := hid (rat_ok [46] (by simp) HTL.out.rd)
    go_wp2_with fail
    refine HAT.out.mono ?_
    rintro e w8 ⟨rfl, v8, k1, k2, k3⟩
    have hal := at_len (sg := [46]) A.2
    have HT8 := hid (HTL.out.move k1 k2 k3 (by have := HTL.out.ll; have := hal.1; omega))
    clear k1 k2 k3 hal
    cases hat : (A.2.at_ [46]).1 with
    | true =>
      have HM := hid (show A.2.must [46] = (A.2.at_ [46]).2 by unfold Rd.must; rw [if_pos hat])
      have HT9 := HT8
      clear hat
      go_wp2_with fail
      go_ret
      rw [HG0.out, ← HA.out, HM.out]
      exact ⟨_, v8, rfl, HT9.out.rd, HT9.out.ch, HT9.out.vg, OwnR.sl' Tm.rep_lasts HT9.out.own (show A.1.length ≤ 1048576 by have := HT9.out.ll; omega) fun b hb => ⟨(HT9.out.own.lt b hb).1, HT9.out.na b hb⟩, by have := HT9.out.ll; simp only; omega⟩
    | false =>
      have HM := hid (show A.2.must [46] = (A.2.at_ [46]).2.kill by unfold Rd.must; rw [if_neg (by rw [hat]; simp)])
      obtain ⟨b0, b1, b2, bf⟩ := HT8.out.rd.cells
      have hgl8 := HT8.out.rd.lt.1
      obtain ⟨v9, k1, k2, k3⟩ := HT8.out.rd.setBad true
      have HT9 := hid (HT8.out.move k1 k2 k3 (by have := HT8.out.ll; exact this))
      clear hat k1 k2 k3
      go_wp2_with fail
      go_ret
      rw [HG0.out, ← HA.out, HM.out]
      exact ⟨_, v9, rfl, HT9.out.rd, HT9.out.ch, HT9.out.vg, OwnR.sl' Tm.rep_lasts HT9.out.own (show A.1.length ≤ 1048576 by have := HT9.out.ll; omega) fun b hb => ⟨(HT9.out.own.lt b hb).1, HT9.out.na b hb⟩, by have := HT9.out.ll; simp only; omega⟩
end
end Go.Proofs.YtlpmfkpefoegeacDoor
