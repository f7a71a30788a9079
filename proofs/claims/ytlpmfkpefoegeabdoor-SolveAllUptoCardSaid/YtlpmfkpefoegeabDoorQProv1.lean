/-
  The document's prover in memory: what is bound; look.
-/
import Derived.Test.YtlpmfkpefoegeabDoorQSolveF
import Derived.Test.YtlpmfkpefoegeabDoorPProve
namespace Go.Proofs.YtlpmfkpefoegeabDoor
set_option linter.unusedVariables false
set_option linter.unusedSimpArgs false
open Go.RowKit
def EnvQ (A : Nat → Prop) (w : World) : List (Int × Tm) → Value → Prop
  | [], v => v = .pointer none
  | p :: r, v => ∃ b a cap rv, v = .pointer (some ⟨b, 0, none⟩) ∧ A b ∧ w.heap[b]? = some (.cells #[.int .i64 p.1, .int .i64 p.2.kind, .int .i64 p.2.n, .string p.2.s, .slice a p.2.args.length cap, rv] 183 (0, 0)) ∧
      Tm.rep A w p.2 [.int .i64 p.2.kind, .int .i64 p.2.n, .string p.2.s, .slice a p.2.args.length cap] ∧ EnvQ A w r rv
theorem EnvQ.keeps {A : Nat → Prop} {w w' : World} : ∀ {l : List (Int × Tm)} {v : Value}, EnvQ A w l v → Keeps A w w' → EnvQ A w' l v
  | [], v, h, _ => h
  | p :: r, v, h, hk => by
    obtain ⟨b, a, cap, rv, h1, h2, h3, h4, h5⟩ := h
    exact ⟨b, a, cap, rv, h1, h2, blk_keeps h3 hk h2, Tm.rep_lasts.1 _ _ _ _ _ h4 hk, EnvQ.keeps h5 hk⟩
theorem EnvQ.mono {A A' : Nat → Prop} {w : World} : ∀ {l : List (Int × Tm)} {v : Value}, EnvQ A w l v → (∀ b, b < w.heap.size → A b → A' b) → EnvQ A' w l v
  | [], v, h, _ => h
  | p :: r, v, h, hk => by
    obtain ⟨b, a, cap, rv, h1, h2, h3, h4, h5⟩ := h
    exact ⟨b, a, cap, rv, h1, hk b (blk_lt h3) h2, h3, Tm.rep_lasts.2.1 _ _ _ _ _ h4 hk, EnvQ.mono h5 hk⟩
theorem EnvQ.ptr {A : Nat → Prop} {w : World} {l : List (Int × Tm)} {v : Value} (h : EnvQ A w l v) : ∃ p, v = .pointer p := by
  cases l with
  | nil => exact ⟨none, h⟩
  | cons g r => obtain ⟨b, _, _, _, rfl, _⟩ := h; exact ⟨_, rfl⟩
theorem eget_rest {E : Env} {N : Int} (hE : EnvOk N E) {pre r : List (Int × Tm)} (h : E.reverse = pre ++ r) {n : Int} (hp : ∀ p ∈ pre, p.1 ≠ n) : (r = [] → eget E n = none) ∧ ∀ q r', r = q :: r' → (q.1 = n → eget E n = some q.2) := by
  have hm : ∀ p ∈ E, p ∈ pre ∨ p ∈ r := fun p hp => by
    have : p ∈ E.reverse := List.mem_reverse.2 hp
    rw [h] at this
    exact List.mem_append.1 this
  refine ⟨fun e => ?_, fun q r' e hq => ?_⟩
  · subst e
    rw [eget_none]
    intro p hpE
    rcases hm p hpE with h1 | h1
    · exact hp p h1
    · cases h1
  · subst e
    have hqE : q ∈ E := by
      have : q ∈ E.reverse := by rw [h]; simp
      exact List.mem_reverse.1 this
    cases hg : eget E n with
    | none => exact absurd hq (eget_none.1 hg q hqE)
    | some x =>
      have hx := eget_mem hg
      have : x = q.2 := by
        by_cases e : (n, x) = q
        · rw [← e]
        · exfalso
          have hpw : (E.map (·.1)).Nodup := hE.nodup
          obtain ⟨i, hi, hie⟩ := List.mem_iff_getElem.1 hx
          obtain ⟨j, hj, hje⟩ := List.mem_iff_getElem.1 hqE
          have hij : i = j := by
            have h1 : (E.map (·.1))[i]'(by simpa using hi) = n := by simp [hie]
            have h2 : (E.map (·.1))[j]'(by simpa using hj) = n := by simp [hje, hq]
            exact (List.getElem_inj hpw).1 (h1.trans h2.symm)
          subst hij
          exact e (hie.symm.trans hje)
      rw [this]
set_option maxRecDepth 100000 in
set_option maxHeartbeats 4000000 in
theorem elook_ok {E : Env} {N : Int} (hE : EnvOk N E) (t : Tm) (ht : t.In N) (A : Nat → Prop) (w : World) (ev : Value) (vs : List Value) (he : EnvQ A w E.reverse ev) (hv : Tm.rep A w t vs) :
    Calls Tryd.prog 125 #[ev, .agg vs.toArray] w (TmPost A w (slook E t)) := by
  have HE := hid hE
  have HT := hid ht
  obtain ⟨a, cap, rfl, -⟩ := Tm.rep4 hv
  have HV := hid (Tm.rep_lasts.2.1 _ (fun b => A b ∧ b < w.heap.size) _ _ _ hv fun b hb hA => ⟨hA, hb⟩)
  have HQ := hid (EnvQ.mono (A' := fun b => A b ∧ b < w.heap.size) he fun b hb hA => ⟨hA, hb⟩)
  obtain ⟨ep, rfl⟩ := he.ptr
  have hcs := cell_set
  clear hE ht hv he
  go_enter Tryd.func125, Tryd.ntmps125
  go_wp2_with fail
  have HB0 := hid (((Below.refl _ w).alloc (Nat.le_refl _) (.cells #[.int .i64 t.kind, .int .i64 t.n, .string t.s, .slice a t.args.length cap] 31)).alloc (by simp) (.cells #[.int .i64 0, .int .i64 0, .string ByteArray.empty, .slice none 0 0] 31))
  have HX0 := hid (heap2 w (.cells #[.int .i64 t.kind, .int .i64 t.n, .string t.s, .slice a t.args.length cap] 31) (.cells #[.int .i64 0, .int .i64 0, .string ByteArray.empty, .slice none 0 0] 31))
  go_loopg [5] ((t.n.toNat + 1) * (E.length + 1) + E.length + 1) (fun gk x wr => ∃ (t' : Tm) (a' : Option Addr) (cap' : Nat) (pre r : List (Int × Tm)), Below w.heap.size w wr ∧ wr.heap[w.heap.size]? = some (.cells #[.int .i64 t'.kind, .int .i64 t'.n, .string t'.s, .slice a' t'.args.length cap'] 31 (0, 0)) ∧ wr.heap[w.heap.size + 1]? = some (.cells #[.int .i64 0, .int .i64 0, .string ByteArray.empty, .slice none 0 0] 31 (0, 0)) ∧
      Tm.rep (fun b => A b ∧ b < w.heap.size) wr t' [.int .i64 t'.kind, .int .i64 t'.n, .string t'.s, .slice a' t'.args.length cap'] ∧ t'.In N ∧ slook E t' = slook E t ∧ E.reverse = pre ++ r ∧ (∀ p ∈ pre, p.1 ≠ t'.n) ∧ EnvQ (fun b => A b ∧ b < w.heap.size) wr r x ∧ (if t'.kind = 0 then t'.n.toNat + 1 else 0) * (E.length + 1) + r.length < gk)
  case atStart => exact ⟨t, a, cap, [], E.reverse, HB0.out, HX0.out.1, HX0.out.2, Tm.rep_lasts.1 _ _ _ _ _ HV.out (Keeps.of_below HB0.out), HT.out, rfl, rfl, by simp, HQ.out.keeps (Keeps.of_below HB0.out), by
    rw [List.length_reverse]
    split
    · omega
    · omega⟩
  case round =>
    obtain ⟨t', a', cap', pre, r, hb, hx, hy, hr, hin, hsl, hpr, hpn, hq, hk⟩ := hrel
    have HB := hid hb
    have HX := hid hx
    have HY := hid hy
    have HR := hid hr
    have HIN := hid hin
    have HSL := hid hsl
    have HPR := hid hpr
    have HPN := hid hpn
    have HK := hid hk
    have HQ2 := hid hq
    have hz := blk_lt hy
    have hz0 : w.heap.size < wr.heap.size := by omega
    obtain ⟨x0, x1, x2, x3, xf⟩ := blk4 hx
    obtain ⟨y0, y1, y2, y3, yf⟩ := blk4 hy
    have hgr := fun n hp => eget_rest (n := n) HE.out HPR.out hp
    have HGR := hid (hgr t'.n HPN.out)
    have HQW := hid (HQ.out.keeps (Keeps.of_below hb))
    clear hb hx hy hr hin hsl hpr hpn hk hgr
    cases r with
    | nil =>
      simp only [EnvQ] at hq
      subst hq
      by_cases hkd : t'.kind = 0
      · have hno := HGR.out.1 rfl
        have HNO := hid hno
        clear hno hkd
        go_wp2_with fail
        refine bodyPost_ret (v := .agg #[.int .i64 t'.kind, .int .i64 t'.n, .string t'.s, .slice a' t'.args.length cap']) (by simp [results, Tryd.results125, go_sem, hcs, x0, x1, x2, x3, y0, y1, y2, y3, hz0, hz]; try rfl) rfl ?_
        have hfin : slook E t = t' := by rw [← HSL.out]; exact slook_stop (.inr HNO.out)
        refine ⟨.agg #[.int .i64 t'.kind, .int .i64 t'.n, .string t'.s, .slice a' t'.args.length cap'], rfl, ?_, [.int .i64 t'.kind, .int .i64 t'.n, .string t'.s, .slice a' t'.args.length cap'], rfl, ?_⟩
        · exact below_set4 HB.out (by omega) _ _ _ _
        · rw [hfin]
          exact Tm.rep_lasts.2.1 _ _ _ _ _ (Tm.rep_lasts.1 _ _ _ _ _ HR.out (keeps_set4 (fun b => A b ∧ b < w.heap.size) wr (g := w.heap.size + 1) (by omega) _ _ _ _)) (fun b _ hb => hb.1)
      · have HKD := hid hkd
        clear hkd
        go_wp2_with fail
        refine bodyPost_ret (v := .agg #[.int .i64 t'.kind, .int .i64 t'.n, .string t'.s, .slice a' t'.args.length cap']) (by simp [results, Tryd.results125, go_sem, hcs, x0, x1, x2, x3, y0, y1, y2, y3, hz0, hz]; try rfl) rfl ?_
        have hfin : slook E t = t' := by rw [← HSL.out]; exact slook_stop (.inl HKD.out)
        refine ⟨.agg #[.int .i64 t'.kind, .int .i64 t'.n, .string t'.s, .slice a' t'.args.length cap'], rfl, ?_, [.int .i64 t'.kind, .int .i64 t'.n, .string t'.s, .slice a' t'.args.length cap'], rfl, ?_⟩
        · exact below_set4 HB.out (by omega) _ _ _ _
        · rw [hfin]
          exact Tm.rep_lasts.2.1 _ _ _ _ _ (Tm.rep_lasts.1 _ _ _ _ _ HR.out (keeps_set4 (fun b => A b ∧ b < w.heap.size) wr (g := w.heap.size + 1) (by omega) _ _ _ _)) (fun b _ hb => hb.1)
    | cons q r' =>
      obtain ⟨b, qa, qc, rv, rfl, hAb, hqb, hqr, hqn⟩ := hq
      obtain ⟨rp, rfl⟩ := hqn.ptr
      by_cases hkd : t'.kind = 0
      · obtain ⟨q0, q1, q2, q3, q4, q5, qf⟩ := blk6 hqb
        have hqbl := blk_lt hqb
        have HKD := hid hkd
        have HQR := hid hqr
        have HQN := hid hqn
        have hbw := hAb.2
        have hqmem : q ∈ E := by
          have : q ∈ E.reverse := by rw [HPR.out]; simp
          exact List.mem_reverse.1 this
        have HMEM := hid hqmem
        clear hqb hqr hqn hAb hqmem
        rw [hkd] at x0
        clear hkd
        by_cases hqe : q.1 = t'.n
        · have HQE := hid hqe
          have hqd : (q.1 == t'.n) = true := by simpa using hqe
          clear hqe
          go_wp2_with fail
          go_quiet (fail)
          have HBQ := hid (show Below wr.heap.size wr (wr.drewN nq) from ⟨rfl, rfl, rfl, Nat.le_refl _, fun _ _ => rfl⟩)
          have HXQ := hid (show (wr.drewN nq).heap[w.heap.size]? = _ from HX.out)
          have HYQ := hid (show (wr.drewN nq).heap[w.heap.size + 1]? = _ from HY.out)
          have HBw := hid (show Below w.heap.size w (wr.drewN nq) from HB.out.trans (HBQ.out.mono HB.out.size))
          have hkq := Keeps.of_below (A := fun _ => True) HBQ.out
          replace q0 := hkq.cell trivial q0
          replace q1 := hkq.cell trivial q1
          replace q2 := hkq.cell trivial q2
          replace q3 := hkq.cell trivial q3
          replace q4 := hkq.cell trivial q4
          replace q5 := hkq.cell trivial q5
          have HQR2 := hid (Tm.rep_lasts.1 _ _ _ _ _ HQR.out (Keeps.of_below HBQ.out))
          have hsq : (wr.drewN nq).heap.size = wr.heap.size := rfl
          generalize wr.drewN nq = W2 at *
          clear x0 x1 x2 x3 xf y0 y1 y2 y3 yf hkq
          obtain ⟨x0, x1, x2, x3, xf⟩ := blk4 HXQ.out
          rw [HKD.out] at x0
          have hqb2 : b < W2.heap.size := by omega
          have hw2 : w.heap.size < W2.heap.size := by omega
          have hbne : b ≠ w.heap.size := by omega
          clear hsq
          go_wp2_with fail
          go_roundg ((if q.2.kind = 0 then q.2.n.toNat + 1 else 0) * (E.length + 1) + E.reverse.length + 1)
          case measure =>
            have h1 := HK.out
            rw [if_pos HKD.out] at h1
            simp only [List.length_cons] at h1
            rw [List.length_reverse]
            by_cases hk2 : q.2.kind = 0
            · rw [if_pos hk2]
              have h2 := HE.out.less q HMEM.out hk2
              have h3 := (HE.out.tm q HMEM.out).n hk2
              have h4 := HQE.out
              have h5 : q.2.n.toNat + 1 ≤ t'.n.toNat := by omega
              have h6 : (q.2.n.toNat + 1) * (E.length + 1) + (E.length + 1) ≤ (t'.n.toNat + 1) * (E.length + 1) := by
                have := Nat.mul_le_mul_right (E.length + 1) h5
                rw [Nat.add_mul t'.n.toNat 1]
                omega
              omega
            · rw [if_neg hk2]
              have h6 : (E.length + 1) ≤ (t'.n.toNat + 1) * (E.length + 1) := Nat.le_mul_of_pos_left _ (by omega)
              omega
          case rel =>
            have hK4 : Keeps (fun b => A b ∧ b < w.heap.size) W2 ((((W2.setCell ⟨w.heap.size, 0, none⟩ (.int .i64 q.2.kind)).setCell ⟨w.heap.size, 1, none⟩ (.int .i64 q.2.n)).setCell ⟨w.heap.size, 2, none⟩ (.string q.2.s)).setCell ⟨w.heap.size, 3, none⟩ (.slice qa q.2.args.length qc)) := keeps_set4 _ _ (by omega) _ _ _ _
            refine ⟨q.2, qa, qc, [], E.reverse, below_set4 HBw.out (Nat.le_refl _) _ _ _ _, set4 HXQ.out, (set4_other _ _ _ _ _ _ _ (by omega)).trans HYQ.out, Tm.rep_lasts.1 _ _ _ _ _ HQR2.out hK4, HE.out.tm q HMEM.out, ?_, rfl, by simp, (HQ.out.keeps (Keeps.of_below HBw.out)).keeps hK4, Nat.lt_succ_self _⟩
            rw [← HSL.out]
            exact (slook_step HE.out HIN.out HKD.out ((HGR.out.2 q r' rfl) HQE.out)).symm
        · have HQE := hid hqe
          have hqd : (q.1 == t'.n) = false := by simpa using hqe
          clear hqe
          go_wp2_with fail
          go_quiet (fail)
          have HBQ := hid (show Below wr.heap.size wr (wr.drewN nq) from ⟨rfl, rfl, rfl, Nat.le_refl _, fun _ _ => rfl⟩)
          have HXQ := hid (show (wr.drewN nq).heap[w.heap.size]? = _ from HX.out)
          have HYQ := hid (show (wr.drewN nq).heap[w.heap.size + 1]? = _ from HY.out)
          have HBw := hid (show Below w.heap.size w (wr.drewN nq) from HB.out.trans (HBQ.out.mono HB.out.size))
          have hkq := Keeps.of_below (A := fun _ => True) HBQ.out
          replace q5 := hkq.cell trivial q5
          have HR2 := hid (Tm.rep_lasts.1 _ _ _ _ _ HR.out (Keeps.of_below HBQ.out))
          have HQN2 := hid (HQN.out.keeps (Keeps.of_below HBQ.out))
          have hsq : (wr.drewN nq).heap.size = wr.heap.size := rfl
          generalize wr.drewN nq = W2 at *
          clear x0 x1 x2 x3 xf y0 y1 y2 y3 yf hkq q0 q1 q2 q3 q4
          have hqb2 : b < W2.heap.size := by omega
          clear hsq
          go_wp2_with fail
          go_roundg (gk - 1)
          case measure => have h1 := HK.out; omega
          case rel =>
            refine ⟨t', a', cap', pre ++ [q], r', HBw.out, HXQ.out, HYQ.out, HR2.out, HIN.out, HSL.out, by rw [HPR.out]; simp, fun p hp => ?_, HQN2.out, ?_⟩
            · rcases List.mem_append.1 hp with hp | hp
              · exact HPN.out p hp
              · simp only [List.mem_singleton] at hp; subst hp; exact HQE.out
            · have h1 := HK.out
              simp only [List.length_cons] at h1
              omega
      · have HKD := hid hkd
        have hkd' : (t'.kind == 0) = false := by simpa using hkd
        clear hqb hqr hqn
        go_wp2_with fail
        refine bodyPost_ret (v := .agg #[.int .i64 t'.kind, .int .i64 t'.n, .string t'.s, .slice a' t'.args.length cap']) (by simp [results, Tryd.results125, go_sem, hcs, x0, x1, x2, x3, y0, y1, y2, y3, hz0, hz]; try rfl) rfl ?_
        have hfin : slook E t = t' := by rw [← HSL.out]; exact slook_stop (.inl HKD.out)
        refine ⟨.agg #[.int .i64 t'.kind, .int .i64 t'.n, .string t'.s, .slice a' t'.args.length cap'], rfl, ?_, [.int .i64 t'.kind, .int .i64 t'.n, .string t'.s, .slice a' t'.args.length cap'], rfl, ?_⟩
        · exact below_set4 HB.out (by omega) _ _ _ _
        · rw [hfin]
          exact Tm.rep_lasts.2.1 _ _ _ _ _ (Tm.rep_lasts.1 _ _ _ _ _ HR.out (keeps_set4 (fun b => A b ∧ b < w.heap.size) wr (g := w.heap.size + 1) (by omega) _ _ _ _)) (fun b _ hb => hb.1)
end Go.Proofs.YtlpmfkpefoegeabDoor
