/-
  Two lists of terms of a call's own, each grown by append; an append's step; two operations that may come up.
-/
import Derived.Test.YtlpmfkpefoegeabQMaker
import Derived.StillTailTactics
import Derived.Test.YtlpmfkpefoegeabQCopyHeap
namespace Go.Proofs.Ytlpmfkpefoegeab
set_option linter.unusedVariables false
set_option linter.unusedSimpArgs false
set_option maxRecDepth 100000
open Go.RowKit
def goalF (c : List Ce) (t : Tm) : List Ce := if t.kind = 3 then frameF c t else putF (c ++ [⟨0, 0, ByteArray.empty⟩]) c.length t
theorem put_len_flat {c : List Ce} {k : Nat} {t : Tm} (h : t.kind ≠ 3) : (putF c k t).length = c.length := by
  obtain ⟨kd, n, s, l⟩ := t
  simp only [Tm.kind] at h
  simp only [putF, if_neg h]
  repeat' split
  all_goals simp
set_option maxHeartbeats 2000000 in
theorem mgoal_ok (t : Tm) (g base : Nat) (l : List Ce) (cv : Value) (A : Nat → Prop) (w : World) (vs : List Value) (hm : MkI g base l cv w) (hlen : l.length + 1 + 2 * t.nodes ≤ 4194304) (hv : Tm.rep A w t vs) (hA : ∀ b, A b → b < w.heap.size ∧ ¬ MkM g cv b) :
    Calls Try.prog 29 #[.pointer (some ⟨g, 0, none⟩), .agg vs.toArray] w (fun e w' => e = .returned (.int .i64 (l.length : Int)) ∧ MStep g base cv w (goalF l t) w') := by
  have HV := hid hv
  have HM := hid hm
  have HA := hid hA
  obtain ⟨sa, sc, rfl, -⟩ := Tm.rep4 hv
  obtain ⟨ca, cc, rfl, hcc, hccm⟩ := OwnF.val hm.own
  obtain ⟨b0, bf⟩ := blk1 hm.box
  have hgs := blk_lt hm.box
  have hbw := hm.base_le
  have hgb := hm.lt
  have hcs := cell_set
  have HOWB := hid (fun b (hb : ownB (.slice ca l.length cc) = some b) => hm.own.lt b hb)
  have HLEN := hid hlen
  have hll : l.length + 1 ≤ 4194304 := by omega
  clear hv hA hlen
  by_cases h3 : t.kind = 3
  · have HP := hid (show goalF l t = frameF l t by rw [goalF, if_pos h3])
    have HF := hid (frame_ok t)
    clear hm
    rw [h3] at HV ⊢
    go_enter Try.func29, Try.ntmps29
    go_wp2_with fail
    refine (HF.out g base l (.slice ca l.length cc) A _ [_, _, _, _] (HM.out.below ((Below.refl _ _).alloc (Nat.le_refl _) _)) (by have := HLEN.out; omega) (Tm.rep_lasts.1 _ _ _ _ _ HV.out (Keeps.alloc _ _ _)) (fun b hb => ⟨by have := (HA.out b hb).1; simp; omega, (HA.out b hb).2⟩)).mono ?_
    rintro e w1 ⟨rfl, hst⟩
    have HST := hid (MStep.trans ((Ch.refl _ _).alloc _) (fun b hb => .inl hb) hst)
    clear hst b0 bf
    go_wp2_with fail
    go_ret
    exact ⟨rfl, by rw [HP.out]; exact HST.out⟩
  · have HP := hid (show goalF l t = putF (l ++ [⟨0, 0, ByteArray.empty⟩]) l.length t by rw [goalF, if_neg h3])
    have h3' : (t.kind == 3) = false := by simpa using h3
    have HFL := hid (put_len_flat (c := l ++ [⟨0, 0, ByteArray.empty⟩]) (k := l.length) h3)
    have HBX := hid (blk_alloc (blk_alloc hm.box (.cells #[.int .i64 t.kind, .int .i64 t.n, .string t.s, .slice sa t.args.length sc] 24)) (.cells #[.int .i64 0, .int .i64 0, .string ByteArray.empty] 71))
    have HTX := hid (blk_new w (.cells #[.int .i64 t.kind, .int .i64 t.n, .string t.s, .slice sa t.args.length sc] 24))
    have HOR := hid (OwnF.ownR Ce.vals_len (OwnF.below hm.own ((Below.refl _ _).alloc (Nat.le_refl _) (.cells #[.int .i64 t.kind, .int .i64 t.n, .string t.s, .slice sa t.args.length sc] 24))) (fun _ => True))
    clear h3 hm
    go_enter Try.func29, Try.ntmps29
    go_wp2_with (at_builtin; go_must (refine wpList_app1 rfl (.tmp 15) (.tmp 17) 27 rfl base 71 3 32 tyCells Ce.rep_lasts (A := fun _ => True) (.slice ca l.length cc) l rfl HOR.out (⟨0, 0, ByteArray.empty⟩ : Ce) [.int .i64 0, .int .i64 0, .string ByteArray.empty] (by simp only [World.size_alloc]; rfl) rfl ⟨⟨by unfold I64; simp only; omega, by unfold I64; simp only; omega, by decide⟩, rfl⟩ ⟨by omega, by simp; omega⟩ ?_); go_must (intro v2 w2 hown hgrew; have HO2 := hid (OwnF.of_ownR hown); obtain ⟨va2, vc2, hv2, hvl2, hvm2⟩ := OwnF.val HO2.out; rw [List.length_append, List.length_singleton] at hv2; subst hv2; have HB2 := hid (show w2.heap[g]? = _ from (hgrew.grown.block g (by simp; omega) (fun e => by have := (HOWB.out _ e.symm).1; omega)).trans HBX.out); obtain ⟨y0, yf⟩ := blk1 HB2.out; have hgs2 := blk_lt HB2.out; have HG2 := hid hgrew; have hz2 := hgrew.size; clear hown hgrew b0 bf))
    have hst := mgrew_of HM.out hll (Ch.refl (MkM g (.slice ca l.length cc)) (w.alloc (.cells #[.int .i64 t.kind, .int .i64 t.n, .string t.s, .slice sa t.args.length sc] 24))) (by simp) HO2.out HB2.out HG2.out
    clear y0 yf hgs2 hz2 HO2 HB2 HG2 HBX HOR
    generalize w2.setCell ⟨g, 0, none⟩ (.slice va2 (l.length + 1) vc2) = W1 at hst ⊢
    obtain ⟨cv1, hm1, hc1, ho1⟩ := hst
    obtain ⟨c1a, c1c, rfl, hl1, hm1c⟩ := OwnF.val hm1.own
    have hl1l : (l ++ [(⟨0, 0, ByteArray.empty⟩ : Ce)]).length = l.length + 1 := by simp
    rw [hl1l] at hl1 hm1 ho1
    obtain ⟨y0, yf⟩ := blk1 hm1.box
    have hgs1 := blk_lt hm1.box
    obtain ⟨x0, x1, x2, x3, xf⟩ := blk4 ((hc1.block w.heap.size (by simp) (fun e => by
      rcases e with e | e
      · omega
      · have := (HOWB.out _ e).2; omega)).trans HTX.out)
    have hxs : w.heap.size < W1.heap.size := by have := hc1.size; simp at this; omega
    have HM1 := hid hm1
    have HC1 := hid hc1
    have HO1 := hid ho1
    have HK1 := hid (show Keeps A w W1 from (Keeps.alloc A w _).trans (hc1.keeps (A := A) (fun b _ hb => (HA.out b hb).2)))
    clear hm1 hc1 ho1
    go_still_tail 8, (by kernel_rfl)
    change wpList _ _ _ _ _ W1.drew
    have HPT := hid (put_ok t g base l.length (l ++ [(⟨0, 0, ByteArray.empty⟩ : Ce)]) (.slice c1a (l.length + 1) c1c) A W1.drew [_, _, _, _] (HM1.out.below (Below.refl _ _).drew) (by simp) (by have := HLEN.out; simp; omega) (Tm.rep_lasts.1 _ _ _ _ _ (Tm.rep_lasts.1 _ _ _ _ _ HV.out HK1.out) (Keeps.drew _ _)) (fun b hb => ⟨by have := (HA.out b hb).1; simp; omega, fun e => by
      rcases e with e | e
      · exact (HA.out b hb).2 (.inl e)
      · rcases HO1.out b e with e | e
        · exact (HA.out b hb).2 (.inr e)
        · have := (HA.out b hb).1; simp at e; omega⟩))
    have HC2 := hid (show Ch (MkM g (.slice ca l.length cc)) _ W1.drew from HC1.out.drew)
    generalize W1.drew = w4 at HPT HC2 ⊢
    clear y0 yf x0 x1 x2 x3 xf
    go_wp2_with fail
    refine (HPT.out).mono ?_
    rintro e w3 ⟨⟨v3, rfl⟩, hst3⟩
    obtain ⟨cv2, hm2, hc2, ho2⟩ := MStep.trans HC2.out HO1.out hst3
    obtain ⟨c2a, c2c, rfl, hl2, hm2c⟩ := OwnF.val hm2.own
    have hf := HFL.out
    rw [hl1l] at hf
    rw [hf] at hl2 hm2 ho2
    have HS2 := hid (MStep.trans ((Ch.refl _ _).alloc _) (fun b hb => .inl hb) ⟨_, hm2, hc2, ho2⟩)
    obtain ⟨y0, yf⟩ := blk1 hm2.box
    have hgs2 := blk_lt hm2.box
    clear hst3 hm2 hc2 ho2 hf
    go_wp2_with fail
    go_ret
    exact ⟨by simp, by rw [HP.out]; exact HS2.out⟩
def begF (n : Nat) : List Ce := (List.range n).map fun (i : Nat) => (⟨0, (i : Int), ByteArray.empty⟩ : Ce)
theorem begF_len (n : Nat) : (begF n).length = n := by simp [begF]
theorem begF_succ (n : Nat) : begF (n + 1) = begF n ++ [⟨0, (n : Int), ByteArray.empty⟩] := by simp [begF, List.range_succ]
set_option maxHeartbeats 2000000 in
theorem begun_ok (n : Nat) (hn : n ≤ 65536) (w : World) :
    Calls Try.prog 28 #[.int .i64 (n : Int)] w (fun e w' => ∃ cv, e = .returned (.pointer (some ⟨w.heap.size, 0, none⟩)) ∧ Below w.heap.size w w' ∧ MkI w.heap.size (w.heap.size + 1) (begF n) cv w') := by
  have hcs := cell_set
  go_enter Try.func28, Try.ntmps28
  go_wp2_with fail
  have HX := hid (blk_new w (.cells #[.slice none 0 0] 68))
  have HB := hid ((Below.refl _ w).alloc (Nat.le_refl _) (.cells #[.slice none 0 0] 68))
  obtain ⟨g, hg⟩ : ∃ g, g = w.heap.size := ⟨_, rfl⟩
  have HG := hid hg
  have hz0 : g < (w.alloc (.cells #[.slice none 0 0] 68)).heap.size := by rw [hg]; simp
  rw [← hg] at HX
  rw [← hg]
  clear hg
  go_loopw [8] (fun i W => ∃ (j : Nat) (cv : Value), j ≤ n ∧ i = .int .i64 (j : Int) ∧ Below w.heap.size w W ∧ MkI g (g + 1) (begF j) cv W) (fun i _ => n - (intOf i).toNat)
  case atStart => exact ⟨0, _, Nat.zero_le _, rfl, HB.out, HX.out, OwnF.nil, by omega, by simp [begF], by omega⟩
  case round =>
    obtain ⟨j, cv, hj, rfl, hb, hm⟩ := hrel
    have HBL := hid hb
    have HM := hid hm
    obtain ⟨ca, cc, rfl, hl1, hmc⟩ := OwnF.val hm.own
    rw [begF_len] at hl1 hm HM
    obtain ⟨y0, yf⟩ := blk1 hm.box
    have hgs := blk_lt hm.box
    have hbw := hm.base_le
    have HOWB := hid (fun b (hb : ownB (.slice ca j cc) = some b) => hm.own.lt b hb)
    have HOR := hid (OwnF.ownR Ce.vals_len hm.own (fun _ => True))
    have HBX := hid (blk_alloc hm.box (.cells #[.int .i64 0, .int .i64 (j : Int), .string ByteArray.empty] 71))
    clear hb hm
    by_cases hlt : j < n
    · have hlt' : (j : Int) < (n : Int) := by omega
      have hl2 : (begF j).length < 4194304 := by rw [begF_len]; omega
      go_wp2_with (at_builtin; go_must (refine wpList_app1 rfl (.tmp 15) (.tmp 18) 27 rfl (g + 1) 71 3 32 tyCells Ce.rep_lasts (A := fun _ => True) (.slice ca j cc) (begF j) rfl HOR.out (⟨0, (j : Int), ByteArray.empty⟩ : Ce) [.int .i64 0, .int .i64 (j : Int), .string ByteArray.empty] rfl rfl ⟨⟨by unfold I64; simp only; omega, by unfold I64; simp only; omega, (show ByteArray.empty.size ≤ 1048576 by decide)⟩, rfl⟩ ⟨hl2, hbw⟩ ?_); go_must (intro v2 w2 hown hgrew; have HO2 := hid (OwnF.of_ownR hown); obtain ⟨va2, vc2, hv2, hvl2, hvm2⟩ := OwnF.val HO2.out; rw [List.length_append, List.length_singleton, begF_len] at hv2; subst hv2; have HB2 := hid (show w2.heap[g]? = _ from (hgrew.grown.block g (by simp; omega) (fun e => by have := (HOWB.out _ e.symm).1; omega)).trans HBX.out); obtain ⟨z0, zf⟩ := blk1 HB2.out; have hgs2 := blk_lt HB2.out; have HG2 := hid hgrew; have hz2 := hgrew.size; clear hown hgrew y0 yf))
      go_roundw
      case rel =>
        obtain ⟨cv', h1, h2, h3⟩ := mgrew_of HM.out (by rw [begF_len]; omega) (Ch.refl _ _) (Nat.le_refl _) HO2.out HB2.out HG2.out
        refine ⟨j + 1, cv', by omega, by go_num, ?_, by rw [begF_succ]; exact h1⟩
        refine ((Ch.of_below (M := fun _ => False) HBL.out).trans h2 (fun b hb => .inr ?_)).below (fun _ _ h => h)
        have hgw := HG.out
        rcases hb with rfl | hb
        · omega
        · have := (HOWB.out b hb).1; omega
      case measure => first | (simp [intOf]; done) | (simp [intOf]; omega)
    · have hje : j = n := by omega
      subst hje
      have hlt' : ¬ ((j : Int) < (j : Int)) := by omega
      clear hlt
      go_wp2_with fail
      go_ret
      have hm := HM.out
      rw [HG.out] at hm
      exact ⟨by rw [← HG.out]; rfl, HBL.out, _, hm⟩
end Go.Proofs.Ytlpmfkpefoegeab
namespace Go.Proofs.Ytlpmfkpefoegeab
set_option linter.unusedVariables false
set_option linter.unusedSimpArgs false
open Go.RowKit
def Out (B : Nat) (av bv : Value) (b : Nat) : Prop := B ≤ b ∧ ownB av ≠ some b ∧ ownB bv ≠ some b
structure Two (B : Nat) (w : World) (la lb : List Tm) (av bv : Value) : Prop where
  a : OwnR w B 24 4 Tm.rep (fun b => B ≤ b ∧ ownB bv ≠ some b) la av
  b : OwnR w B 24 4 Tm.rep (fun b => B ≤ b ∧ ownB av ≠ some b) lb bv
  sep : ∀ k, ownB av = some k → ownB bv ≠ some k
theorem Grew.new {w w' : World} {v v' : Value} (h : Grew w w' v v') {b : Nat} (hb : b < w.heap.size) (hn : ownB v ≠ some b) : ownB v' ≠ some b := fun e => by
  rcases h.block with h1 | h1
  · exact hn (h1 ▸ e)
  · have := h1 b e; omega
section
variable {P : Program} {ops : Array Oper} {Q : Exit → Act → World → Prop}
theorem wp_appS {w : World} {o : Oper} {a : Act} {K : Act → World → Prop} (s x : Operand) (t : TypeId)
    (ho : o.op = .call { callee := .builtin .append, args := #[s, x], argTypes := #[t, t] })
    (base : Nat) (e : TypeId) (size bytes : Nat) (hty : ElemTy P t e size bytes) {α : Type} {R : (Nat → Prop) → World → α → List Value → Prop} (hR : Lasts R) {A : Nat → Prop}
    (v : Value) (xs : List α) (hs : a.eval s = v) (hown : OwnR w base e size R A xs v) (xv : Value) (hxv : a.eval x = xv) (ys : List α) (hx : SlR size R (fun b => A b ∧ ownB v ≠ some b) w ys xv)
    (hlen : xs.length + ys.length ≤ 4194304) (hbase : base ≤ w.heap.size)
    (h : ∀ v' w', OwnR w' base e size R A (xs ++ ys) v' → Grew w w' v v' → K (a.put o.dst v') w') : o.wp P a w K Q := by
  obtain ⟨v', w', hr, k1, k2⟩ := run_appS (P := P) w base t o.type e size bytes hty hR v xs hown xv ys hx hlen hbase
  unfold Oper.wp execOp
  simp only [ho, resolve, invoke, builtin, Sem.run_bind, Sem.run_pure, Result.andThen_ok, List.map_toArray, List.map_cons, List.map_nil, hs, hxv, hr]
  exact h v' w' k1 k2
theorem wpAnyF_two {F : Nat → World → Prop} {i j : Nat} {fuel : Nat} {listed : Array Bool} {a : Act} {w : World} (hr : Region.ready .any ops listed = [i, j])
    (h1 : wpOp P ops Q i (fun a' w' => KeepF ops F i w w' ∧ wpAnyF P ops Q F fuel (listed.setIfInBounds i true) a' w') a w)
    (h2 : wpOp P ops Q j (fun a' w' => KeepF ops F j w w' ∧ wpAnyF P ops Q F fuel (listed.setIfInBounds j true) a' w') a w) : wpAnyF P ops Q F (fuel + 1) listed a w :=
  ⟨fun h0 => (by rw [hr] at h0; cases h0), fun k hk => (by
    rw [hr] at hk
    simp only [List.mem_cons, List.not_mem_nil, or_false] at hk
    rcases hk with rfl | rfl
    · exact h1
    · exact h2)⟩
end
end Go.Proofs.Ytlpmfkpefoegeab
