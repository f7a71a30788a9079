/-
  A loop over an iterator: a region that draws its order, in a round; slices.Backward.
-/
import Derived.Test.YtlpmfkpefoegeabQMoved
import Derived.RangeFuncNested
import Derived.RangeFuncBound
import Derived.RangeFuncCalls
import Derived.RangeFuncLeaves
import Derived.RangeFuncBox
import Derived.Shelf.Abstract
import Derived.OwnWalkIn
import Derived.TacticsInMore
import Derived.LoopNIn
import Derived.LoopIn
import Derived.Test.YtlpmfkpefoegeabQRen
import Derived.Test.YtlpmfkpefoegeabProg
namespace Go.Proofs.Ytlpmfkpefoegeab
set_option linter.unusedVariables false
set_option linter.unusedSimpArgs false
open Go.RowKit
section
variable {base : Nat} {P : List Cl} {q g : Nat} {pv hc ht : Value} {o : Mo} {m : Mv} {w : World}
theorem OwnM.cells {w : World} {base : Nat} {l : List Cm} {ca : Option Addr} {cc : Nat} (h : OwnM w base l (.slice ca l.length cc)) {i : Nat} (hi : i < l.length) :
    ∃ b, ca = some ⟨b, 0, none⟩ ∧ ownB (.slice ca l.length cc) = some b ∧ b < w.heap.size ∧ base ≤ b ∧ (∀ o, w.frozen? ⟨b, o, none⟩ = false) ∧ w.cell? ⟨b, i * 4, none⟩ = some (.int .i64 (l[i].goal : Int)) ∧ w.cell? ⟨b, i * 4 + 1, none⟩ = some (.int .i64 (l[i].from_ : Int)) ∧ w.cell? ⟨b, i * 4 + 2, none⟩ = some (.int .i64 (l[i].top : Int)) ∧ w.cell? ⟨b, i * 4 + 3, none⟩ = some (.int .i64 (l[i].trail : Int)) ∧ cmOk l[i] := by
  obtain ⟨b, cap, e, h0, h1, h2, h3, h4, h5, h6, h7⟩ := OwnF.at cmV_len h (by omega)
  simp only [Value.slice.injEq, true_and] at e
  obtain ⟨rfl, rfl⟩ := e
  exact ⟨b, rfl, h3, h5, h6, h4, h7 i hi 0 _ rfl, h7 i hi 1 _ rfl, h7 i hi 2 _ rfl, h7 i hi 3 _ rfl, h.2 _ (List.getElem_mem hi)⟩
theorem OwnG.cells {w : World} {base : Nat} {l : List Gm} {ca : Option Addr} {cc : Nat} (h : OwnG w base l (.slice ca l.length cc)) {i : Nat} (hi : i < l.length) :
    ∃ b, ca = some ⟨b, 0, none⟩ ∧ ownB (.slice ca l.length cc) = some b ∧ b < w.heap.size ∧ base ≤ b ∧ (∀ o, w.frozen? ⟨b, o, none⟩ = false) ∧ w.cell? ⟨b, i * 3, none⟩ = some (.int .i64 l[i].at_) ∧ w.cell? ⟨b, i * 3 + 1, none⟩ = some (.int .i64 (l[i].bar : Int)) ∧ w.cell? ⟨b, i * 3 + 2, none⟩ = some (.int .i64 l[i].next) ∧ gmOk l[i] := by
  obtain ⟨b, cap, e, h0, h1, h2, h3, h4, h5, h6, h7⟩ := OwnF.at gmV_len h (by omega)
  simp only [Value.slice.injEq, true_and] at e
  obtain ⟨rfl, rfl⟩ := e
  exact ⟨b, rfl, h3, h5, h6, h4, h7 i hi 0 _ rfl, h7 i hi 1 _ rfl, h7 i hi 2 _ rfl, h.2 _ (List.getElem_mem hi)⟩
set_option maxRecDepth 100000 in
set_option maxHeartbeats 4000000 in
theorem mstarted_ok (h : MvI base P q g pv hc ht o m w) :
    Calls Try.prog 68 #[.pointer (some ⟨g, 0, none⟩)] w (fun e w' => ∃ v, e = .returned v ∧ Below w.heap.size w w' ∧ OwnN w' w.heap.size (m.choices.reverse.map fun c => (c.goal : Int)) v) := by
  have HU := hid h
  obtain ⟨hl1, hl2⟩ := h.lt
  obtain ⟨gv, cv, ov⟩ := o
  obtain ⟨pa, pc, ga, gc, ca, cc, oa, oc, ha, hac, hb, hbc, rfl, rfl, rfl, rfl, rfl, rfl, -, -, -, -, hcl1, hcl2, -⟩ := h.vals
  obtain ⟨b0, b1, b2, b3, b4, b5, b6, b7, b8, b9, bf⟩ := box10 h.box
  obtain ⟨cs, hcs⟩ : ∃ cs, cs = m.choices.reverse := ⟨_, rfl⟩
  have hlen : m.choices.length = cs.length := by rw [hcs, List.length_reverse]
  have hchc : OwnM w base cs (.slice ca cs.length cc) := by have := h.chc; rw [← hcs] at this; simp only at this; rwa [hlen] at this
  have HCHC := hid hchc
  have hcl := h.cl
  rw [hlen] at hcl hcl1 b4
  rw [← hcs]
  unfold maxLen at hcl2
  have hcl0 : (0 : Int) ≤ (cs.length : Int) := Int.natCast_nonneg _
  clear h hchc hcs hlen HU
  go_enter Try.func68, Try.ntmps68
  go_wp2_with fail
  go_loopw [3, 11] (fun i3 i11 wr => ∃ (j : Nat) (v : Value), j ≤ cs.length ∧ i3 = v ∧ i11 = .int .i64 (j : Int) ∧ Below w.heap.size w wr ∧ OwnN wr w.heap.size ((cs.take j).map fun c => (c.goal : Int)) v) (fun _ i11 _ => cs.length - (intOf i11).toNat)
  case atStart => exact ⟨0, .slice none 0 0, Nat.zero_le _, rfl, rfl, Below.refl _ _, OwnF.nil⟩
  case round =>
    obtain ⟨j, v, hj, rfl, rfl, hbw, hown⟩ := hrel
    have HB := hid hbw
    have HO := hid hown
    have hz := hbw.size
    have hj0 : (0 : Int) ≤ (j : Int) := Int.natCast_nonneg _
    clear hbw hown
    by_cases hlt : j < cs.length
    · have hj1 : (j : Int) < (cs.length : Int) := by omega
      obtain ⟨b, rfl, -, hbl, -, -, c0, c1, c2, c3, ok⟩ := OwnM.cells HCHC.out hlt
      have d0 := bc HB.out c0
      have d1 := bc HB.out c1
      have d2 := bc HB.out c2
      have d3 := bc HB.out c3
      have hbl' : b < wr.heap.size := by omega
      have HLT := hid hlt
      have hok := ok.1
      have HTK := hid (show (cs.take (j + 1)).map (fun c => (c.goal : Int)) = (cs.take j).map (fun c => (c.goal : Int)) ++ [(cs[j].goal : Int)] by
        rw [List.take_succ_eq_append_getElem hlt, List.map_append, List.map_singleton]; rfl)
      generalize cs[j] = x at *
      obtain ⟨va, vc, hv, hvl, hvm⟩ := OwnF.val HO.out
      rw [show ((cs.take j).map fun c => (c.goal : Int)).length = j by simp; omega] at hv hvl
      subst hv
      unfold maxLen at hvm
      clear c0 c1 c2 c3 ok
      have HOR := hid (HO.out.ownR numV_len (fun _ => True))
      have HX := hid (fun (X : Obj) => HOR.out.alloc numR_lasts X)
      have hjg : x.goal ≤ 1000000 := hok
      go_wp2_with (at_builtin; go_must (refine wpList_app1 rfl (.tmp 15) (.tmp 18) 28 rfl w.heap.size 3 1 8 tyNums numR_lasts (A := fun _ => True) (.slice va j vc) ((cs.take j).map fun c => (c.goal : Int)) rfl (HX.out _) (x.goal : Int) [.int .i64 (x.goal : Int)] (by rw [World.size_alloc]; rfl) rfl ⟨by unfold I64; omega, rfl⟩ ⟨by simp; omega, by simp; omega⟩ ?_); go_must (intro v2 w2 hown2 hgrew))
      have HO2 := hid (OwnF.of_ownR hown2)
      have HG2 := hid hgrew
      have HB2 := hid (hgrew.below ((HB.out.alloc hz _).alloc (by simp; omega) _) (by simp; omega) (fun k hk => (HO.out.lt k hk).1))
      clear hown2 hgrew HX
      go_roundw
      case rel => exact ⟨j + 1, v2, by omega, rfl, by go_num, HB2.out, by rw [HTK.out]; exact HO2.out⟩
      case measure => simp [intOf]; omega
    · have hj1 : (cs.length : Int) ≤ (j : Int) := by omega
      have h9 := HO.out
      rw [List.take_of_length_le (by omega)] at h9
      have HO2 := hid h9
      clear h9
      go_wp2_with fail
      go_ret
      exact ⟨_, rfl, HB.out, HO2.out⟩
end
end Go.Proofs.Ytlpmfkpefoegeab
namespace Go.Proofs.Ytlpmfkpefoegeab
set_option linter.unusedVariables false
set_option linter.unusedSimpArgs false
open Go.RowKit Go.Shelf
/-! a region's walk, in a round -/
section
variable {P : Program} {ops : Array Oper} {Q : Exit → Act → World → Prop} {n l : Nat}
theorem wpIn_of_wp_oper {o : Oper} {a : Act} {w : World} {K K' : Act → World → Prop} (hd : ∀ c, o.op ≠ .defer c) (hK : ∀ a w, K a w → K' a w) (h : o.wp P a w K Q) : o.wpIn (Fence.wide.inRound l) n P a w K' Q := by
  refine ⟨fun _ _ => trivial, ?_⟩
  have e : o.semAt (Fence.wide.inRound l).round a.eval = execOp a.eval o := Oper.semAt_some l _ _ hd
  rw [e]
  unfold Oper.wp at h
  generalize (execOp a.eval o).run P w = r at *
  cases r with
  | ok x w' =>
    cases x with
    | value v => exact hK _ _ h
    | skip => exact hK _ _ h
    | defer d => exact hK _ _ h
    | enter f args =>
      refine ⟨(fun h => by cases h), ?_⟩
      refine CallsIn.inRound l (callsIn_wide.2 (Calls.mono h fun e w'' he => ?_))
      cases e with
      | returned v => exact hK _ _ he
      | panicked c => exact he
      | outgrown => exact he
    | row row args =>
      refine ⟨(fun h => by cases h), ?_⟩
      intro c cs _
      obtain ⟨v, w', hr, hs⟩ := h c cs
      exact ⟨v, w', hK _ _ hr, stepsIn_wide.2 hs⟩
    | _ => exact h.elim
  | halt x w' =>
    cases x <;> first | exact h | exact h.elim
theorem wpAnyIn_of_wpAny (hd : ∀ (i : Nat) (o : Oper) c, ops[i]? = some o → o.op ≠ .defer c) (hL : ¬ LetsOut Q) : ∀ (fuel : Nat) (listed : Array Bool) (a : Act) (w : World), wpAny P .any ops Q fuel listed a w → wpAnyIn (Fence.wide.inRound l) n P .any ops Q fuel listed a w
  | 0, _, _, _, h => h
  | fuel + 1, listed, a, w, h => by
    refine ⟨h.1, fun i hi => ?_⟩
    have h1 := h.2 i hi
    unfold wpOp at h1
    unfold wpOpIn
    cases ho : ops[i]? with
    | none => rw [ho] at h1; exact wpAnyIn_of_wpAny hd hL fuel _ a w h1
    | some o =>
      rw [ho] at h1
      simp only at h1 ⊢
      split
      · rename_i hw
        rw [if_pos hw] at h1
        rcases h1 with h1 | h1
        · exact wpIn_of_wp_oper (hd i o · ho) (fun a w h => wpAnyIn_of_wpAny hd hL fuel _ a w h) h1
        · exact absurd h1.2 hL
      · rename_i hw
        rw [if_neg hw] at h1
        exact ⟨fun _ _ => trivial, wpAnyIn_of_wpAny hd hL fuel _ _ w h1⟩
def noDefer (ops : Array Oper) : Bool := ops.toList.all fun o => match o.op with | .defer _ => false | _ => true
theorem noDefer_spec (h : noDefer ops = true) (i : Nat) (o : Oper) (c : Call) (ho : ops[i]? = some o) : o.op ≠ .defer c := by
  intro e
  unfold noDefer at h
  rw [List.all_eq_true] at h
  have := h o (by rw [← Array.getElem?_toList] at ho; exact List.mem_of_getElem? ho)
  rw [e] at this
  cases this
end
/-! slices.Backward, over ints that are not great -/
abbrev Sm := { a : Int // 0 ≤ a ∧ a ≤ 1000000 }
attribute [local go_sem] Oper.semAt_some
def dnTo (zs : List Sm) (k : Nat) : List (Nat × Sm) := ((List.range k).filterMap fun j => (zs[zs.length - 1 - j]?).map fun x => (zs.length - 1 - j, x))
theorem dnTo_succ {zs : List Sm} {k : Nat} (hk : k < zs.length) : dnTo zs (k + 1) = dnTo zs k ++ [(zs.length - 1 - k, zs[zs.length - 1 - k]'(by omega))] := by
  unfold dnTo
  rw [List.range_succ, List.filterMap_append, List.filterMap_cons]
  rw [List.getElem?_eq_getElem (by omega)]
  simp
theorem dnTo_length {zs : List Sm} : ∀ {k : Nat}, k ≤ zs.length → (dnTo zs k).length = k
  | 0, _ => rfl
  | k + 1, hk => by rw [dnTo_succ (by omega), List.length_append, dnTo_length (by omega)]; simp
theorem dnTo_snd {zs : List Sm} : ∀ {k : Nat}, k ≤ zs.length → (dnTo zs k).map (·.2) = zs.reverse.take k
  | 0, _ => rfl
  | k + 1, hk => by
    rw [dnTo_succ (by omega), List.map_append, dnTo_snd (by omega), List.take_succ_eq_append_getElem (by simpa using (show k < zs.length by omega))]
    simp [List.getElem_reverse]
set_option maxRecDepth 100000 in
set_option maxHeartbeats 2000000 in
theorem back1_in (F : Fence) (n : Nat) (hf : F.fn 80) (hro : F.round = none) (hn : 1 ≤ n) (l Bs b off cap : Nat) (a0 : Option Addr) (zs : List Sm) (hlen : zs.length ≤ 1000000) (D : Nat → Prop) (hDs : D Bs) (hDb : 0 < zs.length → a0 = some ⟨b, off, none⟩ ∧ D b)
    (J Jx : List (Nat × Sm) → World → Prop)
    (hY : ∀ pre x W, J pre W → pre.length < zs.length → YieldAt F (n - 1) Try.prog l #[.int .i64 (x.1 : Int), .int .i64 x.2.1] W fun e W' =>
      (e = .returned (.bool true) ∧ J (pre ++ [x]) W' ∧ Keeps D W W') ∨ (e = .returned (.bool false) ∧ Jx (pre ++ [x]) W'))
    (W : World) (hBs : W.cell? ⟨Bs, 0, none⟩ = some (.slice a0 zs.length cap)) (hc : ∀ j (hj : j < zs.length), W.cell? ⟨b, off + j, none⟩ = some (.int .i64 zs[j].1)) (h0 : J [] W) :
    CallsIn F n Try.prog 80 #[.func (.yield l) #[] #[], .pointer (some ⟨Bs, 0, none⟩)] W fun e W' => (∃ v, e = .returned v) ∧
      ((∃ ys, ys.map (·.2) = zs.reverse ∧ J ys W') ∨ (∃ pre, True ∧ Jx pre W')) := by
  refine callsIn_of_wp Try.func80 rfl hf ?_ hro
  simp only [Try.ntmps80, List.size_toArray, List.length_cons, List.length_nil, Nat.reduceAdd, Nat.reduceSub, Array.replicate_succ, Array.replicate_zero, List.push_toArray, List.append_toArray, List.nil_append, List.cons_append]
  have hb0 : (0 : Int) ≤ (zs.length : Int) := Int.natCast_nonneg _
  have HC := hid hc
  have HDB := hid hDb
  have HBS := hid hBs
  clear hc hDb
  gi_wp2
  gi_loopw [3] (fun i wr => ∃ k : Nat, k ≤ zs.length ∧ i = .int .i64 ((zs.length : Int) - 1 - (k : Int)) ∧ J (dnTo zs k) wr ∧ Keeps D W wr)
    (fun i _ => (intOf i + 1).toNat)
  case atStart => exact ⟨0, Nat.zero_le _, by simp, h0, Keeps.refl _ _⟩
  case round =>
    obtain ⟨k, hk, rfl, hJs, hnx⟩ := hrel
    have HNX := hid hnx
    have hk0 : (0 : Int) ≤ (k : Int) := Int.natCast_nonneg _
    have hbs : wr.cell? ⟨Bs, 0, none⟩ = some (.slice a0 zs.length cap) := hnx.cell hDs hBs
    clear hBs hnx
    by_cases hlt : k < zs.length
    · have hidx : ((zs.length : Int) - 1 - (k : Int)) = ((zs.length - 1 - k : Nat) : Int) := by omega
      obtain ⟨rfl, hD⟩ := HDB.out (by omega)
      have hcx := HNX.out.cell hD (HC.out (zs.length - 1 - k) (by omega))
      have hsu := dnTo_succ hlt
      have hkl : zs.length - 1 - k < zs.length := by omega
      obtain ⟨z, hz⟩ : ∃ z, z = zs[zs.length - 1 - k]'hkl := ⟨zs[zs.length - 1 - k]'hkl, rfl⟩
      rw [← hz] at hcx hsu
      obtain ⟨m, hm⟩ : ∃ m, m = zs.length - 1 - k := ⟨_, rfl⟩
      have hml : m < zs.length := by omega
      obtain ⟨fn, tmps, assign, body, hy, hR⟩ := hY _ (m, z) wr hJs (by rw [dnTo_length (by omega)]; exact hlt)
      dsimp only at hy
      rw [← hm] at hcx hsu hidx
      have HSU := hid hsu
      rw [hidx]
      clear hz hsu hJs
      have hm0 : (0 : Int) ≤ (m : Int) := Int.natCast_nonneg _
      have hm1 : (m : Int) < (zs.length : Int) := by omega
      have hmk : (m : Int) - 1 = (zs.length : Int) - 1 - ((k + 1 : Nat) : Int) := by omega
      have HMK := hid hmk
      clear hidx hm hmk
      gi_wp2
      refine hR.mono ?_
      rintro e W3 (⟨rfl, hJ3, hk3⟩ | ⟨rfl, hJx3⟩)
      · gi_wp2
        go_roundw
        case rel => exact ⟨k + 1, by omega, by rw [HMK.out], by rw [HSU.out]; exact hJ3, HNX.out.trans hk3⟩
        case measure => simp only [intOf]; omega
      · gi_wp2
        refine bodyPost_ret (results_none rfl _ _ _) rfl ?_
        exact ⟨⟨_, rfl⟩, .inr ⟨_, trivial, hJx3⟩⟩
    · obtain rfl : k = zs.length := by omega
      have hneg : (zs.length : Int) - 1 - (zs.length : Int) = -1 := by omega
      rw [hneg]
      gi_wp2
      go_end0
      exact ⟨⟨_, rfl⟩, .inl ⟨_, by rw [dnTo_snd (Nat.le_refl _), List.take_of_length_le (by simp)], hJs⟩⟩
theorem backward_in (F : Fence) (n : Nat) (hf : F.fn 65) (hro : F.round = none) (a : Option Addr) (len cap : Nat) (w : World) :
    CallsIn F n Try.prog 65 #[.slice a len cap] w fun e w' => e = .returned (.func (.func 80) #[] #[.pointer (some ⟨w.heap.size, 0, none⟩)]) ∧ w' = w.alloc (.cells #[.slice a len cap] 28) := by
  refine callsIn_of_wp Try.func65 rfl hf ?_ hro
  simp only [Try.ntmps65, List.size_toArray, List.length_cons, List.length_nil, Nat.reduceAdd, Nat.reduceSub, Array.replicate_succ, Array.replicate_zero, List.push_toArray, List.append_toArray, List.nil_append, List.cons_append]
  gi_wp2
  go_ret
  exact ⟨rfl, rfl⟩
theorem backward_stops (F : Fence) (n : Nat) (hf : F.fn 80) (hro : F.round = none) (hn : 1 ≤ n) (Bs b off cap : Nat) (a0 : Option Addr) (zs : List Sm) (hlen : zs.length ≤ 1000000) (D : Nat → Prop) (hDs : D Bs) (hDb : 0 < zs.length → a0 = some ⟨b, off, none⟩ ∧ D b) (w : World)
    (hBs : w.cell? ⟨Bs, 0, none⟩ = some (.slice a0 zs.length cap)) (hc : ∀ j (hj : j < zs.length), w.cell? ⟨b, off + j, none⟩ = some (.int .i64 zs[j].1)) :
    SeqStopsK F n Try.prog 80 #[.pointer (some ⟨Bs, 0, none⟩)] (fun x : Nat × Sm => #[Value.int .i64 (x.1 : Int), Value.int .i64 x.2.1]) (Keeps D) (fun ys => ys.map (·.2) = zs.reverse) (fun _ => True) zs.length w :=
  fun l J Jx W hW _ _ hY h0 => back1_in F n hf hro hn l Bs b off cap a0 zs hlen D hDs hDb J Jx hY W (bc hW hBs) (fun j hj => bc hW (hc j hj)) h0
theorem keepsD_b {D : Nat → Prop} {w : World} (hD : ∀ b, D b → b < w.heap.size) (W : World) (l : Nat) (o o' : Obj) (hl : w.heap.size ≤ l) (h : W.heap[l]? = some o) (_ : o.isCells = false) (_ : o.isWalk = false) : Keeps D W (W.putObj l o') :=
  ⟨by simp, fun b hb hDb => World.putObj_heap_other (fun e => by have := hD b hDb; omega)⟩
section
variable {P : Program} {ops : Array Oper} {Q : Exit → Act → World → Prop} {n l : Nat} {FF : Nat → World → Prop}
theorem wp_region_round {id : Nat} {a : Act} {w : World} (hm : P.follows .mixedOrders = true) (hd : noDefer ops = true) (hL : ¬ LetsOut Q)
    (h : wpAnyF P ops Q FF ops.size (Array.replicate ops.size false) a w.drew) : (Code.region id ops true).wpIn (Fence.wide.inRound l) n P Q a w :=
  wpIn_region_any hm (wpAnyIn_of_wpAny (noDefer_spec hd) hL _ _ _ _ (wpAny_of_F _ _ _ _ h))
end
end Go.Proofs.Ytlpmfkpefoegeab
