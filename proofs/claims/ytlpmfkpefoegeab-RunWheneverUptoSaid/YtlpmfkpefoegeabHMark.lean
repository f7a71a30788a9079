/-
  What is reached, found by a stack: in plain data.
-/
import Derived.Test.YtlpmfkpefoegeabQMach1
import Derived.Test.YtlpmfkpefoegeabQFits
import Derived.StillTailTactics
import Derived.BigQuiet
import Derived.Test.YtlpmfkpefoegeabHCol
namespace Go.Proofs.Ytlpmfkpefoegeab
set_option linter.unusedVariables false
set_option linter.unusedSimpArgs false
open Go.RowKit
section
variable {base : Nat} {P : List Cl} {q g : Nat} {pv hc ht : Value} {o : Mo} {m : Mv} {w : World}
def MEndPost (base : Nat) (P : List Cl) (q g : Nat) (pv : Value) (o : Mo) (m' : Mv) (w : World) (e : Ending) (w' : World) : Prop := e = .returned (.bool false) ∧ MaStep base P q g pv o m' w w'
set_option maxHeartbeats 2000000 in
theorem mend_ok (kind : Int) (hk : I64 kind) (h : MvI base P q g pv hc ht o m w) (hsz : m.out.length + 1 ≤ 20) :
    Calls Try.prog 66 #[.pointer (some ⟨g, 0, none⟩), .int .i64 kind] w (MEndPost base P q g pv o (m.put kind) w) := by
  have HU := hid h
  have HK := hid hk
  have HSZ := hid hsz
  have HAP := hid h.apart
  obtain ⟨gv, cv, ov⟩ := o
  obtain ⟨pa, pc, ga, gc, ca, cc, oa, oc, ha, hac, hb, hbc, rfl, rfl, rfl, rfl, rfl, rfl, -⟩ := h.vals
  obtain ⟨hl1, hl2⟩ := h.lt
  obtain ⟨b0, b1, b2, b3, b4, b5, b6, b7, b8, b9, bf⟩ := box10 h.box
  have hcs := cell_set
  clear h hk
  go_enter Try.func66, Try.ntmps66
  go_wp2_with (at_builtin; go_must (refine wpList_app1 rfl (.tmp 9) (.tmp 12) 51 rfl base 55 2 32 tyEvs evR_lasts (A := MA g _) (.slice oa m.out.length oc) m.out rfl HU.out.out ⟨kind, []⟩ [.int .i64 kind, .slice none 0 0] (by rfl) rfl ⟨_, rfl, SlR.nil .., HK.out⟩ ⟨by omega, by omega⟩ ?_); go_must (intro v2 w2 hown hgrew; have hB2 := (hgrew.grown.block g (by simp; omega) (fun e => HAP.out.og e.symm)).trans (blk_alloc HU.out.box _); obtain ⟨va2, vc2, hv2, hvl2, hvm2⟩ := OwnR.val' hown; rw [show (m.out ++ [(⟨kind, []⟩ : Ev)]).length = m.out.length + 1 by simp] at hv2; subst hv2; have HO2 := hid hown; have HG2 := hid hgrew; obtain ⟨k0, k1, k2, k3, k4, k5, k6, k7, k8, k9, kf⟩ := box10 hB2; clear hown hgrew hB2))
  go_ret
  exact ⟨rfl, HU.out.tell HSZ.out HO2.out HG2.out⟩
set_option maxRecDepth 100000 in
set_option maxHeartbeats 2000000 in
theorem mhead_ok (x : Gm) (hx : Inb m.h.cells x.at_) (h : MvI base P q g pv hc ht o m w) :
    Calls Try.prog 71 #[.pointer (some ⟨g, 0, none⟩), .agg #[.int .i64 x.at_, .int .i64 (x.bar : Int), .int .i64 x.next]] w (fun e w' => e = .returned (.tuple #[.string (cellAt m.h.cells x.at_).s, .int .i64 (cellAt m.h.cells x.at_).n]) ∧ Below w.heap.size w w') := by
  have HU := hid h
  obtain ⟨pa, pc, ga, gc, ca, cc, oa, oc, ha, hac, hb, hbc, -, -, -, -, rfl, rfl, -⟩ := h.vals
  obtain ⟨hl1, hl2⟩ := h.lt
  obtain ⟨k, hka, hkl, hce⟩ := cellAt_eq hx
  rw [hce]
  obtain ⟨c, t, e0, hcs0, -⟩ := h.heap
  simp only [List.cons.injEq, and_true] at e0
  obtain ⟨rfl, rfl⟩ := e0
  obtain ⟨_, _, hb0, hoff, e9, hh1, hh2, hh3, hha, hhe⟩ := SlR.at hcs0
  simp only [Value.slice.injEq, true_and] at e9
  obtain ⟨rfl, rfl⟩ := e9
  obtain ⟨rfl, hAb⟩ := hha (by omega)
  have HE := hid hhe
  have HA := hid hAb
  rw [hka]
  have hk0 : (0 : Int) ≤ (k : Int) := Int.natCast_nonneg _
  have hk1 : (k : Int) < (m.h.cells.length : Int) := by omega
  unfold maxLen at hh2
  have hcs := cell_set
  clear h hcs0 hha hhe hx hce
  go_enter Try.func71, Try.ntmps71
  go_wp2_with fail
  obtain ⟨W1, hW1⟩ : ∃ W1, W1 = w.alloc (.cells #[.int .i64 (k : Int), .int .i64 (x.bar : Int), .int .i64 x.next] 130) := ⟨_, rfl⟩
  have HB1 := hid (show Below w.heap.size w W1 by rw [hW1]; exact (Below.refl _ _).alloc (Nat.le_refl _) _)
  have HX1 := hid (show W1.heap[w.heap.size]? = some (.cells #[.int .i64 (k : Int), .int .i64 (x.bar : Int), .int .i64 x.next] 130 (0, 0)) by rw [hW1]; exact blk_new _ _)
  rw [← hW1]
  clear hW1
  have hz1 := HB1.out.size
  obtain ⟨b0, b1, b2, b3, b4, b5, b6, b7, b8, b9, bf⟩ := box10 (HU.out.below HB1.out).box
  obtain ⟨c0, c1, c2⟩ := ce_cells HE.out HA.out (Keeps.of_below HB1.out) hkl
  have x0 : W1.cell? ⟨w.heap.size, 0, none⟩ = some (.int .i64 (k : Int)) := (blk_cell HX1.out 0).trans rfl
  have hbl := World.block_lt_of_cell? W1 _ c0
  have hxl := blk_lt HX1.out
  have hgl : g < W1.heap.size := by omega
  simp only at hbl
  go_region
  go_wp2_with fail
  obtain ⟨W2, hW2⟩ : ∃ W2, W2 = (W1.alloc (.cells #[.int .i64 (m.h.cells[k]).kind, .int .i64 (m.h.cells[k]).n, .string (m.h.cells[k]).s] 71)).drew := ⟨_, rfl⟩
  have HB2 := hid (show Below w.heap.size w W2 by rw [hW2]; exact (HB1.out.alloc hz1 _).drew)
  have HX2 := hid (show W2.heap[W1.heap.size]? = some (.cells #[.int .i64 (m.h.cells[k]).kind, .int .i64 (m.h.cells[k]).n, .string (m.h.cells[k]).s] 71 (0, 0)) by rw [hW2]; exact blk_new W1 _)
  rw [← hW2]
  clear hW2 b0 b1 b2 b3 b4 b5 b6 b7 b8 b9 bf c0 c1 c2 x0
  have y1 : W2.cell? ⟨W1.heap.size, 1, none⟩ = some (.int .i64 (m.h.cells[k]).n) := (blk_cell HX2.out 1).trans rfl
  have y2 : W2.cell? ⟨W1.heap.size, 2, none⟩ = some (.string (m.h.cells[k]).s) := (blk_cell HX2.out 2).trans rfl
  have hyl := blk_lt HX2.out
  go_quiet (fail)
  have HB3 := hid (show Below w.heap.size w (W2.drewN nq) from HB2.out.trans ⟨rfl, rfl, rfl, Nat.le_refl _, fun _ _ => rfl⟩)
  generalize W2.drewN nq = W3 at *
  go_wp2_with fail
  go_ret2
  exact ⟨rfl, HB3.out⟩
theorem nextM_bd (P : List Cl) (x : Ce) : ∀ (n k : Nat), k ≤ nextM P x n k ∧ nextM P x n k ≤ k + n
  | 0, k => by simp [nextM]
  | n + 1, k => by
    unfold nextM
    have := nextM_bd P x n (k + 1)
    split
    · omega
    · split <;> omega
theorem nextM_at {P : List Cl} {x : Ce} {k : Nat} (h : k < P.length) : nextM P x (P.length - k) k = if likeM P[k] x then k else nextM P x (P.length - (k + 1)) (k + 1) := by
  rw [show P.length - k = (P.length - (k + 1)) + 1 by omega, nextM, List.getElem?_eq_getElem h]
def findV (P : List Cl) (k : Nat) : Int := if k < P.length then (k : Int) else -1
theorem mc_cells {A : Nat → Prop} {w wr : World} {l : List Cl} {b off : Nat} (he : Elems A w 6 McR l b off) (hA : A b) (hk : Keeps A w wr) {k : Nat} (hlt : k < l.length) :
    ∃ cv gv, wr.cell? ⟨b, off + k * 6, none⟩ = some (.string l[k].head.s) ∧ wr.cell? ⟨b, off + k * 6 + 1, none⟩ = some (.int .i64 (l[k].head.args.length : Int)) ∧ wr.cell? ⟨b, off + k * 6 + 2, none⟩ = some cv ∧ wr.cell? ⟨b, off + k * 6 + 3, none⟩ = some (.int .i64 (clauseB l[k]).vars) ∧ wr.cell? ⟨b, off + k * 6 + 4, none⟩ = some (.int .i64 (clauseB l[k]).head) ∧ wr.cell? ⟨b, off + k * 6 + 5, none⟩ = some gv ∧
      CesR A wr (clauseB l[k]).cells cv ∧ NumsR A wr (clauseB l[k]).goals gv := by
  obtain ⟨vs, hvl, ⟨cv, gv, rfl, h1, h2⟩, hrow⟩ := he k _ (List.getElem?_eq_getElem hlt)
  have hr := RowAt.keeps hA hrow hk
  exact ⟨cv, gv, hr 0 _ rfl, hr 1 _ rfl, hr 2 _ rfl, hr 3 _ rfl, hr 4 _ rfl, hr 5 _ rfl, SlR.keeps Ce.rep_lasts h1 hk, SlR.keeps numR_lasts h2 hk⟩
set_option maxRecDepth 100000 in
set_option maxHeartbeats 2000000 in
theorem mfind_ok (x : Ce) (k : Nat) (hk : k ≤ P.length + 1) (h : MvI base P q g pv hc ht o m w) :
    Calls Try.prog 72 #[.pointer (some ⟨g, 0, none⟩), .string x.s, .int .i64 x.n, .int .i64 (k : Int)] w (fun e w' => e = .returned (.int .i64 (findV P (nextM P x (P.length - k) k))) ∧ Below w.heap.size w w') := by
  have HU := hid h
  obtain ⟨hl1, hl2⟩ := h.lt
  obtain ⟨pa, pc, pb, poff, rfl, hpl1, hpl2, hpl3, hpA, hpE⟩ := SlR.at h.prog
  have HPA := hid hpA
  have HPE := hid hpE
  unfold maxLen at hpl2
  have hk0 : (0 : Int) ≤ (k : Int) := Int.natCast_nonneg _
  clear h hpA hpE
  go_enter Try.func72, Try.ntmps72
  go_wp2_with fail
  go_loopw [9] (fun i9 wr => ∃ kk : Nat, k ≤ kk ∧ kk ≤ P.length + 1 ∧ i9 = .int .i64 (kk : Int) ∧ Below w.heap.size w wr ∧ nextM P x (P.length - k) k = nextM P x (P.length - kk) kk) (fun i9 _ => P.length + 1 - (intOf i9).toNat)
  case atStart => exact ⟨k, Nat.le_refl _, hk, rfl, Below.refl _ _, rfl⟩
  case round =>
    obtain ⟨kk, h1, h2, rfl, hb, hn⟩ := hrel
    have HB := hid hb
    have HN := hid hn
    have hz := hb.size
    obtain ⟨b0, b1, b2, b3, b4, b5, b6, b7, b8, b9, bf⟩ := box10 (HU.out.below hb).box
    have hkk : (0 : Int) ≤ (kk : Int) := Int.natCast_nonneg _
    clear hb hn
    by_cases hlt : kk < P.length
    · obtain ⟨rfl, hpb⟩ := HPA.out (by omega)
      have hlt' : (kk : Int) < (P.length : Int) := by omega
      obtain ⟨cv, gv, c0, c1, -⟩ := mc_cells HPE.out hpb (Keeps.of_below HB.out) hlt
      have hbl := World.block_lt_of_cell? wr _ c0
      simp only at hbl
      have hat := nextM_at (x := x) hlt
      by_cases e1 : (P[kk]).head.s = x.s
      · by_cases e2 : ((P[kk]).head.args.length : Int) = x.n
        · have hres := hid (show findV P (nextM P x (P.length - k) k) = (kk : Int) by rw [HN.out, hat, if_pos ⟨e1, e2⟩]; unfold findV; rw [if_pos hlt])
          have e1' : ((P[kk]).head.s.toList == x.s.toList) = true := by simp [e1]
          have e2' : (((P[kk]).head.args.length : Int) == x.n) = true := by simpa using e2
          clear e1 e2 hat
          go_wp2_with fail
          go_ret
          rw [hres.out]
          exact ⟨rfl, HB.out⟩
        · have hnx := hid (HN.out.trans (hat.trans (if_neg (fun h => e2 h.2))))
          have e1' : ((P[kk]).head.s.toList == x.s.toList) = true := by simp [e1]
          have e2' : (((P[kk]).head.args.length : Int) == x.n) = false := by simpa using e2
          clear e1 e2 hat
          go_wp2_with fail
          go_roundw
          case rel => exact ⟨kk + 1, by omega, by omega, by go_num, HB.out, hnx.out⟩
          case measure => simp [intOf]; omega
      · have hnx := hid (HN.out.trans (hat.trans (if_neg (fun h => e1 h.1))))
        have e1' := toList_neS e1
        clear e1 hat
        go_wp2_with fail
        go_roundw
        case rel => exact ⟨kk + 1, by omega, by omega, by go_num, HB.out, hnx.out⟩
        case measure => simp [intOf]; omega
    · have hres := hid (show findV P (nextM P x (P.length - k) k) = -1 by
        rw [HN.out, show P.length - kk = 0 by omega, nextM]; unfold findV; rw [if_neg hlt])
      have hlt' : (P.length : Int) ≤ (kk : Int) := by omega
      go_wp2_with fail
      go_ret
      rw [hres.out]
      exact ⟨rfl, HB.out⟩
end
end Go.Proofs.Ytlpmfkpefoegeab
namespace Go.Proofs.Ytlpmfkpefoegeab
set_option linter.unusedVariables false
set_option linter.unusedSimpArgs false
def unm : List Bool → Nat
  | [] => 0
  | b :: r => (if b = true then 0 else 1) + unm r
theorem unm_le : ∀ (m : List Bool), unm m ≤ m.length
  | [] => Nat.le_refl _
  | b :: r => by have := unm_le r; unfold unm; split <;> simp <;> omega
theorem unm_set : ∀ (m : List Bool) (k : Nat), m[k]? = some false → unm (m.set k true) + 1 = unm m
  | [], k, h => by simp at h
  | b :: r, 0, h => by simp at h; subst h; simp [unm]; omega
  | b :: r, k + 1, h => by
    have := unm_set r k (by simpa using h)
    simp only [List.set_cons_succ, unm]
    omega
def pushes (k : Nat) (c : Ce) : List Int := if c.kind = 0 then [c.n] else if c.kind = 3 then argsAt (k : Int) c.n else []
theorem pushes_len (l : List Ce) (hg : GoodC l) {k : Nat} (hk : k < l.length) : (pushes k l[k]).length ≤ 4 := by
  have h1 := hg k hk
  unfold Ce.OkAt at h1
  unfold pushes
  split
  · simp
  · split
    · rw [argsAt_len]; omega
    · simp
theorem pushes_leads {l : List Ce} (hg : GoodC l) {k j : Nat} (hk : k < l.length) : (j : Int) ∈ pushes k l[k] ↔ Leads l k j := by
  have h1 := hg k hk
  unfold Leads pushes
  rw [cellAt_nat hk]
  by_cases h0 : l[k].kind = 0
  · rw [if_pos h0]
    simp only [List.mem_singleton, h0, true_and]
    constructor
    · intro e; exact .inl e.symm
    · rintro (e | ⟨e, _⟩)
      · exact e.symm
      · omega
  · rw [if_neg h0]
    by_cases h3 : l[k].kind = 3
    · rw [if_pos h3]
      unfold argsAt
      simp only [List.mem_map, List.mem_range, h3, true_and]
      constructor
      · rintro ⟨i, hi, e⟩; exact .inr ⟨by omega, by omega⟩
      · rintro (⟨e, _⟩ | ⟨e1, e2⟩)
        · omega
        · exact ⟨j - k - 1, by omega, by omega⟩
    · rw [if_neg h3]
      simp [h0, h3]
structure MkSt (l : List Ce) (roots : List Int) (m : List Bool) (st : List Int) : Prop where
  len : m.length = l.length
  rts : ∀ i : Nat, (i : Int) ∈ roots → i < l.length → m[i]? = some true ∨ (i : Int) ∈ st
  closed : ∀ i j, m[i]? = some true → Leads l i j → m[j]? = some true ∨ (j : Int) ∈ st
  sound : ∀ i, m[i]? = some true → Reach l roots i
  todo : ∀ i : Nat, (i : Int) ∈ st → i < l.length → Reach l roots i
  few : st.length + 5 * unm m ≤ roots.length + 5 * l.length
theorem MkSt.start (l : List Ce) (roots : List Int) : MkSt l roots (List.replicate l.length false) roots := by
  refine ⟨by simp, fun i h _ => .inr h, fun i j h => ?_, fun i h => ?_, fun i h1 h2 => .root h1 h2, ?_⟩
  · rw [List.getElem?_replicate] at h; split at h <;> simp at h
  · rw [List.getElem?_replicate] at h; split at h <;> simp at h
  · have := unm_le (List.replicate l.length false)
    simp at this ⊢; omega
section
variable {l : List Ce} {roots : List Int} {m : List Bool} {st : List Int} {a : Int}
theorem MkSt.skip (h : MkSt l roots m (st ++ [a])) (ha : ∀ k : Nat, a = (k : Int) → k < l.length → m[k]? = some true) (hg : GoodC l) : MkSt l roots m st := by
  have key : ∀ i : Nat, i < l.length → (i : Int) ∈ st ++ [a] → m[i]? = some true ∨ (i : Int) ∈ st := fun i hi hm => by
    rcases List.mem_append.1 hm with h1 | h1
    · exact .inr h1
    · simp only [List.mem_singleton] at h1
      exact .inl (ha i h1.symm hi)
  refine ⟨h.len, fun i h1 h2 => ?_, fun i j h1 h2 => ?_, h.sound, fun i h1 h2 => h.todo i (List.mem_append.2 (.inl h1)) h2, ?_⟩
  · rcases h.rts i h1 h2 with k | k
    · exact .inl k
    · exact key i h2 k
  · rcases h.closed i j h1 h2 with k | k
    · exact .inl k
    · exact key j (hg.leads (by rw [← h.len]; exact (List.getElem?_eq_some_iff.1 h1).1) h2) k
  · have := h.few
    simp only [List.length_append, List.length_singleton] at this
    omega
theorem MkSt.mark {k : Nat} (h : MkSt l roots m (st ++ [(k : Int)])) (hk : k < l.length) (hm : m[k]? = some false) (hg : GoodC l) : MkSt l roots (m.set k true) (st ++ pushes k l[k]) := by
  have hr : Reach l roots k := h.todo k (by simp) hk
  have hkm : k < m.length := by rw [h.len]; exact hk
  have get : ∀ i, (m.set k true)[i]? = some true ↔ i = k ∨ m[i]? = some true := fun i => by
    rw [List.getElem?_set]
    by_cases e : k = i
    · subst e; simp [hkm]
    · rw [if_neg e]; constructor
      · exact .inr
      · rintro (e' | e')
        · exact absurd e'.symm e
        · exact e'
  refine ⟨by simp [h.len], fun i h1 h2 => ?_, fun i j h1 h2 => ?_, fun i h1 => ?_, fun i h1 h2 => ?_, ?_⟩
  · rcases h.rts i h1 h2 with q | q
    · exact .inl ((get i).2 (.inr q))
    · rcases List.mem_append.1 q with q | q
      · exact .inr (List.mem_append.2 (.inl q))
      · simp only [List.mem_singleton] at q
        exact .inl ((get i).2 (.inl (by omega)))
  · rcases (get i).1 h1 with rfl | h1
    · exact .inr (List.mem_append.2 (.inr ((pushes_leads hg hk).2 h2)))
    · rcases h.closed i j h1 h2 with q | q
      · exact .inl ((get j).2 (.inr q))
      · rcases List.mem_append.1 q with q | q
        · exact .inr (List.mem_append.2 (.inl q))
        · simp only [List.mem_singleton] at q
          exact .inl ((get j).2 (.inl (by omega)))
  · rcases (get i).1 h1 with rfl | h1
    · exact hr
    · exact h.sound i h1
  · rcases List.mem_append.1 h1 with h1 | h1
    · exact h.todo i (List.mem_append.2 (.inl h1)) h2
    · exact .step hr ((pushes_leads hg hk).1 h1)
  · have h1 := h.few
    have h2 := unm_set m k hm
    have h3 := pushes_len l hg hk
    simp only [List.length_append, List.length_singleton] at h1 ⊢
    omega
theorem MkSt.done (h : MkSt l roots m []) (hg : GoodC l) : m = marks l roots :=
  marks_of hg h.len (fun i h1 h2 => (h.rts i h1 h2).resolve_right (by simp)) (fun i j h1 h2 => (h.closed i j h1 h2).resolve_right (by simp)) h.sound
end
end Go.Proofs.Ytlpmfkpefoegeab
