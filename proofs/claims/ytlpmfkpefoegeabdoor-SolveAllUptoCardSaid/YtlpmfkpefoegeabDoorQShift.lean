/-
  Variables renumbered: term.Shift.
-/
import Derived.Test.YtlpmfkpefoegeabDoorQReg
namespace Go.Proofs.YtlpmfkpefoegeabDoor
set_option linter.unusedVariables false
set_option linter.unusedSimpArgs false
open Go.RowKit
namespace Tm
mutual
/-- each variable's number as a function says -/
def ren (f : Int → Int) : Tm → Tm
  | mk k n s l => mk k (if k = 0 then f n else n) s (renL f l)
def renL (f : Int → Int) : List Tm → List Tm
  | [] => []
  | t :: r => ren f t :: renL f r
end
theorem renL_map (f : Int → Int) (l : List Tm) : renL f l = l.map (ren f) := by
  induction l with
  | nil => rfl
  | cons t r ih => simp [renL, ih]
end Tm
def low (n : Int) : Int := n % 1099511627776
theorem low_bd (n : Int) : 0 ≤ low n ∧ low n < 1099511627776 := by unfold low; omega
theorem and_low (n : Int) (h : I64 n) : bits .and .i64 n 1099511627775 = low n := by
  have hx : ((BitVec.ofInt 64 n) &&& (BitVec.ofInt 64 1099511627775)).toNat = (BitVec.ofInt 64 n).toNat % 1099511627776 := by
    rw [BitVec.toNat_and]
    exact Nat.and_two_pow_sub_one_eq_mod _ 40
  show IntKind.i64.wrap (((BitVec.ofInt 64 n) &&& (BitVec.ofInt 64 1099511627775)).toNat : Int) = low n
  rw [hx, BitVec.toNat_ofInt, IntKind.wrap_i64]
  unfold low I64 at *
  omega
def ShiftOK (t : Tm) : Prop := ∀ (d : Int) (A : Nat → Prop) (w : World) (vs : List Value), I64 d → Tm.rep A w t vs →
  Calls Tryd.prog 122 #[.agg vs.toArray, .int .i64 d] w (Pure w fun v w' => ∃ us, v = .agg us.toArray ∧ Tm.rep (New w) w' (t.ren fun n => low n + low d) us)
def newN (k n d : Int) : Int := if k = 0 then low n + low d else n
set_option maxHeartbeats 1000000 in
theorem shift_of (k n : Int) (s : ByteArray) (l : List Tm) (ih : ∀ t ∈ l, ShiftOK t) : ShiftOK (.mk k n s l) := by
  intro d A w vs hd hv
  rw [Tm.rep_iff] at hv
  obtain ⟨hk, hn, hs, v, rfl, hl⟩ := hv
  obtain ⟨a, cap, b, off, rfl, hlc, hcm, hlb, ha, he⟩ := hl.at
  have HE := hid he
  have HA := hid ha
  have IH := hid ih
  have e1 := and_low n hn
  have e2 := and_low d hd
  have b1 := low_bd n
  have b2 := low_bd d
  clear he ha hl ih
  obtain ⟨m, hm⟩ : ∃ m, m = newN k n d := ⟨_, rfl⟩
  by_cases e : k = 0
  all_goals
    try have e' : (k == 0) = false := by simpa using e
    try have e' : (k == 0) = true := by simpa using e
    have HM : Hid (m = newN k n d) := hm
    have HE' := hid e
    clear hm e
    go_enter Tryd.func122, Tryd.ntmps122
    go_wp2_with fail
    go_loopw [23] (fun i wr => ∃ (j : Nat) (v : Value), j ≤ l.length ∧ i = .int .i64 j ∧ w.heap.size + 3 ≤ wr.heap.size ∧ Below w.heap.size w wr ∧
        wr.heap[w.heap.size + 1]? = some (.cells #[.int .i64 0, .int .i64 0, .string ByteArray.empty, .slice none 0 0] 31 (0, 0)) ∧
        wr.heap[w.heap.size + 1 + 1]? = some (.cells #[.int .i64 k, .int .i64 m, .string s, v] 31 (0, 0)) ∧
        OwnR wr (w.heap.size + 3) 31 4 Tm.rep (fun b => w.heap.size + 3 ≤ b) ((l.take j).map (Tm.ren fun n => low n + low d)) v) (fun i _ => l.length - (intOf i).toNat)
    case atStart =>
      refine ⟨0, .slice none 0 0, Nat.zero_le _, rfl, by simp, below_pure (below_pure (below_pure (Below.refl _ _))), (heap3 _ _ _ _).2.1, ?_, by simpa using OwnR.nil ..⟩
      rw [(heap3 _ _ _ _).2.2, HM.out, newN]
      simp [HE'.out]
    case round =>
      obtain ⟨j, v, hj, rfl, hz, hb, hB1, hB2, hown⟩ := hrel
      have HB := hid hb
      have HB1 := hid hB1
      have HB2 := hid hB2
      obtain ⟨va, vc, rfl, hvc⟩ := hown.val
      have hvl : ((l.take j).map (Tm.ren fun n => low n + low d)).length = j := by simp; omega
      rw [hvl] at hown HB2
      have HO := hid hown
      obtain ⟨g0, g1, g2, g3, gf⟩ := blk4 HB2.out
      clear hb hB1 hB2 hown hvl
      by_cases hlt : j < l.length
      · obtain ⟨rfl, hAb⟩ := HA.out (by omega)
        obtain ⟨sa, sc, c0, c1, c2, c3, hr⟩ := tm_cells HE.out hAb (Keeps.of_below HB.out) hlt
        have HR := hid hr
        have lb : b < wr.heap.size := World.block_lt_of_cell? wr _ c0
        clear hr
        go_wp2_with fail
        generalize hW : wr.alloc (.cells #[.int .i64 l[j].kind, .int .i64 l[j].n, .string l[j].s, .slice sa l[j].args.length sc] 31) = W0
        have hW1 : W0.drew.cell? ⟨w.heap.size + 1 + 1, 3, none⟩ = some (.slice va j vc) := by subst hW; exact (Keeps.alloc (fun _ => True) _ _).cell trivial g3
        obtain ⟨hx0, hx1, hx2, hx3, -⟩ := blk4 (show W0.drew.heap[wr.heap.size]? = _ by subst hW; exact blk_new _ _)
        refine wp_region_F (F := fun k w' => (k = 1 ∨ k = 2) → w'.cell? ⟨w.heap.size + 1 + 1, 3, none⟩ = some (.slice va j vc) ∧ w'.cell? ⟨wr.heap.size, 0, none⟩ = some (.int .i64 l[j].kind) ∧ w'.cell? ⟨wr.heap.size, 1, none⟩ = some (.int .i64 l[j].n) ∧ w'.cell? ⟨wr.heap.size, 2, none⟩ = some (.string l[j].s) ∧ w'.cell? ⟨wr.heap.size, 3, none⟩ = some (.slice sa l[j].args.length sc)) (by kernel_rfl) ?_
        refine wpAnyF_take (i := 0) (v := ?_) rfl (by kernel_rfl) (by kernel_rfl) (by kernel_rfl) (fun _ _ _ h => h) (Or.inl ⟨by rfl, ?_⟩) (fun _ => ⟨hW1, hx0, hx1, hx2, hx3⟩) ?_
        rotate_left
        · (intro w' hw; clear hw; go_simp <;> with_reducible rfl)
        simp only [Act.put, List.setIfInBounds_toArray, List.set_cons_zero, List.set_cons_succ]
        refine wpAnyF_take (i := 1) (v := ?_) rfl (by kernel_rfl) (by kernel_rfl) (by kernel_rfl) (fun _ _ _ h => h) (Or.inl ⟨by rfl, ?_⟩) (fun _ => ⟨hW1, hx0, hx1, hx2, hx3⟩) ?_
        rotate_left
        · (intro w' hw; obtain ⟨q0, q1, q2, q3, q4⟩ := hw (by omega); go_simp <;> with_reducible rfl)
        simp only [Act.put, List.setIfInBounds_toArray, List.set_cons_zero, List.set_cons_succ]
        refine wpAnyF_take (i := 2) (v := ?_) rfl (by kernel_rfl) (by kernel_rfl) (by kernel_rfl) (fun _ _ _ h => h) (Or.inl ⟨by rfl, ?_⟩) (fun _ => ⟨hW1, hx0, hx1, hx2, hx3⟩) ?_
        rotate_left
        · (intro w' hw; obtain ⟨q0, q1, q2, q3, q4⟩ := hw (by omega); go_simp <;> with_reducible rfl)
        simp only [Act.put, List.setIfInBounds_toArray, List.set_cons_zero, List.set_cons_succ]
        refine wpAnyF_take (i := 3) (v := ?_) rfl (by kernel_rfl) (by kernel_rfl) (by kernel_rfl) (fun _ _ _ h => h) (Or.inl ⟨by rfl, ?_⟩) (fun _ => ⟨hW1, hx0, hx1, hx2, hx3⟩) ?_
        rotate_left
        · (intro w' hw; clear hw; go_simp <;> with_reducible rfl)
        simp only [Act.put, List.setIfInBounds_toArray, List.set_cons_zero, List.set_cons_succ]
        refine wpAnyF_one (i := 4) (by kernel_rfl) (wpOp_run rfl (by rfl) ?_)
        go_simp
        have hrd : Tm.rep A W0.drew l[j] _ := Tm.rep_lasts.1 _ _ _ _ _ HR.out (by subst hW; exact (Keeps.alloc _ _ _).trans (Keeps.drew _ _))
        refine (IH.out _ (List.getElem_mem hlt) d A _ _ hd hrd).mono ?_
        rintro e w1 ⟨v', rfl, hb1, us, rfl, hr⟩
        obtain ⟨sa', sc', rfl, -⟩ := Tm.rep4 hr
        have hsz := hb1.size
        have hsW : W0.heap.size = wr.heap.size + 1 := by subst hW; simp
        simp only [World.size_drew] at hsz
        have hHO : OwnR W0.drew _ _ _ _ _ _ _ := (by subst hW; exact (HO.out.alloc Tm.rep_lasts _).keeps Tm.rep_lasts (Keeps.drew (fun _ => True) _) (fun _ _ => trivial) (fun _ _ => trivial))
        have HO1 := hid (hHO.below Tm.rep_lasts hb1)
        have HN := hid (fresh_elem Tm.rep_lasts hHO (Nat.le_refl _) (A := fun b => w.heap.size + 3 ≤ b) (fun b hb => by simp only [World.size_drew] at hb; omega) hr)
        have HL := hid (show ((l.take j).map (Tm.ren fun n => low n + low d)).length < 4194304 ∧ w.heap.size + 3 ≤ w1.heap.size by simp; omega)
        have HBB : Hid (Below w.heap.size w w1) := hid ((show Below w.heap.size w W0.drew by subst hW; exact (HB.out.alloc (by omega) _).drew).trans (hb1.mono (by simp only [World.size_drew]; omega)))
        have HQ := hid (show w1.cell? ⟨w.heap.size + 1 + 1, 3, none⟩ = some (.slice va j vc) ∧ w1.cell? ⟨wr.heap.size, 0, none⟩ = some (.int .i64 l[j].kind) ∧ w1.cell? ⟨wr.heap.size, 1, none⟩ = some (.int .i64 l[j].n) ∧ w1.cell? ⟨wr.heap.size, 2, none⟩ = some (.string l[j].s) ∧ w1.cell? ⟨wr.heap.size, 3, none⟩ = some (.slice sa l[j].args.length sc) from ⟨bc hb1 hW1, bc hb1 hx0, bc hb1 hx1, bc hb1 hx2, bc hb1 hx3⟩)
        have HB2' := hid (show w1.heap[w.heap.size + 1 + 1]? = _ from blk_below (w := W0.drew) (by subst hW; exact blk_alloc HB2.out _) hb1)
        have HB1' := hid (show w1.heap[w.heap.size + 1]? = _ from blk_below (w := W0.drew) (by subst hW; exact blk_alloc HB1.out _) hb1)
        clear hrd hr hb1 hHO
        refine ⟨fun _ _ _ _ => HQ.out, ?_⟩
        refine wpAnyF_one (i := 5) (by kernel_rfl) (wpOp_run rfl (by rfl) ?_)
        go_simp
        refine ⟨fun _ _ _ _ => ?_, ?_⟩
        · obtain ⟨q0, q1, q2, q3, q4⟩ := HQ.out
          have ka := Keeps.alloc (fun _ => True) w1 (.cells #[.int .i64 (Tm.ren (fun n => low n + low d) l[j]).kind, .int .i64 (Tm.ren (fun n => low n + low d) l[j]).n, .string (Tm.ren (fun n => low n + low d) l[j]).s, .slice sa' (Tm.ren (fun n => low n + low d) l[j]).args.length sc'] 31)
          exact ⟨ka.cell trivial q0, ka.cell trivial q1, ka.cell trivial q2, ka.cell trivial q3, ka.cell trivial q4⟩
        refine wpAnyF_one (i := 6) (by kernel_rfl) (wpOp_run rfl (by rfl) ?_)
        refine wp_app1 (.tmp 28) (.tmp 32) 29 rfl (w.heap.size + 3) 31 4 56 tyTerm Tm.rep_lasts _ _ rfl HO1.out (Tm.ren (fun n => low n + low d) l[j]) [_, _, _, _] rfl rfl HN.out HL.out ?_
        intro v2 w2 hown2 hgrew
        have hlt2 := HO.out.lt
        have hk2 := hgrew.keeps (A := fun b => ownB (.slice va j vc) ≠ some b) (fun _ h => h)
        have hka := (Keeps.alloc (fun b => ownB (.slice va j vc) ≠ some b) w1 (.cells #[.int .i64 (Tm.ren (fun n => low n + low d) l[j]).kind, .int .i64 (Tm.ren (fun n => low n + low d) l[j]).n, .string (Tm.ren (fun n => low n + low d) l[j]).s, .slice sa' (Tm.ren (fun n => low n + low d) l[j]).args.length sc'] 31)).trans hk2
        have n1 : ownB (.slice va j vc) ≠ some (w.heap.size + 1 + 1) := fun e => by have := (hlt2 _ e).1; omega
        have n2 : ownB (.slice va j vc) ≠ some wr.heap.size := fun e => by have := (hlt2 _ e).2; omega
        have n3 : ownB (.slice va j vc) ≠ some (w.heap.size + 1) := fun e => by have := (hlt2 _ e).1; omega
        have HB22 := hid (blk_keeps HB2'.out hka n1)
        have HB12 := hid (blk_keeps HB1'.out hka n3)
        have HBB2 := hid (hgrew.below (HBB.out.alloc (by omega) _) (by simp; omega) (fun b hb => by have := (hlt2 b hb).1; omega))
        obtain ⟨va2, vc2, hv2, hvc2⟩ := hown2.val
        rw [show (List.map (Tm.ren fun n => low n + low d) (List.take j l) ++ [Tm.ren (fun n => low n + low d) l[j]]).length = j + 1 by simp; omega] at hv2
        subst hv2
        have hz2 := hgrew.size
        have HO2 := hid hown2
        simp only [World.size_alloc] at hz2
        obtain ⟨y0, y1, y2, y3, yf⟩ := blk4 HB22.out
        refine ⟨fun _ _ _ _ => ?_, ?_⟩
        · obtain ⟨q0, q1, q2, q3, q4⟩ := HQ.out
          exact ⟨hka.cell n1 q0, hka.cell n2 q1, hka.cell n2 q2, hka.cell n2 q3, hka.cell n2 q4⟩
        clear hown2 hka hk2
        simp only [Act.put, List.setIfInBounds_toArray, List.set_cons_zero, List.set_cons_succ]
        refine wpAnyF_take (i := 7) (v := ?_) rfl (by kernel_rfl) (by kernel_rfl) (by kernel_rfl) (fun _ _ _ h => h) (Or.inl ⟨by rfl, ?_⟩) (fun h => by omega) ?_
        rotate_left
        · (intro w' hw; clear hw; go_simp <;> with_reducible rfl)
        simp only [Act.put, List.setIfInBounds_toArray, List.set_cons_zero, List.set_cons_succ]
        refine wpAnyF_one (i := 8) (by kernel_rfl) (wpOp_run rfl (by rfl) ?_)
        go_simp
        refine ⟨fun k0 hk0 _ h12 => ?_, wpAnyF_done (by kernel_rfl) ?_ _⟩
        · rcases h12 with rfl | rfl
          · exact absurd (show waits _ 8 1 = true by kernel_rfl) (by rw [hk0]; decide)
          · exact absurd (show waits _ 8 2 = true by kernel_rfl) (by rw [hk0]; decide)
        have HB3 := hid (blk_set HB22.out 3 (.slice va2 (j + 1) vc2))
        have hz3 : (w2.setCell ⟨w.heap.size + 1 + 1, 3, none⟩ (.slice va2 (j + 1) vc2)).heap.size = w2.heap.size := by simp
        have HK3 := hid (Keeps.setCell (fun b => b ≠ w.heap.size + 1 + 1) w2 ⟨w.heap.size + 1 + 1, 3, none⟩ (.slice va2 (j + 1) vc2) (by simp))
        clear hgrew
        go_wp2_with fail
        go_roundw
        case rel =>
          refine ⟨j + 1, _, by omega, by go_num, by omega, HBB2.out.setCell (by simp; omega) _, blk_keeps HB12.out HK3.out (by omega), HB3.out, ?_⟩
          rw [List.take_succ_eq_append_getElem hlt, List.map_append]
          exact HO2.out.keeps Tm.rep_lasts HK3.out (fun b hb => by omega) (fun b hb => by have := (HO2.out.lt b hb).1; omega)
        case measure => simp [intOf]; omega
      · have : j = l.length := by omega
        subst this
        obtain ⟨z0, z1, z2, z3, zf⟩ := blk4 HB1.out
        have hcs := cell_set
        go_wp2_with fail
        refine bodyPost_ret (v := .agg #[.int .i64 k, .int .i64 m, .string s, .slice va l.length vc]) (by simp [results, Tryd.results122, go_sem, hcs, z0, z1, z2, z3]) rfl ⟨_, rfl, ?_, [_, _, _, _], rfl, ?_⟩
        · refine Below.setCell (Below.setCell (Below.setCell (Below.setCell HB.out ?_ _) ?_ _) ?_ _) ?_ _ <;> simp
        · have hO := HO.out
          rw [List.take_length] at hO
          have hsl := hO.sl Tm.rep_lasts (by simp; omega) (fun b hb => hb)
          rw [Tm.ren, Tm.rep_iff]
          refine ⟨hk, ?_, hs, _, by rw [HM.out, newN], ?_⟩
          · show I64 (newN k n d)
            unfold newN I64 at *
            split <;> omega
          · rw [Tm.renL_map]
            refine SlR.mono Tm.rep_lasts (by omega) (SlR.keeps Tm.rep_lasts hsl ?_) (fun b _ hb => by simp only [New] at *; omega)
            refine Keeps.trans (Keeps.trans (Keeps.trans (Keeps.setCell _ _ _ _ ?_) (Keeps.setCell _ _ _ _ ?_)) (Keeps.setCell _ _ _ _ ?_)) (Keeps.setCell _ _ _ _ ?_) <;> simp
theorem shift_ok : ∀ t, ShiftOK t := by
  intro t
  induction t using Tm.induct with
  | h k n s l ih => exact shift_of k n s l ih
end Go.Proofs.YtlpmfkpefoegeabDoor
