/-
  heap.read: the term at a place.
-/
import Derived.Test.YtlpmfkpefoegeabQRen
import Derived.Test.YtlpmfkpefoegeabHBack
import Derived.Test.YtlpmfkpefoegeabHBis
namespace Go.Proofs.Ytlpmfkpefoegeab
set_option linter.unusedVariables false
set_option linter.unusedSimpArgs false
open Go.RowKit
def LeftAt (g : Nat) (k : Int) (w : World) : Prop := w.heap[g]? = some (.cells #[.int .i64 k] 3 (0, 0))
def RdPost (g : Nat) (w : World) (res : Option (Tm × Nat)) (e : Ending) (w' : World) : Prop :=
  ∃ (us : List Value) (t : Tm) (k : Int), e = .returned (.agg us.toArray) ∧ Ch (fun b => b = g) w w' ∧ Tm.rep (fun b => New w b) w' t us ∧ LeftAt g k w' ∧ ((res = none ∧ k = -1) ∨ (res = some (t, k.toNat) ∧ 0 ≤ k))
def ReadOK (k : Nat) : Prop := ∀ (h : Hp) (a : Int) (g : Nat) (A : Nat → Prop) (w : World) (us : List Value), GoodC h.cells → I64 a → ¬ A g → Hp.rep A w h us → LeftAt g k w → k ≤ 65536 →
  Calls Try.prog 32 #[.agg us.toArray, .int .i64 a, .pointer (some ⟨g, 0, none⟩)] w (RdPost g w (rd1 h.cells k a))
theorem tm0_rep (A : Nat → Prop) (w : World) : Tm.rep A w tm0 [.int .i64 0, .int .i64 0, .string ByteArray.empty, .slice none 0 0] := by
  rw [tm0, Tm.rep_iff]
  exact ⟨by unfold I64; omega, by unfold I64; omega, by decide, _, rfl, SlR.nil ..⟩
theorem leaf_rep (A : Nat → Prop) (w : World) (k n : Int) (s : ByteArray) (hk : I64 k) (hn : I64 n) (hs : s.size ≤ 1048576) : Tm.rep A w (.mk k n s []) [.int .i64 k, .int .i64 n, .string s, .slice none 0 0] := by
  rw [Tm.rep_iff]
  exact ⟨hk, hn, hs, _, rfl, SlR.nil ..⟩
theorem bytes_nil {s : ByteArray} (h : s.toList = []) : s = ByteArray.empty := toList_inj' (h.trans (by rw [ByteArray.toList_eq]; rfl))
theorem left_cell {g : Nat} {k : Int} {w : World} (h : LeftAt g k w) : w.cell? ⟨g, 0, none⟩ = some (.int .i64 k) ∧ (∀ o, w.frozen? ⟨g, o, none⟩ = false) ∧ g < w.heap.size :=
  ⟨(blk_cell h 0).trans rfl, fun o => by unfold LeftAt at h; simp [World.frozen?, h], blk_lt h⟩
theorem left_set {g : Nat} {k k' : Int} {w : World} (h : LeftAt g k w) : LeftAt g k' (w.setCell ⟨g, 0, none⟩ (.int .i64 k')) := (blk_set h 0 _).trans rfl
theorem left_put {g b o : Nat} {u : Value} {k : Int} {w : World} (h : LeftAt g k w) (hb : g ≠ b) : LeftAt g k (w.setCell ⟨b, o, none⟩ u) := (Below.heap_setCell _ _ _ _ hb).trans h
theorem left_keeps {g : Nat} {k : Int} {w w' : World} (h : LeftAt g k w) (hk : Keeps (fun _ => True) w w') : LeftAt g k w' := blk_keeps h hk trivial
theorem left_alloc {g : Nat} {k : Int} {w : World} (h : LeftAt g k w) (o : Obj) : LeftAt g k (w.alloc o) := blk_alloc h o
set_option maxHeartbeats 2000000 in
theorem read_zero : ReadOK 0 := by
  intro h a g A w us hg ha hAg hh hl hk
  obtain ⟨va, cap, vb, tap, rfl, hc1, hc2, hc3, ht1, ht2, ht3, -⟩ := Hp.rep2 hh
  obtain ⟨l0, lf, hgl⟩ := left_cell hl
  have HL := hid hl
  have hcs := cell_set
  have hgl1 : g < w.heap.size + 1 := by omega
  clear hh hl hg
  rw [rd1_zero]
  go_enter Try.func32, Try.ntmps32
  go_wp2_with fail
  refine bodyPost_ret (v := .agg #[.int .i64 0, .int .i64 0, .string ByteArray.empty, .slice none 0 0]) (by simp [results, Try.results32, go_sem, hcs]; rfl) rfl ?_
  exact ⟨_, tm0, -1, rfl, ((ch_box g 0 w _).alloc _).alloc _, tm0_rep _ _, left_alloc (left_alloc (left_set HL.out) _) _, .inl ⟨rfl, rfl⟩⟩
set_option maxRecDepth 100000 in
set_option maxHeartbeats 1500000 in
theorem read_succ (k : Nat) (ih : ∀ m, m ≤ k → ReadOK m) : ReadOK (k + 1) := by
  intro h a g A w us hg ha hAg hh hl hk
  obtain ⟨va, cap, vb, tap, rfl, hc1, hc2, hc3, ht1, ht2, ht3, hc, ht⟩ := Hp.rep2 hh
  obtain ⟨_, _, cb, coff, e, -, -, -, hca, hce⟩ := hc.at
  simp only [Value.slice.injEq, true_and] at e
  obtain ⟨rfl, rfl⟩ := e
  obtain ⟨l0, lf, hgl⟩ := left_cell hl
  have HL := hid hl
  have HH := hid hh
  have HG := hid hg
  have HI := hid ha
  have HCA := hid hca
  have HCE := hid hce
  have HAG := hid hAg
  have IH := hid ih
  have hcs := cell_set
  have hgl1 : g < w.heap.size + 1 := by omega
  rw [show ((k + 1 : Nat) : Int) = (k : Int) + 1 by omega] at l0
  have hk0 : (0 : Int) ≤ (k : Int) := Int.natCast_nonneg _
  clear hh hl hg ha hca hce ih hc ht hAg
  go_enter Try.func32, Try.ntmps32
  go_wp2_with fail
  have HX1 : Hid ((((w.setCell ⟨g, 0, none⟩ (.int .i64 (k : Int))).alloc (.cells #[.slice va h.cells.length cap, .slice vb h.trail.length tap] 30)).alloc (.cells #[.int .i64 0, .int .i64 0, .string ByteArray.empty, .slice none 0 0] 24)).heap[w.heap.size]? = some (.cells #[.slice va h.cells.length cap, .slice vb h.trail.length tap] 30)) := hid (by simpa using (heap2 (w.setCell ⟨g, 0, none⟩ (.int .i64 (k : Int))) (.cells #[.slice va h.cells.length cap, .slice vb h.trail.length tap] 30) (.cells #[.int .i64 0, .int .i64 0, .string ByteArray.empty, .slice none 0 0] 24)).1)
  have HX2 : Hid ((((w.setCell ⟨g, 0, none⟩ (.int .i64 (k : Int))).alloc (.cells #[.slice va h.cells.length cap, .slice vb h.trail.length tap] 30)).alloc (.cells #[.int .i64 0, .int .i64 0, .string ByteArray.empty, .slice none 0 0] 24)).heap[w.heap.size + 1]? = some (.cells #[.int .i64 0, .int .i64 0, .string ByteArray.empty, .slice none 0 0] 24)) := hid (by simpa using (heap2 (w.setCell ⟨g, 0, none⟩ (.int .i64 (k : Int))) (.cells #[.slice va h.cells.length cap, .slice vb h.trail.length tap] 30) (.cells #[.int .i64 0, .int .i64 0, .string ByteArray.empty, .slice none 0 0] 24)).2)
  have HL1 := hid (show LeftAt g k (((w.setCell ⟨g, 0, none⟩ (.int .i64 (k : Int))).alloc (.cells #[.slice va h.cells.length cap, .slice vb h.trail.length tap] 30)).alloc (.cells #[.int .i64 0, .int .i64 0, .string ByteArray.empty, .slice none 0 0] 24)) from left_alloc (left_alloc (left_set HL.out) _) _)
  have HC1 := hid (show Ch (fun b => b = g) w (((w.setCell ⟨g, 0, none⟩ (.int .i64 (k : Int))).alloc (.cells #[.slice va h.cells.length cap, .slice vb h.trail.length tap] 30)).alloc (.cells #[.int .i64 0, .int .i64 0, .string ByteArray.empty, .slice none 0 0] 24)) from ((ch_box g 0 w _).alloc _).alloc _)
  have hW1 : (((w.setCell ⟨g, 0, none⟩ (.int .i64 (k : Int))).alloc (.cells #[.slice va h.cells.length cap, .slice vb h.trail.length tap] 30)).alloc (.cells #[.int .i64 0, .int .i64 0, .string ByteArray.empty, .slice none 0 0] 24)).heap.size = w.heap.size + 2 := by simp
  generalize HW1 : ((w.setCell ⟨g, 0, none⟩ (.int .i64 (k : Int))).alloc (.cells #[.slice va h.cells.length cap, .slice vb h.trail.length tap] 30)).alloc (.cells _ 24) = W1
  have e1 : ((w.setCell ⟨g, 0, none⟩ (.int .i64 (k : Int))).alloc (.cells #[.slice va h.cells.length cap, .slice vb h.trail.length tap] 30)).alloc (.cells #[.int .i64 0, .int .i64 0, .string ByteArray.empty, .slice none 0 0] 24) = W1 := HW1
  rw [e1] at HX1 HX2 HL1 HC1 hW1
  clear e1 HW1
  have HR1 := hid (Hp.rep.keeps HH.out (HC1.out.keeps (A := A) (fun b _ hb e => by subst e; exact HAG.out hb)))
  refine (look_ok h a HI.out A _ [_, _] HR1.out).mono ?_
  rintro e w2 ⟨r, rfl, hb2, rfl⟩
  have HX12 := hid (blk_below HX1.out hb2)
  have HX22 := hid (blk_below HX2.out hb2)
  have HL2 := hid (show LeftAt g k w2 from blk_below HL1.out hb2)
  have HC2 := hid (HC1.out.then_below hb2)
  have hz2 : w.heap.size + 2 ≤ w2.heap.size := by have := hb2.size; omega
  have hz21 : w.heap.size + 1 < w2.heap.size := by omega
  have hz20 : w.heap.size < w2.heap.size := by omega
  have hg2 : g < w2.heap.size := by omega
  obtain ⟨q0, qf, -⟩ := left_cell HL2.out
  obtain ⟨x0, x1, xf⟩ := box2 HX12.out
  obtain ⟨y0, y1, y2, y3, yf⟩ := blk4 HX22.out
  clear l0 lf hb2 HX1 HX2
  have hge := look_ge h.cells a
  have hne1 : ¬ w.heap.size + 1 = g := by omega
  have hne2 : ¬ g = w.heap.size + 1 := by omega
  by_cases hneg : look h.cells a < 0
  · have HR := hid (show rd1 h.cells (k + 1) a = none by rw [rd1_succ, if_pos hneg])
    go_wp2_with fail
    refine bodyPost_ret (v := .agg #[.int .i64 0, .int .i64 0, .string ByteArray.empty, .slice none 0 0]) (by simp [results, Try.results32, go_sem, hcs, y0, y1, y2, y3, hz21, hne1, hne2]; try rfl) rfl ?_
    have hch := HC2.out.set_box 0 (.int .i64 (-1))
    have hle := left_set (k' := -1) HL2.out
    refine ⟨[.int .i64 0, .int .i64 0, .string ByteArray.empty, .slice none 0 0], tm0, -1, rfl, ?_, tm0_rep _ _, ?_, .inl ⟨HR.out, rfl⟩⟩
    · repeat (with_reducible first | exact hch | refine Ch.alloc ?_ _ | refine Ch.setCell ?_ (.inr (by simp)) _)
    · repeat (with_reducible first | exact hle | refine left_alloc ?_ _ | refine left_put ?_ (by omega))
  · obtain ⟨x, hx, hxl, hcx⟩ := cellAt_eq (look_end (l := h.cells) (a := a) (by omega)).1
    have HRD := hid (show rd1 h.cells (k + 1) a = if h.cells[x].kind = 3 then
      (match rdL h.cells k (argsAt (x : Int) h.cells[x].n) with
       | none => none
       | some (ts, w1) => some (.mk 3 0 h.cells[x].s ts, w1))
      else some (if h.cells[x].kind = 0 then .mk 0 (x : Int) ByteArray.empty [] else .mk h.cells[x].kind h.cells[x].n h.cells[x].s [], k) by rw [rd1_succ, if_neg hneg, hcx, hx]; rfl)
    have hokc := HG.out x hxl
    rw [hx]
    have hx0 : (0 : Int) ≤ (x : Int) := Int.natCast_nonneg _
    have hx1 : (x : Int) < (h.cells.length : Int) := by omega
    obtain ⟨rfl, hAb⟩ := HCA.out (by omega)
    obtain ⟨c0, c1, c2, i0, i1, i2⟩ := ce_cells HCE.out hAb (HC2.out.keeps (A := A) (fun b _ hb e => by subst e; exact HAG.out hb)) hxl
    have HI1 := hid i1
    have HI2 := hid i2
    generalize hcc : h.cells[x] = c at hokc HRD c0 c1 c2 i0 i1 i2 HI1 HI2
    have hcbl : cb < w2.heap.size := World.block_lt_of_cell? w2 _ c0
    have hi64x : I64 (x : Int) := by unfold I64; omega
    have HX64 := hid hi64x
    clear hcx hx hneg hge i0 i1 i2 hi64x
    unfold Ce.OkAt at hokc
    rcases hokc with ⟨hk0', -, -, -⟩ | ⟨hk1', hn1', -⟩ | ⟨hk2', hs2'⟩ | ⟨hk3', hn1, hn4, hnl, -⟩
    · have HR := hid (show rd1 h.cells (k + 1) a = some (.mk 0 (x : Int) ByteArray.empty [], k) by rw [HRD.out, if_neg (by omega), if_pos hk0'])
      rw [hk0'] at c0
      clear hk0' HRD
      go_wp2_with fail
      refine bodyPost_ret (v := .agg #[.int .i64 0, .int .i64 (x : Int), .string ByteArray.empty, .slice none 0 0]) (by simp [results, Try.results32, go_sem, hcs, y0, y1, y2, y3, hz21, hne1, hne2]; try rfl) rfl ?_
      have hch := HC2.out
      have hle := HL2.out
      refine ⟨[.int .i64 0, .int .i64 (x : Int), .string ByteArray.empty, .slice none 0 0], .mk 0 (x : Int) ByteArray.empty [], k, rfl, ?_, leaf_rep _ _ _ _ _ (by unfold I64; omega) HX64.out (by decide), ?_, .inr ⟨by rw [HR.out]; rfl, hk0⟩⟩
      · repeat (with_reducible first | exact hch | refine Ch.alloc ?_ _ | refine Ch.setCell ?_ (.inr (by simp)) _)
      · repeat (with_reducible first | exact hle | refine left_alloc ?_ _ | refine left_put ?_ (by omega))
    · have HR := hid (show rd1 h.cells (k + 1) a = some (.mk 1 0 c.s [], k) by rw [HRD.out, if_neg (by omega), if_neg (by omega), hk1', hn1'])
      rw [hk1'] at c0
      clear hk1' hn1' HRD
      go_wp2_with fail
      refine bodyPost_ret (v := .agg #[.int .i64 1, .int .i64 0, .string c.s, .slice none 0 0]) (by simp [results, Try.results32, go_sem, hcs, y0, y1, y2, y3, hz21, hne1, hne2]; try rfl) rfl ?_
      have hch := HC2.out
      have hle := HL2.out
      refine ⟨[.int .i64 1, .int .i64 0, .string c.s, .slice none 0 0], .mk 1 0 c.s [], k, rfl, ?_, leaf_rep _ _ _ _ _ (by unfold I64; omega) (by unfold I64; omega) HI2.out, ?_, .inr ⟨by rw [HR.out]; rfl, hk0⟩⟩
      · repeat (with_reducible first | exact hch | refine Ch.alloc ?_ _ | refine Ch.setCell ?_ (.inr (by simp)) _)
      · repeat (with_reducible first | exact hle | refine left_alloc ?_ _ | refine left_put ?_ (by omega))
    · have hse := bytes_nil hs2'
      have HR := hid (show rd1 h.cells (k + 1) a = some (.mk 2 c.n ByteArray.empty [], k) by rw [HRD.out, if_neg (by omega), if_neg (by omega), hk2', hse])
      rw [hk2'] at c0
      clear hk2' hs2' HRD hse
      go_wp2_with fail
      refine bodyPost_ret (v := .agg #[.int .i64 2, .int .i64 c.n, .string ByteArray.empty, .slice none 0 0]) (by simp [results, Try.results32, go_sem, hcs, y0, y1, y2, y3, hz21, hne1, hne2]; try rfl) rfl ?_
      have hch := HC2.out
      have hle := HL2.out
      refine ⟨[.int .i64 2, .int .i64 c.n, .string ByteArray.empty, .slice none 0 0], .mk 2 c.n ByteArray.empty [], k, rfl, ?_, leaf_rep _ _ _ _ _ (by unfold I64; omega) HI1.out (by decide), ?_, .inr ⟨by rw [HR.out]; rfl, hk0⟩⟩
      · repeat (with_reducible first | exact hch | refine Ch.alloc ?_ _ | refine Ch.setCell ?_ (.inr (by simp)) _)
      · repeat (with_reducible first | exact hle | refine left_alloc ?_ _ | refine left_put ?_ (by omega))
    · rw [hk3'] at c0
      have HR := hid (show rd1 h.cells (k + 1) a = match rdL h.cells k (argsAt (x : Int) c.n) with
       | none => none
       | some (ts, w1) => some (.mk 3 0 c.s ts, w1) by rw [HRD.out, if_pos hk3'])
      obtain ⟨nn, hnn⟩ := Int.eq_ofNat_of_zero_le (show 0 ≤ c.n by omega)
      rw [hnn] at c1 hn1 hn4 hnl HR
      have hal : (argsAt (x : Int) (nn : Int)).length = nn := by simp [argsAt]
      have HAL := hid hal
      have hn4' : nn ≤ 4 := by omega
      clear hk3' hnn HRD hal
      go_wp2_with fail
      have HX13 := hid (blk_alloc (blk_alloc HX12.out (.cells #[.int .i64 3, .int .i64 (nn : Int), .string c.s] 71)) (.cells #[.int .i64 3, .int .i64 0, .string c.s, .slice none 0 0] 24))
      have HX23 := hid (blk_alloc (blk_alloc HX22.out (.cells #[.int .i64 3, .int .i64 (nn : Int), .string c.s] 71)) (.cells #[.int .i64 3, .int .i64 0, .string c.s, .slice none 0 0] 24))
      have HX33 := hid (heap2 w2 (.cells #[.int .i64 3, .int .i64 (nn : Int), .string c.s] 71) (.cells #[.int .i64 3, .int .i64 0, .string c.s, .slice none 0 0] 24))
      have HL3 := hid (left_alloc (left_alloc HL2.out (.cells #[.int .i64 3, .int .i64 (nn : Int), .string c.s] 71)) (.cells #[.int .i64 3, .int .i64 0, .string c.s, .slice none 0 0] 24))
      have HC3 := hid ((HC2.out.alloc (.cells #[.int .i64 3, .int .i64 (nn : Int), .string c.s] 71)).alloc (.cells #[.int .i64 3, .int .i64 0, .string c.s, .slice none 0 0] 24))
      have hs3 : ((w2.alloc (.cells #[.int .i64 3, .int .i64 (nn : Int), .string c.s] 71)).alloc (.cells #[.int .i64 3, .int .i64 0, .string c.s, .slice none 0 0] 24)).heap.size = w2.heap.size + 2 := by simp
      clear q0 qf x0 x1 xf y0 y1 y2 y3 yf c0 c1 c2
      go_loopw [9] (fun i wr => ∃ (j : Nat) (m : Int) (ts : List Tm) (v : Value), j ≤ nn ∧ i = .int .i64 ((j : Int) + 1) ∧ Ch (fun b => b = g) w wr ∧ wr.heap[w.heap.size]? = some (.cells #[.slice (some ⟨cb, coff, none⟩) h.cells.length cap, .slice vb h.trail.length tap] 30 (0, 0)) ∧ wr.heap[w.heap.size + 1]? = some (.cells #[.int .i64 0, .int .i64 0, .string ByteArray.empty, .slice none 0 0] 24 (0, 0)) ∧
          wr.heap[w2.heap.size]? = some (.cells #[.int .i64 3, .int .i64 (nn : Int), .string c.s] 71) ∧ wr.heap[w2.heap.size + 1]? = some (.cells #[.int .i64 3, .int .i64 0, .string c.s, v] 24 (0, 0)) ∧ OwnR wr (w2.heap.size + 2) 24 4 Tm.rep (fun b => w2.heap.size + 2 ≤ b) ts v ∧ LeftAt g m wr ∧ ts.length ≤ j ∧ w2.heap.size + 2 ≤ wr.heap.size ∧
          ((m = -1 ∧ rdL h.cells k (argsAt (x : Int) (nn : Int)) = none) ∨ (0 ≤ m ∧ m ≤ k ∧ ts.length = j ∧ rdL h.cells k ((argsAt (x : Int) (nn : Int)).take j) = some (ts, m.toNat)))) (fun i _ => nn + 1 - (intOf i).toNat)
      case atStart => exact ⟨0, k, [], _, Nat.zero_le _, rfl, HC3.out, HX13.out, HX23.out, HX33.out.1, HX33.out.2, OwnR.nil .., HL3.out, Nat.le_refl _, by omega, .inr ⟨by omega, Int.le_refl _, rfl, by rw [List.take_zero, rdL_nil]; rfl⟩⟩
      case round =>
        obtain ⟨j, m, ts, v, hj, rfl, hch, hx1', hx2', hx3', hx4', hown, hle, htl, hsz, hst⟩ := hrel
        have HCH := hid hch
        have HY1 := hid hx1'
        have HY2 := hid hx2'
        have HY3 := hid hx3'
        have HY4 := hid hx4'
        have HO := hid hown
        have HLE := hid hle
        obtain ⟨va', vc, rfl, hvc⟩ := hown.val
        obtain ⟨q0, qf, hgr⟩ := left_cell hle
        obtain ⟨x0, x1, xf⟩ := box2 hx1'
        obtain ⟨y0, y1, y2, y3, yf⟩ := blk4 hx2'
        obtain ⟨c0, c1, c2, cf⟩ := box3 hx3'
        obtain ⟨t0, t1, t2, t3, tf⟩ := blk4 hx4'
        have hz0 : w.heap.size < wr.heap.size := by omega
        have hz1 : w.heap.size + 1 < wr.heap.size := by omega
        have hz4 : w2.heap.size + 1 < wr.heap.size := by omega
        have hz3 : w2.heap.size < wr.heap.size := by omega
        clear hch hx1' hx2' hx3' hx4' hown hle
        have EXIT : Hid (m = -1 ∨ j = nn) ∨ (0 ≤ m ∧ j < nn) := by
          rcases hst with ⟨e, -⟩ | ⟨e, -⟩
          · exact .inl (hid (.inl e))
          · by_cases h : j < nn
            · exact .inr ⟨e, h⟩
            · exact .inl (hid (.inr (by omega)))
        rcases EXIT with EXIT | ⟨hm0, hlt⟩
        · have HFIN : Hid ((rd1 h.cells (k + 1) a = none ∧ m = -1) ∨ (rd1 h.cells (k + 1) a = some (.mk 3 0 c.s ts, m.toNat) ∧ 0 ≤ m)) := by
            rw [HR.out]
            rcases hst with ⟨e1, e2⟩ | ⟨e1, -, -, e2⟩
            · exact hid (.inl ⟨by rw [e2], e1⟩)
            · rcases EXIT.out with e3 | e3
              · omega
              · rw [e3, List.take_of_length_le (by rw [HAL.out]; exact Nat.le_refl _)] at e2
                exact hid (.inr ⟨by rw [e2], e1⟩)
          have hcond : ((nn : Int) < (j : Int) + 1) ∨ ((j : Int) + 1 ≤ (nn : Int) ∧ m < 0) := by
            rcases EXIT.out with e | e <;> omega
          have htl4 : ts.length ≤ 1048576 := by omega
          clear hst EXIT
          rcases hcond with hcond | ⟨hcond, hcm⟩
          all_goals
            go_wp2_with fail
            refine bodyPost_ret (v := .agg #[.int .i64 3, .int .i64 0, .string c.s, .slice va' ts.length vc]) (by simp [results, Try.results32, go_sem, hcs, y0, y1, y2, y3, hz1, hne1, hne2]; try rfl) rfl ?_
            have hch := HCH.out
            have hle := HLE.out
            refine ⟨[_, _, _, _], .mk 3 0 c.s ts, m, rfl, ?_, ?_, ?_, HFIN.out⟩
            · repeat (with_reducible first | exact hch | refine Ch.alloc ?_ _ | refine Ch.setCell ?_ (.inr (by simp)) _)
            · rw [Tm.rep_iff]
              refine ⟨by unfold I64; omega, by unfold I64; omega, HI2.out, _, rfl, ?_⟩
              have hsl := HO.out.sl Tm.rep_lasts (A := fun b => w2.heap.size + 2 ≤ b) htl4 (fun b hb => hb)
              refine SlR.mono Tm.rep_lasts (by omega) (SlR.keeps Tm.rep_lasts hsl ?_) (fun b _ hb => by simp only [New] at *; omega)
              refine Keeps.trans (Keeps.trans (Keeps.trans (Keeps.setCell _ _ _ _ ?_) (Keeps.setCell _ _ _ _ ?_)) (Keeps.setCell _ _ _ _ ?_)) (Keeps.setCell _ _ _ _ ?_) <;> (simp; omega)
            · repeat (with_reducible first | exact hle | refine left_alloc ?_ _ | refine left_put ?_ (by omega))
        · have hst' : m ≤ k ∧ ts.length = j ∧ rdL h.cells k ((argsAt (x : Int) (nn : Int)).take j) = some (ts, m.toNat) := by
            rcases hst with ⟨e, -⟩ | ⟨-, e⟩
            · omega
            · exact e
          obtain ⟨hmk, htj, hrd⟩ := hst'
          have HRDJ := hid hrd
          have HTJ := hid htj
          have htl9 : ts.length ≤ 4 := by omega
          clear hst hrd htj htl
          have hlt' : (j : Int) + 1 ≤ (nn : Int) := by omega
          obtain ⟨m, rfl⟩ := Int.eq_ofNat_of_zero_le hm0
          rw [Int.toNat_natCast] at HRDJ
          go_wp2_with fail
          have hW1 : wr.drew.cell? ⟨w2.heap.size + 1, 3, none⟩ = some (.slice va' ts.length vc) := (Keeps.drew (fun _ => True) wr).cell trivial t3
          have hW2 : wr.drew.cell? ⟨w.heap.size, 0, none⟩ = some (.slice (some ⟨cb, coff, none⟩) h.cells.length cap) := (Keeps.drew (fun _ => True) wr).cell trivial x0
          have hW3 : wr.drew.cell? ⟨w.heap.size, 1, none⟩ = some (.slice vb h.trail.length tap) := (Keeps.drew (fun _ => True) wr).cell trivial x1
          refine wp_region_F (F := fun k w' => (k = 1 ∨ k = 2) → w'.cell? ⟨w2.heap.size + 1, 3, none⟩ = some (.slice va' ts.length vc) ∧ w'.cell? ⟨w.heap.size, 0, none⟩ = some (.slice (some ⟨cb, coff, none⟩) h.cells.length cap) ∧ w'.cell? ⟨w.heap.size, 1, none⟩ = some (.slice vb h.trail.length tap)) (by kernel_rfl) ?_
          refine wpTk (i := 0) (v := ?_) rfl (Or.inl ⟨by rfl, ?_⟩) (fun _ => ⟨hW1, hW2, hW3⟩) ?_
          rotate_left
          · (intro w' hw; clear hw; go_simp <;> with_reducible rfl)
          simp only [Act.put, List.setIfInBounds_toArray, List.set_cons_zero, List.set_cons_succ]
          refine wpTk (i := 1) (v := ?_) rfl (Or.inl ⟨by rfl, ?_⟩) (fun _ => ⟨hW1, hW2, hW3⟩) ?_
          rotate_left
          · (intro w' hw; obtain ⟨q0, q1, q2⟩ := hw (by omega); go_simp <;> with_reducible rfl)
          simp only [Act.put, List.setIfInBounds_toArray, List.set_cons_zero, List.set_cons_succ]
          refine wpTk (i := 2) (v := ?_) rfl (Or.inl ⟨by rfl, ?_⟩) (fun _ => ⟨hW1, hW2, hW3⟩) ?_
          rotate_left
          · (intro w' hw; obtain ⟨q0, q1, q2⟩ := hw (by omega); go_simp <;> with_reducible rfl)
          simp only [Act.put, List.setIfInBounds_toArray, List.set_cons_zero, List.set_cons_succ]
          refine wpTk (i := 3) (v := ?_) rfl (Or.inl ⟨by rfl, ?_⟩) (fun _ => ⟨hW1, hW2, hW3⟩) ?_
          rotate_left
          · (intro w' hw; clear hw; go_simp <;> with_reducible rfl)
          simp only [Act.put, List.setIfInBounds_toArray, List.set_cons_zero, List.set_cons_succ]
          refine wpTk (i := 4) (v := ?_) rfl (Or.inl ⟨by rfl, ?_⟩) (fun _ => ⟨hW1, hW2, hW3⟩) ?_
          rotate_left
          · (intro w' hw; clear hw; go_simp <;> with_reducible rfl)
          simp only [Act.put, List.setIfInBounds_toArray, List.set_cons_zero, List.set_cons_succ]
          refine wpAnyF_take (i := 5) (v := .int .i64 ((x : Int) + ((j : Int) + 1))) rfl (by kernel_rfl) (by kernel_rfl) (by kernel_rfl) (fun _ _ _ h => h) (Or.inl ⟨by rfl, ?_⟩) (fun _ => ⟨hW1, hW2, hW3⟩) ?_
          · intro w' hw; clear hw; go_simp; rw [IntKind.wrap_i64]; omega
          simp only [Act.put, List.setIfInBounds_toArray, List.set_cons_zero, List.set_cons_succ]
          refine wpTk (i := 6) (v := ?_) rfl (Or.inl ⟨by rfl, ?_⟩) (fun _ => ⟨hW1, hW2, hW3⟩) ?_
          rotate_left
          · (intro w' hw; clear hw; go_simp <;> with_reducible rfl)
          simp only [Act.put, List.setIfInBounds_toArray, List.set_cons_zero, List.set_cons_succ]
          refine wpAnyF_one (i := 7) (by kernel_rfl) (wpOp_run rfl (by rfl) ?_)
          go_simp
          rw [show (x : Int) + ((j : Int) + 1) = (x : Int) + 1 + (j : Int) by omega]
          have hrh : Hp.rep A wr.drew h [.slice (some ⟨cb, coff, none⟩) h.cells.length cap, .slice vb h.trail.length tap] := Hp.rep.keeps HH.out ((HCH.out.keeps (A := A) (fun b _ hb e => by subst e; exact HAG.out hb)).trans (Keeps.drew _ _))
          refine (IH.out m (by omega) h ((x : Int) + 1 + (j : Int)) g A wr.drew [_, _] HG.out (by unfold I64; omega) HAG.out hrh (left_keeps HLE.out (Keeps.drew _ _)) (by omega)).mono ?_
          rintro e w3 ⟨us, t', k', rfl, hch1, hr1, hl1, hres⟩
          obtain ⟨sa', sc', rfl, -⟩ := Tm.rep4 hr1
          have hsz1 := hch1.size
          simp only [World.size_drew] at hsz1
          have hkg : Keeps (fun b => b ≠ g) wr w3 := (Keeps.drew _ _).trans (hch1.keeps (A := fun b => b ≠ g) (fun b _ hb e => hb e))
          have HO1 := hid (HO.out.keeps Tm.rep_lasts hkg (fun b hb => by omega) (fun b hb => by have := (HO.out.lt b hb).1; omega))
          have HN := hid (fresh_elem Tm.rep_lasts HO.out (wc := wr.drew) (Nat.le_refl _) (A := fun b => w2.heap.size + 2 ≤ b) (fun b hb => by simp only [World.size_drew] at hb; omega) hr1)
          have HL9 := hid (show ts.length < 4194304 ∧ w2.heap.size + 2 ≤ w3.heap.size by omega)
          have HCW := hid (show Ch (fun b => b = g) w w3 from (HCH.out.drew).trans hch1 (fun _ h => .inl h))
          have HQ := hid (show w3.cell? ⟨w2.heap.size + 1, 3, none⟩ = some (.slice va' ts.length vc) ∧ w3.cell? ⟨w.heap.size, 0, none⟩ = some (.slice (some ⟨cb, coff, none⟩) h.cells.length cap) ∧ w3.cell? ⟨w.heap.size, 1, none⟩ = some (.slice vb h.trail.length tap) from ⟨hkg.cell (by omega) t3, hkg.cell (by omega) x0, hkg.cell (by omega) x1⟩)
          have HY11 := hid (blk_keeps HY1.out hkg (by omega))
          have HY21 := hid (blk_keeps HY2.out hkg (by omega))
          have HY31 := hid (blk_keeps HY3.out hkg (by omega))
          have HY41 := hid (blk_keeps HY4.out hkg (by omega))
          have HL11 := hid hl1
          have HRES := hid hres
          clear hrh hr1 hl1 hres hch1 hkg q0 qf x0 x1 xf y0 y1 y2 y3 yf c0 c1 c2 cf t0 t1 t2 t3 tf
          refine ⟨fun _ _ _ _ => HQ.out, ?_⟩
          refine wpAnyF_one (i := 8) (by kernel_rfl) (wpOp_run rfl (by rfl) ?_)
          go_simp
          refine ⟨fun _ _ _ _ => ?_, ?_⟩
          · obtain ⟨q0, q1, q2⟩ := HQ.out
            have ka := Keeps.alloc (fun _ => True) w3 (.cells #[.int .i64 t'.kind, .int .i64 t'.n, .string t'.s, .slice sa' t'.args.length sc'] 24)
            exact ⟨ka.cell trivial q0, ka.cell trivial q1, ka.cell trivial q2⟩
          refine wpAnyF_one (i := 9) (by kernel_rfl) (wpOp_run rfl (by rfl) ?_)
          refine wp_app1 (.tmp 63) (.tmp 70) 22 rfl (w2.heap.size + 2) 24 4 56 tyTerm Tm.rep_lasts _ _ rfl HO1.out t' [_, _, _, _] rfl rfl HN.out HL9.out ?_
          intro v2 w4 hown2 hgrew
          have hlt2 := HO.out.lt
          have hk2 := hgrew.keeps (A := fun b => ownB (.slice va' ts.length vc) ≠ some b) (fun _ h => h)
          have hka := (Keeps.alloc (fun b => ownB (.slice va' ts.length vc) ≠ some b) w3 (.cells #[.int .i64 t'.kind, .int .i64 t'.n, .string t'.s, .slice sa' t'.args.length sc'] 24)).trans hk2
          have hno : ∀ b, b < w2.heap.size + 2 → ownB (.slice va' ts.length vc) ≠ some b := fun b hb e => by have := (hlt2 _ e).1; omega
          have HY12 := hid (blk_keeps HY11.out hka (hno _ (by omega)))
          have HY22 := hid (blk_keeps HY21.out hka (hno _ (by omega)))
          have HY32 := hid (blk_keeps HY31.out hka (hno _ (by omega)))
          have HY42 := hid (blk_keeps HY41.out hka (hno _ (by omega)))
          have HL12 := hid (show LeftAt g k' w4 from blk_keeps HL11.out hka (hno _ (by omega)))
          have HCW2 := hid (hgrew.ch (HCW.out.alloc _) (fun b hb => .inr (by have := (hlt2 b hb).1; omega)))
          obtain ⟨va2, vc2, hv2, hvc2⟩ := hown2.val
          rw [show (ts ++ [t']).length = ts.length + 1 by simp] at hv2
          subst hv2
          have hz2' := hgrew.size
          have HO2 := hid hown2
          simp only [World.size_alloc] at hz2'
          obtain ⟨y0, y1, y2, y3, yf⟩ := blk4 HY42.out
          refine ⟨fun _ _ _ _ => ?_, ?_⟩
          · obtain ⟨q0, q1, q2⟩ := HQ.out
            exact ⟨hka.cell (hno _ (by omega)) q0, hka.cell (hno _ (by omega)) q1, hka.cell (hno _ (by omega)) q2⟩
          clear hown2 hka hk2
          simp only [Act.put, List.setIfInBounds_toArray, List.set_cons_zero, List.set_cons_succ]
          refine wpTk (i := 10) (v := ?_) rfl (Or.inl ⟨by rfl, ?_⟩) (fun h => by omega) ?_
          rotate_left
          · (intro w' hw; clear hw; go_simp <;> with_reducible rfl)
          simp only [Act.put, List.setIfInBounds_toArray, List.set_cons_zero, List.set_cons_succ]
          refine wpAnyF_one (i := 11) (by kernel_rfl) (wpOp_run rfl (by rfl) ?_)
          go_simp
          refine ⟨fun k0 hk0 _ h12 => ?_, wpAnyF_done (by kernel_rfl) ?_ _⟩
          · rcases h12 with rfl | rfl
            · exact absurd (show waits _ 11 1 = true by kernel_rfl) (by rw [hk0]; decide)
            · exact absurd (show waits _ 11 2 = true by kernel_rfl) (by rw [hk0]; decide)
          have HB3 := hid (blk_set HY42.out 3 (.slice va2 (ts.length + 1) vc2))
          have hz33 : (w4.setCell ⟨w2.heap.size + 1, 3, none⟩ (.slice va2 (ts.length + 1) vc2)).heap.size = w4.heap.size := by simp
          have HK3 := hid (Keeps.setCell (fun b => b ≠ w2.heap.size + 1) w4 ⟨w2.heap.size + 1, 3, none⟩ (.slice va2 (ts.length + 1) vc2) (by simp))
          have hja : j < (argsAt (x : Int) (nn : Int)).length := by rw [HAL.out]; exact hlt
          have HNX := hid (show rdL h.cells k ((argsAt (x : Int) (nn : Int)).take (j + 1)) = (match rd1 h.cells m ((x : Int) + 1 + (j : Int)) with
            | none => none
            | some (t, w2) => some (ts ++ [t], w2)) by
            rw [List.take_succ_eq_append_getElem hja, argsAt_get, rdL_snoc, HRDJ.out]; rfl)
          clear hgrew
          go_wp2_with fail
          go_roundw
          case rel =>
            refine ⟨j + 1, k', ts ++ [t'], _, by omega, by go_num, HCW2.out.setCell (.inr (by simp only; omega)) _, blk_keeps HY12.out HK3.out (by omega), blk_keeps HY22.out HK3.out (by omega), blk_keeps HY32.out HK3.out (by omega), HB3.out, ?_, left_put HL12.out (by omega), by have := HTJ.out; simp; omega, by omega, ?_⟩
            · exact HO2.out.keeps Tm.rep_lasts HK3.out (fun b hb => by omega) (fun b hb => by have := (HO2.out.lt b hb).1; omega)
            · rcases HRES.out with ⟨r1, r2⟩ | ⟨r1, r2⟩
              · refine .inl ⟨r2, ?_⟩
                have := rdL_none h.cells k ((argsAt (x : Int) (nn : Int)).take (j + 1)) ((argsAt (x : Int) (nn : Int)).drop (j + 1)) (by rw [HNX.out, r1])
                rwa [List.take_append_drop] at this
              · refine .inr ⟨r2, ?_, by have := HTJ.out; simp; omega, by rw [HNX.out, r1]⟩
                have := rd1_le r1
                omega
          case measure => simp [intOf]; omega
theorem read_ok : ∀ k, ReadOK k := by
  intro k
  induction k using Nat.strongRecOn with
  | _ k ih =>
    cases k with
    | zero => exact read_zero
    | succ k => exact read_succ k fun m hm => ih m (by omega)
end Go.Proofs.Ytlpmfkpefoegeab
