/-
  queristref.UnifyAt: by a list of pairs.
-/
import Derived.Test.YtlpmfkpefoegeaaQUbA
import Derived.Test.YtlpmfkpefoegeaaQHUnify
import Derived.Test.YtlpmfkpefoegeaaQIsHeapR
import Derived.Test.YtlpmfkpefoegeaaQLookAt
import Derived.Test.YtlpmfkpefoegeaaQLoadB
namespace Go.Proofs.Ytlpmfkpefoegeaa
set_option linter.unusedVariables false
set_option linter.unusedSimpArgs false
open Go.RowKit

/-- a pair's two cells -/
def pairV (p : Int × Int) : List Value := [.int .i64 p.1, .int .i64 p.2]
def pairOk (p : Int × Int) : Prop := I64 p.1 ∧ I64 p.2
theorem pairV_len (p : Int × Int) : (pairV p).length = 2 := rfl
theorem pairR_lasts : Lasts (flatR pairV pairOk) := flatR_lasts fun x => by simp [pairV, Value.oneCell']
abbrev OwnPr (w : World) (base : Nat) (l : List (Int × Int)) (v : Value) : Prop := OwnF pairV pairOk 81 2 w base l v
theorem tyPairs : ElemTy Try.prog 82 81 2 16 := .mk' (z := .agg #[.int .i64 0, .int .i64 0]) Try.underlying82 (by kernel_rfl) rfl (by omega) (by omega)

theorem OwnF.single {α : Type} {f : α → List Value} {ok : α → Prop} {E : TypeId} {size base g : Nat} {w : World} {x : α} (hf : ∀ x, (f x).length = size) (hb : base ≤ g) (hok : ok x) (h : w.heap[g]? = some (.cells (f x).toArray E (0, 0))) : OwnF f ok E size w base [x] (.slice (some ⟨g, 0, none⟩) 1 1) := by
  refine ⟨⟨by rw [flatMap_len hf], .inr ⟨g, 1, _, rfl, by omega, hb, h, Nat.le_refl _, by simp [maxLen], by simp [hf], ?_⟩⟩, fun y hy => by simp at hy; subst hy; exact hok⟩
  rw [List.take_of_length_le (by simp [hf])]
  simp

theorem um_below {w wr w6 : World} {g B : Nat} {cv tv : Value} (hb : Below w.heap.size w wr) (hch : Ch (UM g cv tv) wr w6) (hB : w.heap.size + 2 ≤ B) (hg : B ≤ g) (hc : ∀ b, ownB cv = some b → B ≤ b) (ht : ∀ b, ownB tv = some b → B ≤ b) :
    Below w.heap.size w w6 ∧ ∀ i, i < B → i < wr.heap.size → w6.heap[i]? = wr.heap[i]? := by
  have hn : ∀ i, i < B → ¬ UM g cv tv i := fun i hi h => by
    rcases h with h | h | h
    · omega
    · have := hc i h; omega
    · have := ht i h; omega
  refine ⟨(Ch.trans (Ch.of_below (M := UM g cv tv) hb) hch (fun _ h => .inl h)).below (fun i hi => hn i (by omega)), fun i hi hw => hch.block i hw (hn i hi)⟩

theorem goodC_bind {l : List Ce} {v : Nat} {a : Int} (hg : GoodC l) (hv : v < l.length) (hk : l[v].kind = 0) (ha0 : 0 ≤ a) (ha1 : a < l.length) : GoodC (bindC l (v : Int) a) := by
  intro i hi
  rw [bindC_len] at hi
  have h1 := hg i hi
  have e : (bindC l (v : Int) a)[i]'(by rw [bindC_len]; exact hi) = if v = i then { l[i] with n := a } else l[i] := by
    simp only [bindC, Int.toNat_natCast, List.getElem_modify]
  rw [e, bindC_len]
  by_cases h : v = i
  · subst h
    rw [if_pos rfl]
    have h2 := hg v hv
    unfold Ce.OkAt at h2 ⊢
    rcases h2 with h2 | h2 | h2 | h2
    · exact .inl ⟨hk, ha0, ha1, h2.2.2.2⟩
    · omega
    · omega
    · omega
  · rw [if_neg h]; exact h1

theorem uniL_cons (k : Nat) (p : Int × Int) (r : List (Int × Int)) (l : List Ce) (t : List Int) : uniL k (p :: r) l t = if (uniL k [p] l t).ok = true then uniL (uniL k [p] l t).work.toNat r (uniL k [p] l t).cells (uniL k [p] l t).trail else uniL k [p] l t := uniL_app k [p] r l t

set_option maxRecDepth 100000 in
set_option maxHeartbeats 4000000 in
theorem unifyAt_ok (h : Hp) (a b : Int) (ha : I64 a) (hb : I64 b) (A : Nat → Prop) (w : World) (vs : List Value) (hh : Hp.rep A w h vs) :
    Calls Try.prog 36 #[.agg vs.toArray, .int .i64 a, .int .i64 b] w (Pure w (HpBE (fun b => A b ∨ New w b) (unifyF h a b))) := by
  obtain ⟨va, cap, vb, tap, rfl, hc1, hc2, hc3, ht1, ht2, ht3, hc, ht⟩ := Hp.rep2 hh
  have HH := hid hh
  have HIA := hid ha
  have HIB := hid hb
  have HG1 := hid (fun w' (hk : Keeps A w w') => isHeap_ok h A w' _ (Hp.rep.keeps hh hk))
  clear hh hc ht ha hb
  go_enter Try.func36, Try.ntmps36
  go_wp2_with fail
  refine (HG1.out _ ((Keeps.alloc _ _ _).trans (Keeps.alloc _ _ _))).mono ?_
  rintro e w1 ⟨v, rfl, hb1, t, rfl, ht⟩
  have h2 := heap2 w (.cells #[.slice va h.cells.length cap, .slice vb h.trail.length tap] 38) (.cells #[.slice none 0 0, .slice none 0 0] 38)
  have HX1 := hid (blk_below h2.1 hb1)
  have HX2 := hid (blk_below h2.2 hb1)
  have HB := hid (show Below w.heap.size w w1 from below_pure (below_pure (hb1.mono (by simp))))
  have hz : w.heap.size + 1 < w1.heap.size := by have := hb1.size; simp at this; omega
  have hz' : w.heap.size < w1.heap.size := by omega
  have HTT := hid ht
  have hcs := cell_set
  clear h2 hb1 ht
  obtain ⟨x0, x1, xf⟩ := box2 HX1.out
  obtain ⟨y0, y1, yf⟩ := box2 HX2.out
  cases t with
  | false =>
    have hg : ¬ h.Good := fun hg => by have := HTT.out.2 hg; cases this
    go_wp2_with fail
    refine bodyPost_ret (v := .tuple #[.agg #[.slice va h.cells.length cap, .slice vb h.trail.length tap], .bool false, .int .i64 1]) (by simp [results, Try.results36, go_sem, hcs, x0, x1, y0, y1]) rfl ?_
    have hb : Below w.heap.size w ((w1.setCell ⟨w.heap.size + 1, 0, none⟩ (.slice va h.cells.length cap)).setCell ⟨w.heap.size + 1, 1, none⟩ (.slice vb h.trail.length tap)) := Below.setCell (Below.setCell HB.out (by simp) _) (by simp) _
    rw [unifyF, if_pos hg]
    exact Pure.mk hb ⟨_, rfl, Hp.rep.mono (Hp.rep.keeps HH.out (Keeps.of_below hb)) (fun _ _ h => .inl h)⟩
  | true =>
    have HGH := hid (HTT.out.1 rfl)
    have HL1 := hid HGH.out.2.2.1
    have HL2 := hid HGH.out.2.2.2
    clear HTT
    by_cases hin : Inb h.cells a ∧ Inb h.cells b
    case neg =>
      have HIN := hid hin
      have hin' : ¬ (0 ≤ a ∧ a < (h.cells.length : Int) ∧ 0 ≤ b ∧ b < (h.cells.length : Int)) := fun k => hin ⟨⟨k.1, k.2.1⟩, k.2.2.1, k.2.2.2⟩
      clear hin
      go_wp2_with fail
      all_goals first
        | (exfalso; omega)
        | (refine bodyPost_ret (v := .tuple #[.agg #[.slice va h.cells.length cap, .slice vb h.trail.length tap], .bool false, .int .i64 4]) (by simp [results, Try.results36, go_sem, hcs, x0, x1, y0, y1]) rfl ?_
           have hb : Below w.heap.size w ((w1.setCell ⟨w.heap.size + 1, 0, none⟩ (.slice va h.cells.length cap)).setCell ⟨w.heap.size + 1, 1, none⟩ (.slice vb h.trail.length tap)) := Below.setCell (Below.setCell HB.out (by simp) _) (by simp) _
           rw [unifyF, if_neg (not_not_intro HGH.out), if_pos HIN.out]
           exact Pure.mk hb ⟨_, rfl, Hp.rep.mono (Hp.rep.keeps HH.out (Keeps.of_below hb)) (fun _ _ h => .inl h)⟩)
        | go_ways
    case pos =>
      have HIN := hid hin
      obtain ⟨⟨i1, i2⟩, i3, i4⟩ := hin
      have UF := hid (show unifyF h a b = (if (uniL 400 [(a, b)] h.cells h.trail).work < 0 then (h, false, 3) else if (uniL 400 [(a, b)] h.cells h.trail).ok = false then (h, false, 0) else if 65536 < (uniL 400 [(a, b)] h.cells h.trail).trail.length then (h, false, 3) else (⟨(uniL 400 [(a, b)] h.cells h.trail).cells, (uniL 400 [(a, b)] h.cells h.trail).trail⟩, true, 0)) by
        rw [unifyF, if_neg (not_not_intro HGH.out), if_neg (not_not_intro HIN.out)])
      go_wp2_with fail
      refine (copyHeap_ok h A _ _ (Hp.rep.keeps HH.out (Keeps.of_below HB.out))).mono ?_
      rintro e w2 ⟨v, rfl, hb2, us, rfl, cv, tv0, rfl, hoc, hot⟩
      have HX12 := hid (blk_below HX1.out hb2)
      have HX22 := hid (blk_below HX2.out hb2)
      have HB2 := hid (show Below w.heap.size w w2 from HB.out.trans (hb2.mono (by omega)))
      have hz2 : w1.heap.size ≤ w2.heap.size := hb2.size
      have HO := hid hoc
      have HOT := hid hot
      obtain ⟨ca0, cc0, rfl, -⟩ := OwnF.val hoc
      obtain ⟨ta0, tc0, rfl, -⟩ := OwnF.val hot
      clear hoc hot hb2 x0 x1 xf y0 y1 yf
      go_wp2_with fail
      obtain ⟨go, hgo⟩ : ∃ g, g = w2.heap.size := ⟨_, rfl⟩
      obtain ⟨B0, hB0⟩ : ∃ g, g = w1.heap.size := ⟨_, rfl⟩
      have hGB : B0 ≤ go := by omega
      have hWB : w.heap.size + 2 ≤ B0 := by omega
      have HI0 := hid (show HInv go B0 (.slice ca0 h.cells.length cc0) (.slice ta0 h.trail.length tc0) h.cells h.trail ((w2.alloc (.cells #[.slice ca0 h.cells.length cc0, .slice ta0 h.trail.length tc0] 38)).alloc (.cells #[.int .i64 a, .int .i64 b] 81)) from by
        subst hgo hB0
        exact ⟨(heap2 _ _ _).1, OwnF.below HO.out (((Below.refl _ _).alloc (Nat.le_refl _) _).alloc (by simp) _), OwnF.below HOT.out (((Below.refl _ _).alloc (Nat.le_refl _) _).alloc (by simp) _), hGB, HL1.out, by have := HL2.out; omega⟩)
      have HP0 := hid (show OwnPr ((w2.alloc (.cells #[.slice ca0 h.cells.length cc0, .slice ta0 h.trail.length tc0] 38)).alloc (.cells #[.int .i64 a, .int .i64 b] 81)) B0 [(a, b)] (.slice (some ⟨w2.heap.size + 1, 0, none⟩) 1 1) from OwnF.single pairV_len (by omega) ⟨HIA.out, HIB.out⟩ (heap2 _ _ _).2)
      have HB3 := hid ((HB2.out.alloc (by omega) (.cells #[.slice ca0 h.cells.length cc0, .slice ta0 h.trail.length tc0] 38)).alloc (by simp; omega) (.cells #[.int .i64 a, .int .i64 b] 81))
      have HX13 := hid (blk_alloc (blk_alloc HX12.out (.cells #[.slice ca0 h.cells.length cc0, .slice ta0 h.trail.length tc0] 38)) (.cells #[.int .i64 a, .int .i64 b] 81))
      have HX23 := hid (blk_alloc (blk_alloc HX22.out (.cells #[.slice ca0 h.cells.length cc0, .slice ta0 h.trail.length tc0] 38)) (.cells #[.int .i64 a, .int .i64 b] 81))
      rw [← hgo] at *
      clear hgo
      go_loopw [12, 11] (fun x12 x11 wr => ∃ (k : Nat) (s : List (Int × Int)) (l : List Ce) (t : List Int) (cv tv : Value), x11 = .int .i64 (k : Int) ∧ uniL 400 [(a, b)] h.cells h.trail = uniL k s l t ∧ GoodC l ∧ l.length = h.cells.length ∧ (∀ p ∈ s, I64 p.1 ∧ I64 p.2) ∧ s.length + 4 * k ≤ 1601 ∧ t.length + k ≤ h.trail.length + 400 ∧ Below w.heap.size w wr ∧ wr.heap[w.heap.size]? = some (.cells #[.slice va h.cells.length cap, .slice vb h.trail.length tap] 38 (0, 0)) ∧ wr.heap[w.heap.size + 1]? = some (.cells #[.slice none 0 0, .slice none 0 0] 38 (0, 0)) ∧ HInv go B0 cv tv l t wr ∧ OwnPr wr B0 s.reverse x12) (fun _ x11 _ => (intOf x11).toNat)
      case atStart => exact ⟨400, [(a, b)], h.cells, h.trail, _, _, rfl, rfl, HGH.out.1, rfl, fun p hp => by simp at hp; subst hp; exact ⟨HIA.out, HIB.out⟩, by simp, Nat.le_refl _, HB3.out, HX13.out, HX23.out, HI0.out, HP0.out⟩
      case round =>
        obtain ⟨k, s, l, t, cv, tv, rfl, hu, hgl, hll, hs64, hsn, htn, hib, hi1, hi2, hinv, hpo⟩ := hrel
        have HUL := hid hu
        have HLL := hid hll
        have hl65 : l.length ≤ 65536 := by have := HL1.out; omega
        have HG := hid hgl
        have HS64 := hid hs64
        have HIB' := hid hib
        have HI1 := hid hi1
        have HI2 := hid hi2
        have HU := hid hinv
        have HP := hid hpo
        have hL1 := HL1.out
        have hL2 := HL2.out
        obtain ⟨ca, cc, ta, tc, rfl, rfl, e1, e2, e3, e4⟩ := hinv.vals
        obtain ⟨xa, xc, rfl, hxl, hxm⟩ := OwnF.val hpo
        have hz0 := blk_lt hi1
        have hz1 := blk_lt hi2
        have hzg := blk_lt hinv.1
        obtain ⟨x0, x1, xf⟩ := box2 hi1
        obtain ⟨y0, y1, yf⟩ := box2 hi2
        obtain ⟨g0, g1, gf⟩ := box2 hinv.1
        have hk0 : (0 : Int) ≤ (k : Int) := Int.natCast_nonneg _
        clear hll
        cases s with
        | nil =>
          have HFN := hid (show uniL 400 [(a, b)] h.cells h.trail = ⟨true, l, t, (k : Int)⟩ by rw [hu, uniL_nil])
          clear hu hgl hs64 hib hi1 hi2 hinv hpo
          by_cases htl : 65536 < t.length
          · have htl' : (65536 : Int) < (t.length : Int) := by omega
            go_wp2_with fail
            refine bodyPost_ret (v := .tuple #[.agg #[.slice va h.cells.length cap, .slice vb h.trail.length tap], .bool false, .int .i64 3]) (by simp [results, Try.results36, go_sem, hcs, x0, x1, y0, y1]) rfl ?_
            have hb : Below w.heap.size w ((wr.setCell ⟨w.heap.size + 1, 0, none⟩ (.slice va h.cells.length cap)).setCell ⟨w.heap.size + 1, 1, none⟩ (.slice vb h.trail.length tap)) := Below.setCell (Below.setCell HIB'.out (by simp) _) (by simp) _
            rw [UF.out, HFN.out, if_neg (by simp only; omega), if_neg (by simp), if_pos htl]
            exact Pure.mk hb ⟨_, rfl, Hp.rep.mono (Hp.rep.keeps HH.out (Keeps.of_below hb)) (fun _ _ h => .inl h)⟩
          · have htl' : ¬ (65536 : Int) < (t.length : Int) := by omega
            go_wp2_with fail
            refine bodyPost_ret (v := .tuple #[.agg #[.slice ca l.length cc, .slice ta t.length tc], .bool true, .int .i64 0]) (by simp [results, Try.results36, go_sem, hcs, y0, y1]) rfl ?_
            have hb : Below w.heap.size w ((wr.setCell ⟨w.heap.size + 1, 0, none⟩ (.slice ca l.length cc)).setCell ⟨w.heap.size + 1, 1, none⟩ (.slice ta t.length tc)) := Below.setCell (Below.setCell HIB'.out (by simp) _) (by simp) _
            rw [UF.out, HFN.out, if_neg (by simp only; omega), if_neg (by simp), if_neg htl]
            exact Pure.mk hb ⟨_, rfl, _, _, rfl, OwnF.sl Ce.vals_len Ce.vals_one (OwnF.kept HU.out.2.1 fun q hq => by
              have := (HU.out.2.1.lt q hq).1
              rw [Below.heap_setCell _ _ _ _ (by simp; omega), Below.heap_setCell _ _ _ _ (by simp; omega)]) (by omega) (fun q hq => .inr (by have := (HU.out.2.1.lt q hq).1; unfold New; omega)), OwnF.sl numV_len numV_one (OwnF.kept HU.out.2.2.1 fun q hq => by
              have := (HU.out.2.2.1.lt q hq).1
              rw [Below.heap_setCell _ _ _ _ (by simp; omega), Below.heap_setCell _ _ _ _ (by simp; omega)]) (by omega) (fun q hq => .inr (by have := (HU.out.2.2.1.lt q hq).1; unfold New; omega))⟩
        | cons p r =>
          obtain ⟨px, py⟩ := p
          have hrl : (((px, py) :: r).reverse).length = r.length + 1 := by simp
          rw [hrl] at hxl HP hpo ⊢
          obtain ⟨gp, gcap, e, -, -, -, hgp, -, hgpl, -, hcell⟩ := OwnF.at pairV_len hpo (by omega)
          rw [hrl] at e
          simp only [Value.slice.injEq, true_and] at e
          obtain ⟨rfl, rfl⟩ := e
          have hlast : ((px, py) :: r).reverse[r.length]'(by omega) = (px, py) := by simp
          have q0 := hcell r.length (by omega) 0 (.int .i64 px) (by rw [hlast]; rfl)
          have q1 := hcell r.length (by omega) 1 (.int .i64 py) (by rw [hlast]; rfl)
          simp only [Nat.add_zero] at q0
          obtain ⟨px64, py64⟩ := hs64 (px, py) (by simp)
          simp only at px64 py64
          have HPX := hid px64
          have HPY := hid py64
          have HP1' := hid (OwnF.take pairV_len (a := some ⟨gp, 0, none⟩) (cap := xc) (l := ((px, py) :: r).reverse) (by rw [hrl]; exact HP.out) (k := r.length) (by omega))
          have HP1 : Hid (OwnPr wr B0 r.reverse (.slice (some ⟨gp, 0, none⟩) r.length xc)) := hid (by
            have := HP1'.out
            rw [List.reverse_cons, List.take_left' (by simp)] at this
            exact this)
          have hr64 := hid (fun p (hp : p ∈ r) => hs64 p (List.mem_cons_of_mem _ hp))
          simp only [List.length_cons] at hsn
          clear hcell hlast px64 py64 HP1' HP hs64
          cases k with
          | zero =>
            have HFN := hid (show uniL 400 [(a, b)] h.cells h.trail = ⟨false, l, t, -1⟩ by rw [hu, uniL_zero])
            rw [show ((0 : Nat) : Int) = 0 from rfl]
            clear hu hgl hib hi1 hi2 hinv hpo
            go_wp2_with fail
            go_region
            go_wp2_with fail
            refine bodyPost_ret (v := .tuple #[.agg #[.slice va h.cells.length cap, .slice vb h.trail.length tap], .bool false, .int .i64 3]) (by simp [results, Try.results36, go_sem, hcs, x0, x1, y0, y1]) rfl ?_
            have hb : Below w.heap.size w ((wr.drew.setCell ⟨w.heap.size + 1, 0, none⟩ (.slice va h.cells.length cap)).setCell ⟨w.heap.size + 1, 1, none⟩ (.slice vb h.trail.length tap)) := Below.setCell (Below.setCell HIB'.out.drew (by simp) _) (by simp) _
            rw [UF.out, HFN.out, if_pos (by simp only; omega)]
            exact Pure.mk hb ⟨_, rfl, Hp.rep.mono (Hp.rep.keeps HH.out (Keeps.of_below hb)) (fun _ _ h => .inl h)⟩
          | succ k =>
            rw [show ((k + 1 : Nat) : Int) = (k : Int) + 1 by omega]
            have hkk : (0 : Int) ≤ (k : Int) := Int.natCast_nonneg _
            have hD : Below wr.heap.size wr wr.drew := (Below.refl _ _).drew
            have HU1 := hid (HU.out.below hD)
            have HB1 := hid (HIB'.out.trans (hD.mono HIB'.out.size))
            have HX11 := hid (blk_below HI1.out hD)
            have HX21 := hid (blk_below HI2.out hD)
            have HP1 := hid (OwnF.below HP1.out hD)
            clear hu hgl hib hi1 hi2 hinv hpo hk0 hD
            go_wp2_with fail
            go_region
            go_wp2_with fail
            generalize wr.drew = W0 at HU1 HB1 HX11 HX21 HP1 ⊢
            have HA0 : Hid (∀ w', Below W0.heap.size W0 w' → w'.cell? ⟨go, 0, none⟩ = some (.slice ca l.length cc) ∧ w'.cell? ⟨go, 1, none⟩ = some (.slice ta t.length tc)) := hid fun w' hb => by
              obtain ⟨z0, z1, -⟩ := box2 (HU1.out.below hb).1
              exact ⟨z0, z1⟩
            clear x0 x1 xf y0 y1 yf g0 g1 gf q0 q1 hz0 hz1 hzg
            refine wp_region_each (Inv := fun w' => Below W0.heap.size W0 w') (Po := posts [IsV (.agg #[.slice ca l.length cc, .slice ta t.length tc]), IsV (.int .i64 px), IsV (.int .i64 (look l px)), IsV (.agg #[.slice ca l.length cc, .slice ta t.length tc]), IsV (.int .i64 py), IsV (.int .i64 (look l py)), IsV (.int .i64 (look l px)), IsV (.int .i64 (look l py))]) (Rl := fun w w' => Below w.heap.size w w') (by kernel_rfl) (by kernel_rfl) (by kernel_rfl) ((Below.refl _ _).drew) ?_ ?_ ?_ ?_
            · refine posts_stay fun R hR => ?_
              simp only [List.mem_cons, List.not_mem_nil, or_false] at hR
              rcases hR with rfl | rfl | rfl | rfl | rfl | rfl | rfl | rfl <;> first | exact stays_V _ | exact stays_any | exact stays_B _ | exact stays_Tm _ | exact stays_Tms _ | exact stays_Cs _ | exact stays_Ns _ | exact stays_Bs _ | exact stays_Hp _ | exact stays_OC _ _ | exact stays_ON _ _
            · exact fun w1 w2 h h' => h.trans (h'.mono h.size)
            · intro i o ho f ac ww hinv hpo hdst hold
              match i, ho with
                | 0, ho =>
                  obtain rfl : _ = o := Option.some.inj ho
                  have t9 := hold 9 (by kernel_rfl)
                  refine Or.inl ⟨want0 rfl, ?_⟩
                  clear hdst hpo hold ho
                  obtain ⟨g0, g1⟩ := HA0.out ww hinv
                  unfold Ans
                  go_simp
                  exact ⟨rfl, Below.refl _ _⟩
                | 1, ho =>
                  obtain rfl : _ = o := Option.some.inj ho
                  have t13 := hold 13 (by kernel_rfl)
                  refine Or.inl ⟨want0 rfl, ?_⟩
                  clear hdst hpo hold ho
                  clear hinv
                  unfold Ans
                  go_simp
                  exact ⟨rfl, Below.refl _ _⟩
                | 2, ho =>
                  obtain rfl : _ = o := Option.some.inj ho
                  have t81 : ac.tmps[81]? = some (f 0) := hdst 0 81 (by kernel_rfl) (by kernel_rfl)
                  have p0 : (IsV (.agg #[.slice ca l.length cc, .slice ta t.length tc])) (f 0) ww := hpo 0 (by kernel_rfl)
                  have t82 : ac.tmps[82]? = some (f 1) := hdst 1 82 (by kernel_rfl) (by kernel_rfl)
                  have p1 : (IsV (.int .i64 px)) (f 1) ww := hpo 1 (by kernel_rfl)
                  refine Or.inl ⟨want0 rfl, ?_⟩
                  clear hdst hpo hold ho
                  rw [show f 0 = _ from p0] at t81
                  rw [show f 1 = _ from p1] at t82
                  unfold Ans
                  go_simp
                  refine (lookAt_ok ⟨l, t⟩ px HPX.out (fun _ => True) _ _ (HU1.out.below hinv).rep).mono ?_
                  rintro e w1 ⟨r, rfl, hb, rfl⟩
                  exact ⟨_, rfl, rfl, hb⟩
                | 3, ho =>
                  obtain rfl : _ = o := Option.some.inj ho
                  have t9 := hold 9 (by kernel_rfl)
                  refine Or.inl ⟨want0 rfl, ?_⟩
                  clear hdst hpo hold ho
                  obtain ⟨g0, g1⟩ := HA0.out ww hinv
                  unfold Ans
                  go_simp
                  exact ⟨rfl, Below.refl _ _⟩
                | 4, ho =>
                  obtain rfl : _ = o := Option.some.inj ho
                  have t14 := hold 14 (by kernel_rfl)
                  refine Or.inl ⟨want0 rfl, ?_⟩
                  clear hdst hpo hold ho
                  clear hinv
                  unfold Ans
                  go_simp
                  exact ⟨rfl, Below.refl _ _⟩
                | 5, ho =>
                  obtain rfl : _ = o := Option.some.inj ho
                  have t84 : ac.tmps[84]? = some (f 3) := hdst 3 84 (by kernel_rfl) (by kernel_rfl)
                  have p3 : (IsV (.agg #[.slice ca l.length cc, .slice ta t.length tc])) (f 3) ww := hpo 3 (by kernel_rfl)
                  have t85 : ac.tmps[85]? = some (f 4) := hdst 4 85 (by kernel_rfl) (by kernel_rfl)
                  have p4 : (IsV (.int .i64 py)) (f 4) ww := hpo 4 (by kernel_rfl)
                  refine Or.inl ⟨want0 rfl, ?_⟩
                  clear hdst hpo hold ho
                  rw [show f 3 = _ from p3] at t84
                  rw [show f 4 = _ from p4] at t85
                  unfold Ans
                  go_simp
                  refine (lookAt_ok ⟨l, t⟩ py HPY.out (fun _ => True) _ _ (HU1.out.below hinv).rep).mono ?_
                  rintro e w1 ⟨r, rfl, hb, rfl⟩
                  exact ⟨_, rfl, rfl, hb⟩
                | 6, ho =>
                  obtain rfl : _ = o := Option.some.inj ho
                  have t83 : ac.tmps[83]? = some (f 2) := hdst 2 83 (by kernel_rfl) (by kernel_rfl)
                  have p2 : (IsV (.int .i64 (look l px))) (f 2) ww := hpo 2 (by kernel_rfl)
                  refine Or.inl ⟨want0 rfl, ?_⟩
                  clear hdst hpo hold ho
                  rw [show f 2 = _ from p2] at t83
                  clear hinv
                  unfold Ans
                  go_simp
                  exact ⟨rfl, Below.refl _ _⟩
                | 7, ho =>
                  obtain rfl : _ = o := Option.some.inj ho
                  have t86 : ac.tmps[86]? = some (f 5) := hdst 5 86 (by kernel_rfl) (by kernel_rfl)
                  have p5 : (IsV (.int .i64 (look l py))) (f 5) ww := hpo 5 (by kernel_rfl)
                  refine Or.inl ⟨want0 rfl, ?_⟩
                  clear hdst hpo hold ho
                  rw [show f 5 = _ from p5] at t86
                  clear hinv
                  unfold Ans
                  go_simp
                  exact ⟨rfl, Below.refl _ _⟩
                | i + 8, ho => simp at ho
            · intro f ww hinv hpo
              have p6 : (IsV (.int .i64 (look l px))) (f 6) ww := hpo 6 (by decide)
              have p7 : (IsV (.int .i64 (look l py))) (f 7) ww := hpo 7 (by decide)
              simp only [fillT, List.setIfInBounds_toArray, List.set_cons_succ, List.set_cons_zero]
              rw [show f 6 = _ from p6, show f 7 = _ from p7]
              have HU2 := hid (HU1.out.below hinv)
              have HB2 := hid (HB1.out.trans (hinv.mono HB1.out.size))
              have HX12 := hid (blk_below HX11.out hinv)
              have HX22 := hid (blk_below HX21.out hinv)
              have HP2 := hid (OwnF.below HP1.out hinv)
              have hga := look_ge l px
              have hgb := look_ge l py
              obtain ⟨g0, g1, gf⟩ := box2 HU2.out.1
              have hz0 := blk_lt HX12.out
              have hz1 := blk_lt HX22.out
              have hzg := blk_lt HU2.out.1
              obtain ⟨x0, x1, xf⟩ := box2 HX12.out
              obtain ⟨y0, y1, yf⟩ := box2 HX22.out
              clear hinv hpo p6 p7
              by_cases hneg : look l px < 0 ∨ look l py < 0
              · have HR := hid (show uniL 400 [(a, b)] h.cells h.trail = ⟨false, l, t, -1⟩ by rw [HUL.out, uniL_cons, uniL_one, if_pos hneg]; rfl)
                go_wp2_with fail
                all_goals
                  refine bodyPost_ret (v := .tuple #[.agg #[.slice va h.cells.length cap, .slice vb h.trail.length tap], .bool false, .int .i64 3]) (by simp [results, Try.results36, go_sem, hcs, x0, x1, y0, y1]) rfl ?_
                  have hb : Below w.heap.size w ((ww.setCell ⟨w.heap.size + 1, 0, none⟩ (.slice va h.cells.length cap)).setCell ⟨w.heap.size + 1, 1, none⟩ (.slice vb h.trail.length tap)) := Below.setCell (Below.setCell HB2.out (by simp) _) (by simp) _
                  rw [UF.out, HR.out, if_pos (by simp only; omega)]
                  exact Pure.mk hb ⟨_, rfl, Hp.rep.mono (Hp.rep.keeps HH.out (Keeps.of_below hb)) (fun _ _ h => .inl h)⟩
              obtain ⟨x, hx, hxl, hcx⟩ := cellAt_eq (look_end (l := l) (a := px) (by omega)).1
              obtain ⟨y, hy, hyl, hcy⟩ := cellAt_eq (look_end (l := l) (a := py) (by omega)).1
              have HNEG := hid hneg
              have HX := hid hx
              have HY := hid hy
              have HCX := hid (show cellAt l (x : Int) = l[x] by rw [← hx]; exact hcx)
              have HCY := hid (show cellAt l (y : Int) = l[y] by rw [← hy]; exact hcy)
              have HALL := hid (show uniL 400 [(a, b)] h.cells h.trail = if (uniM k l t x y).ok = true then uniL (uniM k l t x y).work.toNat r (uniM k l t x y).cells (uniM k l t x y).trail else uniM k l t x y by
                rw [HUL.out, uniL_cons, uniL_one, if_neg hneg, hx, hy])
              rw [hx, hy]
              have hokx := HG.out x hxl
              have hoky := HG.out y hyl
              have hx0 : (0 : Int) ≤ (x : Int) := Int.natCast_nonneg _
              have hx1 : (x : Int) < (l.length : Int) := by omega
              have hy0 : (0 : Int) ≤ (y : Int) := Int.natCast_nonneg _
              have hy1 : (y : Int) < (l.length : Int) := by omega
              obtain ⟨cb, rfl, hob, c0, c1, c2, hok, -, hcb, -⟩ := OwnC.cell HU2.out.2.1 hxl
              obtain ⟨cb', e, -, d0, d1, d2, hok', -, -, -⟩ := OwnC.cell HU2.out.2.1 hyl
              simp only [Option.some.injEq, Addr.mk.injEq, and_true] at e
              subst e
              clear hx hy hcx hcy hneg hga hgb hob hok hok'
              go_upto_region 18 with fail
              go_cut [15, 16] (fun u7 u8 wr => ∃ b7 b8, u7 = .pointer (some ⟨b7, 0, none⟩) ∧ u8 = .pointer (some ⟨b8, 0, none⟩) ∧ wr.heap[b7]? = some (.cells #[.int .i64 l[x].kind, .int .i64 l[x].n, .string l[x].s] 73 (0, 0)) ∧ wr.heap[b8]? = some (.cells #[.int .i64 l[y].kind, .int .i64 l[y].n, .string l[y].s] 73 (0, 0)) ∧ Below ww.heap.size ww wr ∧ ww.heap.size ≤ b7 ∧ ww.heap.size ≤ b8 ∧ b7 ≠ b8)
              case first =>
                go_region
                all_goals
                  go_wp2_with fail
                  go_meet
                  first
                    | exact ⟨_, _, rfl, rfl, (heap2 _ _ _).1, (heap2 _ _ _).2, (((Below.refl _ _).alloc (Nat.le_refl _) _).alloc (by simp) _).drew, by omega, by omega, by omega⟩
                    | exact ⟨_, _, rfl, rfl, (heap2 _ _ _).2, (heap2 _ _ _).1, (((Below.refl _ _).alloc (Nat.le_refl _) _).alloc (by simp) _).drew, by omega, by omega, by omega⟩
              case rest =>
                obtain ⟨b7, b8, rfl, rfl, hb7, hb8, hbel, hz7, hz8, hz78⟩ := hcut
                have HU3 := hid (HU2.out.below hbel)
                have HB3 := hid (HB2.out.trans (hbel.mono HB2.out.size))
                have HX13 := hid (blk_below HX12.out hbel)
                have HX23 := hid (blk_below HX22.out hbel)
                have HP3 := hid (OwnF.below HP2.out hbel)
                have HBEL := hid hbel
                have HB7 := hid hb7
                have HB8 := hid hb8
                obtain ⟨p0, p1, p2, pf⟩ := box3 hb7
                obtain ⟨r0, r1, r2, rf⟩ := box3 hb8
                clear hb7 hb8 hbel c0 c1 c2 d0 d1 d2 g0 g1 gf x0 x1 xf y0 y1 yf hz0 hz1 hzg
                obtain ⟨x0, x1, xf⟩ := box2 HX13.out
                obtain ⟨y0, y1, yf⟩ := box2 HX23.out
                obtain ⟨g0, g1, gf⟩ := box2 HU3.out.1
                have hKt : t.length + 1 ≤ 70000 := by omega
                by_cases hk : l[x].kind = 0
                · have HK1 := hid hk
                  by_cases hk2 : l[y].kind = 0
                  · have HK2 := hid hk2
                    rw [hk] at p0
                    rw [hk2] at r0
                    clear hokx hoky hk hk2
                    rcases Nat.lt_trichotomy x y with hxy | hxy | hxy
                    · as_aux_lemma =>
                        have HM1 := hid (show max (x : Int) (y : Int) = (y : Int) by omega)
                        have HM2 := hid (show min (x : Int) (y : Int) = (x : Int) by omega)
                        have hxy' : ((x : Int) != (y : Int)) = true := by simp; omega
                        have hM : uniM k l t x y = ⟨true, bindC l (y : Int) (x : Int), t ++ [(y : Int)], k⟩ := by
                          rw [uniM, HCX.out, HCY.out, if_pos ⟨HK1.out, HK2.out⟩, if_neg (by omega), HM1.out, HM2.out]
                        have HRR := hid (show uniL 400 [(a, b)] h.cells h.trail = uniL k r (bindC l (y : Int) (x : Int)) (t ++ [(y : Int)]) by
                          rw [HALL.out, hM, if_pos rfl]
                          simp only [Int.toNat_natCast])
                        clear hM
                        go_wp2_with fail
                        try rw [HM1.out, HM2.out]
                        refine (bindAt_ok go B0 _ _ l t wc HU3.out (by omega) y hyl (x : Int) (by unfold I64; omega)).mono ?_
                        rintro e w6 ⟨rr', tv', rfl, hinv6, hch6⟩
                        obtain ⟨b6, k6⟩ := um_below (B := B0) HB3.out hch6 hWB hGB (fun b hb => (HU3.out.2.1.lt b hb).1) (fun b hb => (HU3.out.2.2.1.lt b hb).1)
                        have HU6 := hid hinv6
                        have HB6 := hid b6
                        have HX16 := hid ((k6 _ (by omega) (blk_lt HX13.out)).trans HX13.out)
                        have HX26 := hid ((k6 _ (by omega) (blk_lt HX23.out)).trans HX23.out)
                        have HP6 := hid (OwnF.kept HP3.out (w' := w6) (fun b hb => hch6.block b (HP3.out.lt b hb).2 (fun h => by
                          rcases h with h | h | h
                          · exact OwnF.ne_box HP3.out HU3.out.1 (by decide) (hb.trans (congrArg some h))
                          · exact ownF_apart (by decide) HP3.out HU3.out.2.1 b hb h
                          · exact ownF_apart (by decide) HP3.out HU3.out.2.2.1 b hb h)))
                        clear hinv6 hch6 b6 k6
                        go_wp2_with fail
                        go_roundw
                        case rel => exact ⟨k, r, bindC l (y : Int) (x : Int), t ++ [(y : Int)], _, tv', rfl, HRR.out, goodC_bind HG.out hyl HK2.out (by omega) (by omega), by rw [bindC_len]; exact HLL.out, hr64.out, by omega, by simp; omega, HB6.out, HX16.out, HX26.out, HU6.out, HP6.out⟩
                        case measure => first | (simp [intOf]; done) | (simp [intOf]; omega)
                    · subst hxy
                      have hM : uniM k l t x x = ⟨true, l, t, k⟩ := by
                        rw [uniM, HCX.out, if_pos ⟨HK1.out, HK1.out⟩, if_pos rfl]
                      have HRR := hid (show uniL 400 [(a, b)] h.cells h.trail = uniL k r l t by
                        rw [HALL.out, hM, if_pos rfl]
                        simp only [Int.toNat_natCast])
                      clear hM
                      go_wp2_with fail
                      go_roundw
                      case rel => exact ⟨k, r, l, t, _, _, rfl, HRR.out, HG.out, HLL.out, hr64.out, by omega, by omega, HB3.out, HX13.out, HX23.out, HU3.out, HP3.out⟩
                      case measure => first | (simp [intOf]; done) | (simp [intOf]; omega)
                    · as_aux_lemma =>
                        have HM1 := hid (show max (x : Int) (y : Int) = (x : Int) by omega)
                        have HM2 := hid (show min (x : Int) (y : Int) = (y : Int) by omega)
                        have hxy' : ((x : Int) != (y : Int)) = true := by simp; omega
                        have hM : uniM k l t x y = ⟨true, bindC l (x : Int) (y : Int), t ++ [(x : Int)], k⟩ := by
                          rw [uniM, HCX.out, HCY.out, if_pos ⟨HK1.out, HK2.out⟩, if_neg (by omega), HM1.out, HM2.out]
                        have HRR := hid (show uniL 400 [(a, b)] h.cells h.trail = uniL k r (bindC l (x : Int) (y : Int)) (t ++ [(x : Int)]) by
                          rw [HALL.out, hM, if_pos rfl]
                          simp only [Int.toNat_natCast])
                        clear hM
                        go_wp2_with fail
                        try rw [HM1.out, HM2.out]
                        refine (bindAt_ok go B0 _ _ l t wc HU3.out (by omega) x hxl (y : Int) (by unfold I64; omega)).mono ?_
                        rintro e w6 ⟨rr', tv', rfl, hinv6, hch6⟩
                        obtain ⟨b6, k6⟩ := um_below (B := B0) HB3.out hch6 hWB hGB (fun b hb => (HU3.out.2.1.lt b hb).1) (fun b hb => (HU3.out.2.2.1.lt b hb).1)
                        have HU6 := hid hinv6
                        have HB6 := hid b6
                        have HX16 := hid ((k6 _ (by omega) (blk_lt HX13.out)).trans HX13.out)
                        have HX26 := hid ((k6 _ (by omega) (blk_lt HX23.out)).trans HX23.out)
                        have HP6 := hid (OwnF.kept HP3.out (w' := w6) (fun b hb => hch6.block b (HP3.out.lt b hb).2 (fun h => by
                          rcases h with h | h | h
                          · exact OwnF.ne_box HP3.out HU3.out.1 (by decide) (hb.trans (congrArg some h))
                          · exact ownF_apart (by decide) HP3.out HU3.out.2.1 b hb h
                          · exact ownF_apart (by decide) HP3.out HU3.out.2.2.1 b hb h)))
                        clear hinv6 hch6 b6 k6
                        go_wp2_with fail
                        go_roundw
                        case rel => exact ⟨k, r, bindC l (x : Int) (y : Int), t ++ [(x : Int)], _, tv', rfl, HRR.out, goodC_bind HG.out hxl HK1.out (by omega) (by omega), by rw [bindC_len]; exact HLL.out, hr64.out, by omega, by simp; omega, HB6.out, HX16.out, HX26.out, HU6.out, HP6.out⟩
                        case measure => first | (simp [intOf]; done) | (simp [intOf]; omega)
                  · have HK2 := hid hk2
                    have hk2' : (l[y].kind == 0) = false := by simpa using hk2
                    rw [hk] at p0
                    clear hokx hoky hk hk2
                    as_aux_lemma =>
                      have HPM := hid (show uniM k l t x y = (if (inL l (x : Int) k [(y : Int)]).1 = true ∨ (inL l (x : Int) k [(y : Int)]).2 < 0 then ⟨false, l, t, (inL l (x : Int) k [(y : Int)]).2⟩ else ⟨true, bindC l (x : Int) (y : Int), t ++ [(x : Int)], ((min k (inL l (x : Int) k [(y : Int)]).2.toNat : Nat) : Int)⟩) by
                        rw [uniM, HCX.out, HCY.out, if_neg (fun h => HK2.out h.2), if_pos (.inl HK1.out)]; simp only [if_neg HK2.out])
                      have hBS : B0 ≤ wc.heap.size := by have := blk_lt HU3.out.1; omega
                      obtain ⟨BS, hBSe⟩ : ∃ n, n = wc.heap.size := ⟨_, rfl⟩
                      have HBSE := hid hBSe
                      have HS0 := hid (show OwnN (wc.alloc (.cells #[.int .i64 (y : Int)] 3)) BS [(y : Int)] (.slice (some ⟨BS, 0, none⟩) 1 1) from by
                        rw [hBSe]; exact OwnF.single numV_len (Nat.le_refl _) (show I64 (y : Int) by unfold I64; omega) (blk_new _ _))
                      have HU4 := hid (HU3.out.below ((Below.refl _ _).alloc (Nat.le_refl _) (.cells #[.int .i64 (y : Int)] 3)))
                      have HB4 := hid (HB3.out.alloc HB3.out.size (.cells #[.int .i64 (y : Int)] 3))
                      have HX14 := hid (blk_alloc HX13.out (.cells #[.int .i64 (y : Int)] 3))
                      have HX24 := hid (blk_alloc HX23.out (.cells #[.int .i64 (y : Int)] 3))
                      have HP4 := hid (OwnF.below HP3.out ((Below.refl _ _).alloc (Nat.le_refl _) (.cells #[.int .i64 (y : Int)] 3)))
                      have HTB := hid (fun b (hb : ownB (.slice ta t.length tc) = some b) => (HU3.out.2.2.1.lt b hb).2)
                      have HCB := hid (fun b (hb : ownB (.slice (some ⟨cb, 0, none⟩) l.length cc) = some b) => (HU3.out.2.1.lt b hb).2)
                      have HPB := hid (fun b (hb : ownB (.slice (some ⟨gp, 0, none⟩) r.length xc) = some b) => (HP3.out.lt b hb).2)
                      have hgBS : go < BS := by have := blk_lt HU3.out.1; omega
                      have hV0 : (0 : Int) ≤ (x : Int) := Int.natCast_nonneg _
                      have hV1 : (x : Int) < (l.length : Int) := by omega
                      go_wp2_with fail
                      rw [← HBSE.out]
                      rw [← hBSe] at HTB HCB HPB
                      have hBS2 : (wc.alloc (.cells #[.int .i64 (y : Int)] 3)).heap.size = BS + 1 := by rw [hBSe]; simp
                      clear hBSe x0 x1 xf y0 y1 yf g0 g1 gf p0 p1 p2 pf r0 r1 r2 rf
                      go_loopw [17, 11] (fun x17 x11 wr => ∃ (m : Nat) (ss : List Int), x11 = .int .i64 (m : Int) ∧ inL l (x : Int) k [(y : Int)] = inL l (x : Int) m ss ∧ m ≤ k ∧ (∀ q ∈ ss, I64 q) ∧ ss.length + 4 * m ≤ 1 + 4 * k ∧ Below w.heap.size w wr ∧ wr.heap[w.heap.size]? = some (.cells #[.slice va h.cells.length cap, .slice vb h.trail.length tap] 38 (0, 0)) ∧ wr.heap[w.heap.size + 1]? = some (.cells #[.slice none 0 0, .slice none 0 0] 38 (0, 0)) ∧ HInv go B0 (.slice (some ⟨cb, 0, none⟩) l.length cc) (.slice ta t.length tc) l t wr ∧ OwnPr wr B0 r.reverse (.slice (some ⟨gp, 0, none⟩) r.length xc) ∧ OwnN wr BS ss.reverse x17 ∧ BS ≤ wr.heap.size) (fun _ x11 _ => (intOf x11).toNat)
                      case atStart => exact ⟨k, [(y : Int)], rfl, rfl, Nat.le_refl _, (fun q hq => by simp at hq; subst hq; unfold I64; omega), by simp, HB4.out, HX14.out, HX24.out, HU4.out, HP4.out, HS0.out, by omega⟩
                      case round =>
                        obtain ⟨m, ss, rfl, hin, hmk, hss, hsl, jb, j1, j2, ju, jp, jn, jz⟩ := hrel
                        have HIN' := hid hin
                        have HSS := hid hss
                        have JB := hid jb
                        have J1 := hid j1
                        have J2 := hid j2
                        have JU := hid ju
                        have JP := hid jp
                        have JN := hid jn
                        obtain ⟨sa, sc, rfl, hsal, hsam⟩ := OwnF.val jn
                        rw [List.length_reverse] at hsal JN jn ⊢
                        obtain ⟨x0, x1, xf⟩ := box2 j1
                        obtain ⟨y0, y1, yf⟩ := box2 j2
                        obtain ⟨g0, g1, gf⟩ := box2 ju.1
                        have hz0 := blk_lt j1
                        have hz1 := blk_lt j2
                        have hzg := blk_lt ju.1
                        have hm0 : (0 : Int) ≤ (m : Int) := Int.natCast_nonneg _
                        clear hin hss jb j1 j2 ju jp
                        cases ss with
                        | nil =>
                          as_aux_lemma =>
                            have hM : uniM k l t x y = ⟨true, bindC l (x : Int) (y : Int), t ++ [(x : Int)], (m : Int)⟩ := by
                              rw [HPM.out, HIN'.out, inL_nil, if_neg (by first | (simp; done) | (simp; omega))]
                              simp only [Int.toNat_natCast, Nat.min_eq_right hmk]
                            have HRR := hid (show uniL 400 [(a, b)] h.cells h.trail = uniL m r (bindC l (x : Int) (y : Int)) (t ++ [(x : Int)]) by
                              rw [HALL.out, hM, if_pos rfl]
                              simp only [Int.toNat_natCast])
                            clear jn hM
                            go_wp2_with fail
                            refine (bindAt_ok go B0 _ _ l t wr JU.out (by omega) x hxl (y : Int) (by unfold I64; omega)).mono ?_
                            rintro e w6 ⟨rr', tv', rfl, hinv6, hch6⟩
                            obtain ⟨b6, k6⟩ := um_below (B := B0) JB.out hch6 hWB hGB (fun b hb => (JU.out.2.1.lt b hb).1) (fun b hb => (JU.out.2.2.1.lt b hb).1)
                            have HU6 := hid hinv6
                            have HB6 := hid b6
                            have HX16 := hid ((k6 _ (by omega) (blk_lt J1.out)).trans J1.out)
                            have HX26 := hid ((k6 _ (by omega) (blk_lt J2.out)).trans J2.out)
                            have HP6 := hid (OwnF.kept JP.out (w' := w6) (fun b hb => hch6.block b (JP.out.lt b hb).2 (fun h => by
                              rcases h with h | h | h
                              · exact OwnF.ne_box JP.out JU.out.1 (by decide) (hb.trans (congrArg some h))
                              · exact ownF_apart (by decide) JP.out JU.out.2.1 b hb h
                              · exact ownF_apart (by decide) JP.out JU.out.2.2.1 b hb h)))
                            clear hinv6 hch6 b6 k6
                            go_wp2_with fail
                            go_roundw
                            case rel => exact ⟨m, r, bindC l (x : Int) (y : Int), t ++ [(x : Int)], _, tv', rfl, HRR.out, goodC_bind HG.out hxl HK1.out (by omega) (by omega), by rw [bindC_len]; exact HLL.out, hr64.out, by omega, by simp; omega, HB6.out, HX16.out, HX26.out, HU6.out, HP6.out⟩
                            case measure => first | (simp [intOf]; done) | (simp [intOf]; omega)
                        | cons z0 rr =>
                          have hrl2 : ((z0 :: rr).reverse).length = rr.length + 1 := by simp
                          rw [List.length_cons] at hsal JN jn hsl ⊢
                          obtain ⟨gs, gsc, e, -, -, -, hgs, -, hgsl, -, hcell⟩ := OwnF.at numV_len jn (by omega)
                          rw [hrl2] at e
                          simp only [Value.slice.injEq, true_and] at e
                          obtain ⟨rfl, rfl⟩ := e
                          have hlast : (z0 :: rr).reverse[rr.length]'(by omega) = z0 := by simp
                          have s0 := hcell rr.length (by omega) 0 (.int .i64 z0) (by rw [hlast]; rfl)
                          simp only [Nat.mul_one, Nat.add_zero] at s0
                          have hz64 := hid (HSS.out z0 (by simp))
                          have hrr64 := hid (fun q (hq : q ∈ rr) => HSS.out q (List.mem_cons_of_mem _ hq))
                          have JN1 : Hid (OwnN wr BS rr.reverse (.slice (some ⟨gs, 0, none⟩) rr.length sc)) := hid (by
                            have := OwnF.take numV_len (a := some ⟨gs, 0, none⟩) (cap := sc) (l := (z0 :: rr).reverse) (by rw [hrl2]; exact JN.out) (k := rr.length) (by omega)
                            rw [List.reverse_cons, List.take_left' (by simp)] at this
                            exact this)
                          clear hcell hlast jn JN
                          cases m with
                          | zero =>
                            as_aux_lemma =>
                              have HFN := hid (show uniL 400 [(a, b)] h.cells h.trail = ⟨false, l, t, -1⟩ by
                                have hM : uniM k l t x y = ⟨false, l, t, -1⟩ := by
                                  rw [HPM.out, HIN'.out, show inL l (x : Int) 0 (z0 :: rr) = (false, -1) from rfl, if_pos (Or.inr (by decide))]
                                rw [HALL.out, hM]; rfl)
                              rw [show ((0 : Nat) : Int) = 0 from rfl]
                              go_wp2_with fail
                              refine (lookAt_ok ⟨l, t⟩ z0 hz64.out (fun _ => True) _ _ JU.out.rep).mono ?_
                              rintro e w5 ⟨rv, rfl, hb5, rfl⟩
                              have K1 := hid (blk_below J1.out hb5)
                              have K2 := hid (blk_below J2.out hb5)
                              have KB := hid (JB.out.trans (hb5.mono JB.out.size))
                              clear hb5 x0 x1 xf y0 y1 yf
                              obtain ⟨x0, x1, xf⟩ := box2 K1.out
                              obtain ⟨y0, y1, yf⟩ := box2 K2.out
                              go_wp2_with fail
                              refine bodyPost_ret (v := .tuple #[.agg #[.slice va h.cells.length cap, .slice vb h.trail.length tap], .bool false, .int .i64 3]) (by simp [results, Try.results36, go_sem, hcs, x0, x1, y0, y1]) rfl ?_
                              have hb : Below w.heap.size w ((w5.setCell ⟨w.heap.size + 1, 0, none⟩ (.slice va h.cells.length cap)).setCell ⟨w.heap.size + 1, 1, none⟩ (.slice vb h.trail.length tap)) := Below.setCell (Below.setCell KB.out (by simp) _) (by simp) _
                              rw [UF.out, HFN.out, if_pos (by simp only; omega)]
                              exact Pure.mk hb ⟨_, rfl, Hp.rep.mono (Hp.rep.keeps HH.out (Keeps.of_below hb)) (fun _ _ h => .inl h)⟩
                          | succ m =>
                            rw [show ((m + 1 : Nat) : Int) = (m : Int) + 1 by omega]
                            have hmm : (0 : Int) ≤ (m : Int) := Int.natCast_nonneg _
                            go_wp2_with fail
                            refine (lookAt_ok ⟨l, t⟩ z0 hz64.out (fun _ => True) _ _ JU.out.rep).mono ?_
                            rintro e w5 ⟨rv, rfl, hb5, rfl⟩
                            have K1 := hid (blk_below J1.out hb5)
                            have K2 := hid (blk_below J2.out hb5)
                            have KB := hid (JB.out.trans (hb5.mono JB.out.size))
                            have KU := hid (JU.out.below hb5)
                            have KP := hid (OwnF.below JP.out hb5)
                            have KN := hid (OwnF.below JN1.out hb5)
                            have kz5 := hb5.size
                            have hge := look_ge l z0
                            clear hb5 x0 x1 xf y0 y1 yf g0 g1 gf s0
                            obtain ⟨x0, x1, xf⟩ := box2 K1.out
                            obtain ⟨y0, y1, yf⟩ := box2 K2.out
                            obtain ⟨g0, g1, gf⟩ := box2 KU.out.1
                            have hk0 := blk_lt K1.out
                            have hk1 := blk_lt K2.out
                            have hkg := blk_lt KU.out.1
                            by_cases hneg : look l z0 < 0
                            · as_aux_lemma =>
                                have HFN := hid (show uniL 400 [(a, b)] h.cells h.trail = ⟨false, l, t, -1⟩ by
                                  have hM : uniM k l t x y = ⟨false, l, t, -1⟩ := by
                                    rw [HPM.out, HIN'.out, inL_succ, if_pos hneg, if_pos (Or.inr (by decide))]
                                  rw [HALL.out, hM]; rfl)
                                go_wp2_with fail
                                refine bodyPost_ret (v := .tuple #[.agg #[.slice va h.cells.length cap, .slice vb h.trail.length tap], .bool false, .int .i64 3]) (by simp [results, Try.results36, go_sem, hcs, x0, x1, y0, y1]) rfl ?_
                                have hb : Below w.heap.size w ((w5.setCell ⟨w.heap.size + 1, 0, none⟩ (.slice va h.cells.length cap)).setCell ⟨w.heap.size + 1, 1, none⟩ (.slice vb h.trail.length tap)) := Below.setCell (Below.setCell KB.out (by simp) _) (by simp) _
                                rw [UF.out, HFN.out, if_pos (by simp only; omega)]
                                exact Pure.mk hb ⟨_, rfl, Hp.rep.mono (Hp.rep.keeps HH.out (Keeps.of_below hb)) (fun _ _ h => .inl h)⟩
                            · obtain ⟨q, hq, hql, hcq⟩ := cellAt_eq (look_end (l := l) (a := z0) (by omega)).1
                              have HQ := hid (show inL l (x : Int) k [(y : Int)] = if l[q].kind = 0 then (if (q : Int) = (x : Int) then (true, (m : Int)) else inL l (x : Int) m rr) else if l[q].kind = 3 then inL l (x : Int) m (argsAt (q : Int) l[q].n ++ rr) else inL l (x : Int) m rr by
                                rw [HIN'.out, inL_succ, if_neg hneg, hcq, hq])
                              have hokq := HG.out q hql
                              rw [hq]
                              have hq0 : (0 : Int) ≤ (q : Int) := Int.natCast_nonneg _
                              have hq1 : (q : Int) < (l.length : Int) := by omega
                              obtain ⟨cb2, e, hob2, c0, c1, c2, -, -, hcb2, -⟩ := OwnC.cell KU.out.2.1 hql
                              simp only [Option.some.injEq, Addr.mk.injEq, and_true] at e
                              subst e
                              clear hcq hneg hge
                              by_cases hqv : q = x
                              · as_aux_lemma =>
                                  have hkq : l[q].kind = 0 := by subst hqv; exact HK1.out
                                  have HFN := hid (show uniL 400 [(a, b)] h.cells h.trail = ⟨false, l, t, (m : Int)⟩ by
                                    have hM : uniM k l t x y = ⟨false, l, t, (m : Int)⟩ := by
                                      rw [HPM.out, HQ.out, if_pos hkq, if_pos (show (q : Int) = (x : Int) by rw [hqv]), if_pos (Or.inl rfl)]
                                    rw [HALL.out, hM]; rfl)
                                  have hqe : ((q : Int) == (x : Int)) = true := by simp [hqv]
                                  subst hqv
                                  clear hkq hokq hq
                                  go_wp2_with fail
                                  refine bodyPost_ret (v := .tuple #[.agg #[.slice va h.cells.length cap, .slice vb h.trail.length tap], .bool false, .int .i64 0]) (by simp [results, Try.results36, go_sem, hcs, x0, x1, y0, y1]) rfl ?_
                                  have hb : Below w.heap.size w ((w5.setCell ⟨w.heap.size + 1, 0, none⟩ (.slice va h.cells.length cap)).setCell ⟨w.heap.size + 1, 1, none⟩ (.slice vb h.trail.length tap)) := Below.setCell (Below.setCell KB.out (by simp) _) (by simp) _
                                  rw [UF.out, HFN.out, if_neg (by simp only; omega), if_pos rfl]
                                  exact Pure.mk hb ⟨_, rfl, Hp.rep.mono (Hp.rep.keeps HH.out (Keeps.of_below hb)) (fun _ _ h => .inl h)⟩
                              · have hqe : ((q : Int) == (x : Int)) = false := by simp; omega
                                have HNV := hid (show ¬ (q : Int) = (x : Int) by omega)
                                by_cases hk3 : l[q].kind = 3
                                case neg =>
                                  as_aux_lemma =>
                                    have HN := hid (show inL l (x : Int) k [(y : Int)] = inL l (x : Int) m rr by
                                      rw [HQ.out]
                                      by_cases hk0' : l[q].kind = 0
                                      · rw [if_pos hk0', if_neg HNV.out]
                                      · rw [if_neg hk0', if_neg hk3])
                                    have hk3' : (l[q].kind == 3) = false := by simpa using hk3
                                    generalize hlq : l[q] = c at *
                                    have KU2 := hid (KU.out.below ((Below.refl _ _).alloc (Nat.le_refl _) (.cells #[.int .i64 c.kind, .int .i64 c.n, .string c.s] 73)))
                                    have KP2 := hid (OwnF.below KP.out ((Below.refl _ _).alloc (Nat.le_refl _) (.cells #[.int .i64 c.kind, .int .i64 c.n, .string c.s] 73)))
                                    have KN2 := hid (OwnF.below KN.out ((Below.refl _ _).alloc (Nat.le_refl _) (.cells #[.int .i64 c.kind, .int .i64 c.n, .string c.s] 73)))
                                    clear hokq hk3
                                    go_wp2_with fail
                                    go_roundw
                                    case rel => exact ⟨m, rr, rfl, HN.out, by omega, hrr64.out, by omega, KB.out.alloc KB.out.size _, blk_alloc K1.out _, blk_alloc K2.out _, KU2.out, KP2.out, KN2.out, by simp; omega⟩
                                    case measure => first | (simp [intOf]; done) | (simp [intOf]; omega)
                                case pos =>
                                  as_aux_lemma =>
                                    have hn : 1 ≤ l[q].n ∧ l[q].n ≤ 4 ∧ (q : Int) + l[q].n < l.length := by
                                      unfold Ce.OkAt at hokq
                                      omega
                                    obtain ⟨hn1, hn4, hnl⟩ := hn
                                    obtain ⟨nn, hnn⟩ := Int.eq_ofNat_of_zero_le (show 0 ≤ l[q].n by omega)
                                    have HN := hid (show inL l (x : Int) k [(y : Int)] = inL l (x : Int) m (argsAt (q : Int) (nn : Int) ++ rr) by rw [HQ.out, if_neg (by omega), if_pos hk3, hnn])
                                    rw [hk3] at c0
                                    rw [hnn] at c1 hn1 hn4 hnl
                                    have hal : (argsAt (q : Int) (nn : Int)).length = nn := by simp [argsAt]
                                    have HAL := hid hal
                                    have hn4' : nn ≤ 4 := by omega
                                    have KU2 := hid (KU.out.below ((Below.refl _ _).alloc (Nat.le_refl _) (.cells #[.int .i64 3, .int .i64 (nn : Int), .string l[q].s] 73)))
                                    have KP2 := hid (OwnF.below KP.out ((Below.refl _ _).alloc (Nat.le_refl _) (.cells #[.int .i64 3, .int .i64 (nn : Int), .string l[q].s] 73)))
                                    have KN2 := hid (OwnF.below KN.out ((Below.refl _ _).alloc (Nat.le_refl _) (.cells #[.int .i64 3, .int .i64 (nn : Int), .string l[q].s] 73)))
                                    have KB2 := hid (KB.out.alloc KB.out.size (.cells #[.int .i64 3, .int .i64 (nn : Int), .string l[q].s] 73))
                                    have K12 := hid (blk_alloc K1.out (.cells #[.int .i64 3, .int .i64 (nn : Int), .string l[q].s] 73))
                                    have K22 := hid (blk_alloc K2.out (.cells #[.int .i64 3, .int .i64 (nn : Int), .string l[q].s] 73))
                                    have hs52 : (w5.alloc (.cells #[.int .i64 3, .int .i64 (nn : Int), .string l[q].s] 73)).heap.size = w5.heap.size + 1 := by simp
                                    clear hokq hk3 hnn hal
                                    go_wp2_with fail
                                    clear x0 x1 xf y0 y1 yf g0 g1 gf c0 c1 c2
                                    go_loopw [20, 17] (fun x20 x17 wr => ∃ (j : Nat), j ≤ nn ∧ x20 = .int .i64 ((nn : Int) - (j : Int)) ∧ Below w.heap.size w wr ∧ wr.heap[w.heap.size]? = some (.cells #[.slice va h.cells.length cap, .slice vb h.trail.length tap] 38 (0, 0)) ∧ wr.heap[w.heap.size + 1]? = some (.cells #[.slice none 0 0, .slice none 0 0] 38 (0, 0)) ∧ HInv go B0 (.slice (some ⟨cb, 0, none⟩) l.length cc) (.slice ta t.length tc) l t wr ∧ OwnPr wr B0 r.reverse (.slice (some ⟨gp, 0, none⟩) r.length xc) ∧ OwnN wr BS ((argsAt (q : Int) (nn : Int)).drop (nn - j) ++ rr).reverse x17 ∧ BS ≤ wr.heap.size) (fun x20 _ _ => (intOf x20).toNat)
                                    case atStart => exact ⟨0, Nat.zero_le _, by simp, KB2.out, K12.out, K22.out, KU2.out, KP2.out, (by rw [Nat.sub_zero, List.drop_of_length_le (by rw [HAL.out]; exact Nat.le_refl _)]; exact KN2.out), by omega⟩
                                    case round =>
                                      obtain ⟨j, hj, rfl, lb, l1, l2, lu, lp, ln, lz⟩ := hrel
                                      have LB := hid lb
                                      have L1 := hid l1
                                      have L2 := hid l2
                                      have LU := hid lu
                                      have LP := hid lp
                                      have hlen : ((argsAt (q : Int) (nn : Int)).drop (nn - j) ++ rr).reverse.length = rr.length + j := by
                                        rw [List.length_reverse, List.length_append, List.length_drop, HAL.out]; omega
                                      obtain ⟨ya, yc, rfl, hyl, hym⟩ := OwnF.val ln
                                      rw [hlen] at hyl ln ⊢
                                      have LN := hid ln
                                      have hz0' := blk_lt l1
                                      have hz1' := blk_lt l2
                                      clear lb l1 l2 lu lp ln
                                      by_cases hlt : j < nn
                                      · have HOR := hid (OwnF.ownR numV_len LN.out (fun _ => True))
                                        have hgt : (0 : Int) < (nn : Int) - (j : Int) := by omega
                                        have hidx : nn - (j + 1) < (argsAt (q : Int) (nn : Int)).length := by rw [HAL.out]; omega
                                        have hnext := hid (show ((argsAt (q : Int) (nn : Int)).drop (nn - (j + 1)) ++ rr).reverse = ((argsAt (q : Int) (nn : Int)).drop (nn - j) ++ rr).reverse ++ [(q : Int) + ((nn : Int) - (j : Int))] by
                                          rw [List.drop_eq_getElem_cons hidx, argsAt_get, List.cons_append, List.reverse_cons, show nn - (j + 1) + 1 = nn - j by omega, show (q : Int) + 1 + ((nn - (j + 1) : Nat) : Int) = (q : Int) + ((nn : Int) - (j : Int)) by omega])
                                        clear hidx
                                        go_wp2_with (at_builtin; go_must (refine wpList_app1 rfl (.tmp 179) (.tmp 183) 36 rfl BS 3 1 8 tyNums numR_lasts (A := fun _ => True) (.slice ya (rr.length + j) yc) (((argsAt (q : Int) (nn : Int)).drop (nn - j) ++ rr).reverse) rfl HOR.out ((q : Int) + ((nn : Int) - (j : Int))) [.int .i64 ((q : Int) + ((nn : Int) - (j : Int)))] rfl rfl ⟨by unfold I64; omega, rfl⟩ ⟨by rw [hlen]; omega, by omega⟩ ?_); go_must (intro v2 w4 hown2 hgrew))
                                        have hno : ∀ b, b < BS → ownB (.slice ya (rr.length + j) yc) ≠ some b := fun b hb e => by have := (LN.out.lt b e).1; omega
                                        have hka := (Keeps.alloc (fun b => ownB (.slice ya (rr.length + j) yc) ≠ some b) _ _).trans (hgrew.keeps (A := fun b => ownB (.slice ya (rr.length + j) yc) ≠ some b) (fun _ h => h))
                                        have HO4 := hid (OwnF.of_ownR hown2)
                                        have hz4 := hgrew.size
                                        simp only [World.size_alloc] at hz4
                                        obtain ⟨va4, vc4, hv4, -, -⟩ := OwnF.val HO4.out
                                        subst hv4
                                        have hl4 : (((argsAt (q : Int) (nn : Int)).drop (nn - j) ++ rr).reverse ++ [(q : Int) + ((nn : Int) - (j : Int))]).length = rr.length + (j + 1) := by rw [List.length_append, hlen]; rfl
                                        have M1 := hid (blk_keeps L1.out hka (hno _ (by omega)))
                                        have M2 := hid (blk_keeps L2.out hka (hno _ (by omega)))
                                        have MU := hid (LU.out.keeps (hka.block go (blk_lt LU.out.1) (hno _ hgBS)) (fun b hb => hka.block b (LU.out.2.1.lt b hb).2 (hno _ (HCB.out b hb))) (fun b hb => hka.block b (LU.out.2.2.1.lt b hb).2 (hno _ (HTB.out b hb))))
                                        have MP := hid (OwnF.kept LP.out (w' := w4) (fun b hb => hka.block b (LP.out.lt b hb).2 (hno _ (HPB.out b hb))))
                                        have MB := hid (hgrew.below (LB.out.alloc (by have := LB.out.size; omega) _) (by simp; omega) (fun b hb => by have := (LN.out.lt b hb).1; omega))
                                        rw [hl4]
                                        clear hka hown2 hgrew
                                        go_roundw
                                        case rel => exact ⟨j + 1, by omega, (by congr 1; omega), MB.out, M1.out, M2.out, MU.out, MP.out, (by have := HO4.out; rw [hl4] at this; rw [hnext.out]; exact this), by omega⟩
                                        case measure => first | (simp [intOf]; done) | (simp [intOf]; omega)
                                      · have hje : j = nn := by omega
                                        have hall := hid (show (argsAt (q : Int) (nn : Int)).drop (nn - j) ++ rr = argsAt (q : Int) (nn : Int) ++ rr by rw [hje, Nat.sub_self, List.drop_zero])
                                        have hle0 : (nn : Int) - (j : Int) = 0 := by omega
                                        have hall64 := hid (fun z (hz : z ∈ argsAt (q : Int) (nn : Int) ++ rr) => (show I64 z by
                                          rcases List.mem_append.1 hz with hz | hz
                                          · unfold argsAt at hz
                                            obtain ⟨i, hi, rfl⟩ := List.mem_map.1 hz
                                            rw [List.mem_range, Int.toNat_natCast] at hi
                                            unfold I64; omega
                                          · exact hrr64.out z hz))
                                        rw [hle0]
                                        go_wp2_with fail
                                        go_roundw
                                        case rel => exact ⟨m, argsAt (q : Int) (nn : Int) ++ rr, rfl, HN.out, by omega, hall64.out, by rw [List.length_append, HAL.out]; omega, LB.out, L1.out, L2.out, LU.out, LP.out, (by rw [← hall.out]; exact LN.out), by omega⟩
                                        case measure => first | (simp [intOf]; done) | (simp [intOf]; omega)
                · have HK1 := hid hk
                  have hk1' : (l[x].kind == 0) = false := by simpa using hk
                  by_cases hk2 : l[y].kind = 0
                  · have HK2 := hid hk2
                    rw [hk2] at r0
                    have hz78' : ¬ b8 = b7 := fun e => hz78 e.symm
                    have hbz7 := blk_lt HB7.out
                    have hbz8 := blk_lt HB8.out
                    clear hokx hoky hk hk2
                    go_upto_region 23 with fail
                    go_cut [13, 14] (fun u13 u14 wr => u13 = .int .i64 (y : Int) ∧ u14 = .int .i64 (x : Int) ∧ Below ww.heap.size ww wr ∧ wr.cell? ⟨b7, 0, none⟩ = some (.int .i64 0))
                    case first =>
                      go_region
                      all_goals
                        go_wp2_with fail
                        go_meet
                        refine ⟨rfl, rfl, ?_, ?_⟩
                        · repeat (with_reducible first | exact HBEL.out | refine Below.drew ?_ | refine Below.setCell ?_ (by simp only; omega) _)
                        · first | (go_simp; done) | (simp [hcs, p0, p1, p2, r0, r1, r2, hz78, hz78']; done)
                    case rest =>
                      obtain ⟨rfl, rfl, hbel, hk7⟩ := hcut
                      clear p0 p1 p2 pf r0 r1 r2 rf x0 x1 xf y0 y1 yf g0 g1 gf HU3 HB3 HX13 HX23 HP3
                      have HU3 := hid (HU2.out.below hbel)
                      have HB3 := hid (HB2.out.trans (hbel.mono HB2.out.size))
                      have HX13 := hid (blk_below HX12.out hbel)
                      have HX23 := hid (blk_below HX22.out hbel)
                      have HP3 := hid (OwnF.below HP2.out hbel)
                      obtain ⟨x0, x1, xf⟩ := box2 HX13.out
                      obtain ⟨y0, y1, yf⟩ := box2 HX23.out
                      obtain ⟨g0, g1, gf⟩ := box2 HU3.out.1
                      clear hbel
                      as_aux_lemma =>
                        have HPM := hid (show uniM k l t x y = (if (inL l (y : Int) k [(x : Int)]).1 = true ∨ (inL l (y : Int) k [(x : Int)]).2 < 0 then ⟨false, l, t, (inL l (y : Int) k [(x : Int)]).2⟩ else ⟨true, bindC l (y : Int) (x : Int), t ++ [(y : Int)], ((min k (inL l (y : Int) k [(x : Int)]).2.toNat : Nat) : Int)⟩) by
                          rw [uniM, HCX.out, HCY.out, if_neg (fun h => HK1.out h.1), if_pos (.inr HK2.out)]; simp only [if_pos HK2.out])
                        have hBS : B0 ≤ wc.heap.size := by have := blk_lt HU3.out.1; omega
                        obtain ⟨BS, hBSe⟩ : ∃ n, n = wc.heap.size := ⟨_, rfl⟩
                        have HBSE := hid hBSe
                        have HS0 := hid (show OwnN (wc.alloc (.cells #[.int .i64 (x : Int)] 3)) BS [(x : Int)] (.slice (some ⟨BS, 0, none⟩) 1 1) from by
                          rw [hBSe]; exact OwnF.single numV_len (Nat.le_refl _) (show I64 (x : Int) by unfold I64; omega) (blk_new _ _))
                        have HU4 := hid (HU3.out.below ((Below.refl _ _).alloc (Nat.le_refl _) (.cells #[.int .i64 (x : Int)] 3)))
                        have HB4 := hid (HB3.out.alloc HB3.out.size (.cells #[.int .i64 (x : Int)] 3))
                        have HX14 := hid (blk_alloc HX13.out (.cells #[.int .i64 (x : Int)] 3))
                        have HX24 := hid (blk_alloc HX23.out (.cells #[.int .i64 (x : Int)] 3))
                        have HP4 := hid (OwnF.below HP3.out ((Below.refl _ _).alloc (Nat.le_refl _) (.cells #[.int .i64 (x : Int)] 3)))
                        have HTB := hid (fun b (hb : ownB (.slice ta t.length tc) = some b) => (HU3.out.2.2.1.lt b hb).2)
                        have HCB := hid (fun b (hb : ownB (.slice (some ⟨cb, 0, none⟩) l.length cc) = some b) => (HU3.out.2.1.lt b hb).2)
                        have HPB := hid (fun b (hb : ownB (.slice (some ⟨gp, 0, none⟩) r.length xc) = some b) => (HP3.out.lt b hb).2)
                        have hgBS : go < BS := by have := blk_lt HU3.out.1; omega
                        have hV0 : (0 : Int) ≤ (y : Int) := Int.natCast_nonneg _
                        have hV1 : (y : Int) < (l.length : Int) := by omega
                        go_wp2_with fail
                        rw [← HBSE.out]
                        rw [← hBSe] at HTB HCB HPB
                        have hBS2 : (wc.alloc (.cells #[.int .i64 (x : Int)] 3)).heap.size = BS + 1 := by rw [hBSe]; simp
                        clear hBSe x0 x1 xf y0 y1 yf g0 g1 gf hk7
                        go_loopw [17, 11] (fun x17 x11 wr => ∃ (m : Nat) (ss : List Int), x11 = .int .i64 (m : Int) ∧ inL l (y : Int) k [(x : Int)] = inL l (y : Int) m ss ∧ m ≤ k ∧ (∀ q ∈ ss, I64 q) ∧ ss.length + 4 * m ≤ 1 + 4 * k ∧ Below w.heap.size w wr ∧ wr.heap[w.heap.size]? = some (.cells #[.slice va h.cells.length cap, .slice vb h.trail.length tap] 38 (0, 0)) ∧ wr.heap[w.heap.size + 1]? = some (.cells #[.slice none 0 0, .slice none 0 0] 38 (0, 0)) ∧ HInv go B0 (.slice (some ⟨cb, 0, none⟩) l.length cc) (.slice ta t.length tc) l t wr ∧ OwnPr wr B0 r.reverse (.slice (some ⟨gp, 0, none⟩) r.length xc) ∧ OwnN wr BS ss.reverse x17 ∧ BS ≤ wr.heap.size) (fun _ x11 _ => (intOf x11).toNat)
                        case atStart => exact ⟨k, [(x : Int)], rfl, rfl, Nat.le_refl _, (fun q hq => by simp at hq; subst hq; unfold I64; omega), by simp, HB4.out, HX14.out, HX24.out, HU4.out, HP4.out, HS0.out, by omega⟩
                        case round =>
                          obtain ⟨m, ss, rfl, hin, hmk, hss, hsl, jb, j1, j2, ju, jp, jn, jz⟩ := hrel
                          have HIN' := hid hin
                          have HSS := hid hss
                          have JB := hid jb
                          have J1 := hid j1
                          have J2 := hid j2
                          have JU := hid ju
                          have JP := hid jp
                          have JN := hid jn
                          obtain ⟨sa, sc, rfl, hsal, hsam⟩ := OwnF.val jn
                          rw [List.length_reverse] at hsal JN jn ⊢
                          obtain ⟨x0, x1, xf⟩ := box2 j1
                          obtain ⟨y0, y1, yf⟩ := box2 j2
                          obtain ⟨g0, g1, gf⟩ := box2 ju.1
                          have hz0 := blk_lt j1
                          have hz1 := blk_lt j2
                          have hzg := blk_lt ju.1
                          have hm0 : (0 : Int) ≤ (m : Int) := Int.natCast_nonneg _
                          clear hin hss jb j1 j2 ju jp
                          cases ss with
                          | nil =>
                            as_aux_lemma =>
                              have hM : uniM k l t x y = ⟨true, bindC l (y : Int) (x : Int), t ++ [(y : Int)], (m : Int)⟩ := by
                                rw [HPM.out, HIN'.out, inL_nil, if_neg (by first | (simp; done) | (simp; omega))]
                                simp only [Int.toNat_natCast, Nat.min_eq_right hmk]
                              have HRR := hid (show uniL 400 [(a, b)] h.cells h.trail = uniL m r (bindC l (y : Int) (x : Int)) (t ++ [(y : Int)]) by
                                rw [HALL.out, hM, if_pos rfl]
                                simp only [Int.toNat_natCast])
                              clear jn hM
                              go_wp2_with fail
                              refine (bindAt_ok go B0 _ _ l t wr JU.out (by omega) y hyl (x : Int) (by unfold I64; omega)).mono ?_
                              rintro e w6 ⟨rr', tv', rfl, hinv6, hch6⟩
                              obtain ⟨b6, k6⟩ := um_below (B := B0) JB.out hch6 hWB hGB (fun b hb => (JU.out.2.1.lt b hb).1) (fun b hb => (JU.out.2.2.1.lt b hb).1)
                              have HU6 := hid hinv6
                              have HB6 := hid b6
                              have HX16 := hid ((k6 _ (by omega) (blk_lt J1.out)).trans J1.out)
                              have HX26 := hid ((k6 _ (by omega) (blk_lt J2.out)).trans J2.out)
                              have HP6 := hid (OwnF.kept JP.out (w' := w6) (fun b hb => hch6.block b (JP.out.lt b hb).2 (fun h => by
                                rcases h with h | h | h
                                · exact OwnF.ne_box JP.out JU.out.1 (by decide) (hb.trans (congrArg some h))
                                · exact ownF_apart (by decide) JP.out JU.out.2.1 b hb h
                                · exact ownF_apart (by decide) JP.out JU.out.2.2.1 b hb h)))
                              clear hinv6 hch6 b6 k6
                              go_wp2_with fail
                              go_roundw
                              case rel => exact ⟨m, r, bindC l (y : Int) (x : Int), t ++ [(y : Int)], _, tv', rfl, HRR.out, goodC_bind HG.out hyl HK2.out (by omega) (by omega), by rw [bindC_len]; exact HLL.out, hr64.out, by omega, by simp; omega, HB6.out, HX16.out, HX26.out, HU6.out, HP6.out⟩
                              case measure => first | (simp [intOf]; done) | (simp [intOf]; omega)
                          | cons z0 rr =>
                            have hrl2 : ((z0 :: rr).reverse).length = rr.length + 1 := by simp
                            rw [List.length_cons] at hsal JN jn hsl ⊢
                            obtain ⟨gs, gsc, e, -, -, -, hgs, -, hgsl, -, hcell⟩ := OwnF.at numV_len jn (by omega)
                            rw [hrl2] at e
                            simp only [Value.slice.injEq, true_and] at e
                            obtain ⟨rfl, rfl⟩ := e
                            have hlast : (z0 :: rr).reverse[rr.length]'(by omega) = z0 := by simp
                            have s0 := hcell rr.length (by omega) 0 (.int .i64 z0) (by rw [hlast]; rfl)
                            simp only [Nat.mul_one, Nat.add_zero] at s0
                            have hz64 := hid (HSS.out z0 (by simp))
                            have hrr64 := hid (fun q (hq : q ∈ rr) => HSS.out q (List.mem_cons_of_mem _ hq))
                            have JN1 : Hid (OwnN wr BS rr.reverse (.slice (some ⟨gs, 0, none⟩) rr.length sc)) := hid (by
                              have := OwnF.take numV_len (a := some ⟨gs, 0, none⟩) (cap := sc) (l := (z0 :: rr).reverse) (by rw [hrl2]; exact JN.out) (k := rr.length) (by omega)
                              rw [List.reverse_cons, List.take_left' (by simp)] at this
                              exact this)
                            clear hcell hlast jn JN
                            cases m with
                            | zero =>
                              as_aux_lemma =>
                                have HFN := hid (show uniL 400 [(a, b)] h.cells h.trail = ⟨false, l, t, -1⟩ by
                                  have hM : uniM k l t x y = ⟨false, l, t, -1⟩ := by
                                    rw [HPM.out, HIN'.out, show inL l (y : Int) 0 (z0 :: rr) = (false, -1) from rfl, if_pos (Or.inr (by decide))]
                                  rw [HALL.out, hM]; rfl)
                                rw [show ((0 : Nat) : Int) = 0 from rfl]
                                go_wp2_with fail
                                refine (lookAt_ok ⟨l, t⟩ z0 hz64.out (fun _ => True) _ _ JU.out.rep).mono ?_
                                rintro e w5 ⟨rv, rfl, hb5, rfl⟩
                                have K1 := hid (blk_below J1.out hb5)
                                have K2 := hid (blk_below J2.out hb5)
                                have KB := hid (JB.out.trans (hb5.mono JB.out.size))
                                clear hb5 x0 x1 xf y0 y1 yf
                                obtain ⟨x0, x1, xf⟩ := box2 K1.out
                                obtain ⟨y0, y1, yf⟩ := box2 K2.out
                                go_wp2_with fail
                                refine bodyPost_ret (v := .tuple #[.agg #[.slice va h.cells.length cap, .slice vb h.trail.length tap], .bool false, .int .i64 3]) (by simp [results, Try.results36, go_sem, hcs, x0, x1, y0, y1]) rfl ?_
                                have hb : Below w.heap.size w ((w5.setCell ⟨w.heap.size + 1, 0, none⟩ (.slice va h.cells.length cap)).setCell ⟨w.heap.size + 1, 1, none⟩ (.slice vb h.trail.length tap)) := Below.setCell (Below.setCell KB.out (by simp) _) (by simp) _
                                rw [UF.out, HFN.out, if_pos (by simp only; omega)]
                                exact Pure.mk hb ⟨_, rfl, Hp.rep.mono (Hp.rep.keeps HH.out (Keeps.of_below hb)) (fun _ _ h => .inl h)⟩
                            | succ m =>
                              rw [show ((m + 1 : Nat) : Int) = (m : Int) + 1 by omega]
                              have hmm : (0 : Int) ≤ (m : Int) := Int.natCast_nonneg _
                              go_wp2_with fail
                              refine (lookAt_ok ⟨l, t⟩ z0 hz64.out (fun _ => True) _ _ JU.out.rep).mono ?_
                              rintro e w5 ⟨rv, rfl, hb5, rfl⟩
                              have K1 := hid (blk_below J1.out hb5)
                              have K2 := hid (blk_below J2.out hb5)
                              have KB := hid (JB.out.trans (hb5.mono JB.out.size))
                              have KU := hid (JU.out.below hb5)
                              have KP := hid (OwnF.below JP.out hb5)
                              have KN := hid (OwnF.below JN1.out hb5)
                              have kz5 := hb5.size
                              have hge := look_ge l z0
                              clear hb5 x0 x1 xf y0 y1 yf g0 g1 gf s0
                              obtain ⟨x0, x1, xf⟩ := box2 K1.out
                              obtain ⟨y0, y1, yf⟩ := box2 K2.out
                              obtain ⟨g0, g1, gf⟩ := box2 KU.out.1
                              have hk0 := blk_lt K1.out
                              have hk1 := blk_lt K2.out
                              have hkg := blk_lt KU.out.1
                              by_cases hneg : look l z0 < 0
                              · as_aux_lemma =>
                                  have HFN := hid (show uniL 400 [(a, b)] h.cells h.trail = ⟨false, l, t, -1⟩ by
                                    have hM : uniM k l t x y = ⟨false, l, t, -1⟩ := by
                                      rw [HPM.out, HIN'.out, inL_succ, if_pos hneg, if_pos (Or.inr (by decide))]
                                    rw [HALL.out, hM]; rfl)
                                  go_wp2_with fail
                                  refine bodyPost_ret (v := .tuple #[.agg #[.slice va h.cells.length cap, .slice vb h.trail.length tap], .bool false, .int .i64 3]) (by simp [results, Try.results36, go_sem, hcs, x0, x1, y0, y1]) rfl ?_
                                  have hb : Below w.heap.size w ((w5.setCell ⟨w.heap.size + 1, 0, none⟩ (.slice va h.cells.length cap)).setCell ⟨w.heap.size + 1, 1, none⟩ (.slice vb h.trail.length tap)) := Below.setCell (Below.setCell KB.out (by simp) _) (by simp) _
                                  rw [UF.out, HFN.out, if_pos (by simp only; omega)]
                                  exact Pure.mk hb ⟨_, rfl, Hp.rep.mono (Hp.rep.keeps HH.out (Keeps.of_below hb)) (fun _ _ h => .inl h)⟩
                              · obtain ⟨q, hq, hql, hcq⟩ := cellAt_eq (look_end (l := l) (a := z0) (by omega)).1
                                have HQ := hid (show inL l (y : Int) k [(x : Int)] = if l[q].kind = 0 then (if (q : Int) = (y : Int) then (true, (m : Int)) else inL l (y : Int) m rr) else if l[q].kind = 3 then inL l (y : Int) m (argsAt (q : Int) l[q].n ++ rr) else inL l (y : Int) m rr by
                                  rw [HIN'.out, inL_succ, if_neg hneg, hcq, hq])
                                have hokq := HG.out q hql
                                rw [hq]
                                have hq0 : (0 : Int) ≤ (q : Int) := Int.natCast_nonneg _
                                have hq1 : (q : Int) < (l.length : Int) := by omega
                                obtain ⟨cb2, e, hob2, c0, c1, c2, -, -, hcb2, -⟩ := OwnC.cell KU.out.2.1 hql
                                simp only [Option.some.injEq, Addr.mk.injEq, and_true] at e
                                subst e
                                clear hcq hneg hge
                                by_cases hqv : q = y
                                · as_aux_lemma =>
                                    have hkq : l[q].kind = 0 := by subst hqv; exact HK2.out
                                    have HFN := hid (show uniL 400 [(a, b)] h.cells h.trail = ⟨false, l, t, (m : Int)⟩ by
                                      have hM : uniM k l t x y = ⟨false, l, t, (m : Int)⟩ := by
                                        rw [HPM.out, HQ.out, if_pos hkq, if_pos (show (q : Int) = (y : Int) by rw [hqv]), if_pos (Or.inl rfl)]
                                      rw [HALL.out, hM]; rfl)
                                    have hqe : ((q : Int) == (y : Int)) = true := by simp [hqv]
                                    subst hqv
                                    clear hkq hokq hq
                                    go_wp2_with fail
                                    refine bodyPost_ret (v := .tuple #[.agg #[.slice va h.cells.length cap, .slice vb h.trail.length tap], .bool false, .int .i64 0]) (by simp [results, Try.results36, go_sem, hcs, x0, x1, y0, y1]) rfl ?_
                                    have hb : Below w.heap.size w ((w5.setCell ⟨w.heap.size + 1, 0, none⟩ (.slice va h.cells.length cap)).setCell ⟨w.heap.size + 1, 1, none⟩ (.slice vb h.trail.length tap)) := Below.setCell (Below.setCell KB.out (by simp) _) (by simp) _
                                    rw [UF.out, HFN.out, if_neg (by simp only; omega), if_pos rfl]
                                    exact Pure.mk hb ⟨_, rfl, Hp.rep.mono (Hp.rep.keeps HH.out (Keeps.of_below hb)) (fun _ _ h => .inl h)⟩
                                · have hqe : ((q : Int) == (y : Int)) = false := by simp; omega
                                  have HNV := hid (show ¬ (q : Int) = (y : Int) by omega)
                                  by_cases hk3 : l[q].kind = 3
                                  case neg =>
                                    as_aux_lemma =>
                                      have HN := hid (show inL l (y : Int) k [(x : Int)] = inL l (y : Int) m rr by
                                        rw [HQ.out]
                                        by_cases hk0' : l[q].kind = 0
                                        · rw [if_pos hk0', if_neg HNV.out]
                                        · rw [if_neg hk0', if_neg hk3])
                                      have hk3' : (l[q].kind == 3) = false := by simpa using hk3
                                      generalize hlq : l[q] = c at *
                                      have KU2 := hid (KU.out.below ((Below.refl _ _).alloc (Nat.le_refl _) (.cells #[.int .i64 c.kind, .int .i64 c.n, .string c.s] 73)))
                                      have KP2 := hid (OwnF.below KP.out ((Below.refl _ _).alloc (Nat.le_refl _) (.cells #[.int .i64 c.kind, .int .i64 c.n, .string c.s] 73)))
                                      have KN2 := hid (OwnF.below KN.out ((Below.refl _ _).alloc (Nat.le_refl _) (.cells #[.int .i64 c.kind, .int .i64 c.n, .string c.s] 73)))
                                      clear hokq hk3
                                      go_wp2_with fail
                                      go_roundw
                                      case rel => exact ⟨m, rr, rfl, HN.out, by omega, hrr64.out, by omega, KB.out.alloc KB.out.size _, blk_alloc K1.out _, blk_alloc K2.out _, KU2.out, KP2.out, KN2.out, by simp; omega⟩
                                      case measure => first | (simp [intOf]; done) | (simp [intOf]; omega)
                                  case pos =>
                                    as_aux_lemma =>
                                      have hn : 1 ≤ l[q].n ∧ l[q].n ≤ 4 ∧ (q : Int) + l[q].n < l.length := by
                                        unfold Ce.OkAt at hokq
                                        omega
                                      obtain ⟨hn1, hn4, hnl⟩ := hn
                                      obtain ⟨nn, hnn⟩ := Int.eq_ofNat_of_zero_le (show 0 ≤ l[q].n by omega)
                                      have HN := hid (show inL l (y : Int) k [(x : Int)] = inL l (y : Int) m (argsAt (q : Int) (nn : Int) ++ rr) by rw [HQ.out, if_neg (by omega), if_pos hk3, hnn])
                                      rw [hk3] at c0
                                      rw [hnn] at c1 hn1 hn4 hnl
                                      have hal : (argsAt (q : Int) (nn : Int)).length = nn := by simp [argsAt]
                                      have HAL := hid hal
                                      have hn4' : nn ≤ 4 := by omega
                                      have KU2 := hid (KU.out.below ((Below.refl _ _).alloc (Nat.le_refl _) (.cells #[.int .i64 3, .int .i64 (nn : Int), .string l[q].s] 73)))
                                      have KP2 := hid (OwnF.below KP.out ((Below.refl _ _).alloc (Nat.le_refl _) (.cells #[.int .i64 3, .int .i64 (nn : Int), .string l[q].s] 73)))
                                      have KN2 := hid (OwnF.below KN.out ((Below.refl _ _).alloc (Nat.le_refl _) (.cells #[.int .i64 3, .int .i64 (nn : Int), .string l[q].s] 73)))
                                      have KB2 := hid (KB.out.alloc KB.out.size (.cells #[.int .i64 3, .int .i64 (nn : Int), .string l[q].s] 73))
                                      have K12 := hid (blk_alloc K1.out (.cells #[.int .i64 3, .int .i64 (nn : Int), .string l[q].s] 73))
                                      have K22 := hid (blk_alloc K2.out (.cells #[.int .i64 3, .int .i64 (nn : Int), .string l[q].s] 73))
                                      have hs52 : (w5.alloc (.cells #[.int .i64 3, .int .i64 (nn : Int), .string l[q].s] 73)).heap.size = w5.heap.size + 1 := by simp
                                      clear hokq hk3 hnn hal
                                      go_wp2_with fail
                                      clear x0 x1 xf y0 y1 yf g0 g1 gf c0 c1 c2
                                      go_loopw [20, 17] (fun x20 x17 wr => ∃ (j : Nat), j ≤ nn ∧ x20 = .int .i64 ((nn : Int) - (j : Int)) ∧ Below w.heap.size w wr ∧ wr.heap[w.heap.size]? = some (.cells #[.slice va h.cells.length cap, .slice vb h.trail.length tap] 38 (0, 0)) ∧ wr.heap[w.heap.size + 1]? = some (.cells #[.slice none 0 0, .slice none 0 0] 38 (0, 0)) ∧ HInv go B0 (.slice (some ⟨cb, 0, none⟩) l.length cc) (.slice ta t.length tc) l t wr ∧ OwnPr wr B0 r.reverse (.slice (some ⟨gp, 0, none⟩) r.length xc) ∧ OwnN wr BS ((argsAt (q : Int) (nn : Int)).drop (nn - j) ++ rr).reverse x17 ∧ BS ≤ wr.heap.size) (fun x20 _ _ => (intOf x20).toNat)
                                      case atStart => exact ⟨0, Nat.zero_le _, by simp, KB2.out, K12.out, K22.out, KU2.out, KP2.out, (by rw [Nat.sub_zero, List.drop_of_length_le (by rw [HAL.out]; exact Nat.le_refl _)]; exact KN2.out), by omega⟩
                                      case round =>
                                        obtain ⟨j, hj, rfl, lb, l1, l2, lu, lp, ln, lz⟩ := hrel
                                        have LB := hid lb
                                        have L1 := hid l1
                                        have L2 := hid l2
                                        have LU := hid lu
                                        have LP := hid lp
                                        have hlen : ((argsAt (q : Int) (nn : Int)).drop (nn - j) ++ rr).reverse.length = rr.length + j := by
                                          rw [List.length_reverse, List.length_append, List.length_drop, HAL.out]; omega
                                        obtain ⟨ya, yc, rfl, hyl, hym⟩ := OwnF.val ln
                                        rw [hlen] at hyl ln ⊢
                                        have LN := hid ln
                                        have hz0' := blk_lt l1
                                        have hz1' := blk_lt l2
                                        clear lb l1 l2 lu lp ln
                                        by_cases hlt : j < nn
                                        · have HOR := hid (OwnF.ownR numV_len LN.out (fun _ => True))
                                          have hgt : (0 : Int) < (nn : Int) - (j : Int) := by omega
                                          have hidx : nn - (j + 1) < (argsAt (q : Int) (nn : Int)).length := by rw [HAL.out]; omega
                                          have hnext := hid (show ((argsAt (q : Int) (nn : Int)).drop (nn - (j + 1)) ++ rr).reverse = ((argsAt (q : Int) (nn : Int)).drop (nn - j) ++ rr).reverse ++ [(q : Int) + ((nn : Int) - (j : Int))] by
                                            rw [List.drop_eq_getElem_cons hidx, argsAt_get, List.cons_append, List.reverse_cons, show nn - (j + 1) + 1 = nn - j by omega, show (q : Int) + 1 + ((nn - (j + 1) : Nat) : Int) = (q : Int) + ((nn : Int) - (j : Int)) by omega])
                                          clear hidx
                                          go_wp2_with (at_builtin; go_must (refine wpList_app1 rfl (.tmp 179) (.tmp 183) 36 rfl BS 3 1 8 tyNums numR_lasts (A := fun _ => True) (.slice ya (rr.length + j) yc) (((argsAt (q : Int) (nn : Int)).drop (nn - j) ++ rr).reverse) rfl HOR.out ((q : Int) + ((nn : Int) - (j : Int))) [.int .i64 ((q : Int) + ((nn : Int) - (j : Int)))] rfl rfl ⟨by unfold I64; omega, rfl⟩ ⟨by rw [hlen]; omega, by omega⟩ ?_); go_must (intro v2 w4 hown2 hgrew))
                                          have hno : ∀ b, b < BS → ownB (.slice ya (rr.length + j) yc) ≠ some b := fun b hb e => by have := (LN.out.lt b e).1; omega
                                          have hka := (Keeps.alloc (fun b => ownB (.slice ya (rr.length + j) yc) ≠ some b) _ _).trans (hgrew.keeps (A := fun b => ownB (.slice ya (rr.length + j) yc) ≠ some b) (fun _ h => h))
                                          have HO4 := hid (OwnF.of_ownR hown2)
                                          have hz4 := hgrew.size
                                          simp only [World.size_alloc] at hz4
                                          obtain ⟨va4, vc4, hv4, -, -⟩ := OwnF.val HO4.out
                                          subst hv4
                                          have hl4 : (((argsAt (q : Int) (nn : Int)).drop (nn - j) ++ rr).reverse ++ [(q : Int) + ((nn : Int) - (j : Int))]).length = rr.length + (j + 1) := by rw [List.length_append, hlen]; rfl
                                          have M1 := hid (blk_keeps L1.out hka (hno _ (by omega)))
                                          have M2 := hid (blk_keeps L2.out hka (hno _ (by omega)))
                                          have MU := hid (LU.out.keeps (hka.block go (blk_lt LU.out.1) (hno _ hgBS)) (fun b hb => hka.block b (LU.out.2.1.lt b hb).2 (hno _ (HCB.out b hb))) (fun b hb => hka.block b (LU.out.2.2.1.lt b hb).2 (hno _ (HTB.out b hb))))
                                          have MP := hid (OwnF.kept LP.out (w' := w4) (fun b hb => hka.block b (LP.out.lt b hb).2 (hno _ (HPB.out b hb))))
                                          have MB := hid (hgrew.below (LB.out.alloc (by have := LB.out.size; omega) _) (by simp; omega) (fun b hb => by have := (LN.out.lt b hb).1; omega))
                                          rw [hl4]
                                          clear hka hown2 hgrew
                                          go_roundw
                                          case rel => exact ⟨j + 1, by omega, (by congr 1; omega), MB.out, M1.out, M2.out, MU.out, MP.out, (by have := HO4.out; rw [hl4] at this; rw [hnext.out]; exact this), by omega⟩
                                          case measure => first | (simp [intOf]; done) | (simp [intOf]; omega)
                                        · have hje : j = nn := by omega
                                          have hall := hid (show (argsAt (q : Int) (nn : Int)).drop (nn - j) ++ rr = argsAt (q : Int) (nn : Int) ++ rr by rw [hje, Nat.sub_self, List.drop_zero])
                                          have hle0 : (nn : Int) - (j : Int) = 0 := by omega
                                          have hall64 := hid (fun z (hz : z ∈ argsAt (q : Int) (nn : Int) ++ rr) => (show I64 z by
                                            rcases List.mem_append.1 hz with hz | hz
                                            · unfold argsAt at hz
                                              obtain ⟨i, hi, rfl⟩ := List.mem_map.1 hz
                                              rw [List.mem_range, Int.toNat_natCast] at hi
                                              unfold I64; omega
                                            · exact hrr64.out z hz))
                                          rw [hle0]
                                          go_wp2_with fail
                                          go_roundw
                                          case rel => exact ⟨m, argsAt (q : Int) (nn : Int) ++ rr, rfl, HN.out, by omega, hall64.out, by rw [List.length_append, HAL.out]; omega, LB.out, L1.out, L2.out, LU.out, LP.out, (by rw [← hall.out]; exact LN.out), by omega⟩
                                          case measure => first | (simp [intOf]; done) | (simp [intOf]; omega)
                  · have HK2 := hid hk2
                    have hk2' : (l[y].kind == 0) = false := by simpa using hk2
                    by_cases hq : l[x] = l[y]
                    case neg =>
                      as_aux_lemma =>
                        have HFN := hid (show uniL 400 [(a, b)] h.cells h.trail = ⟨false, l, t, (k : Int)⟩ by
                          have hM : uniM k l t x y = ⟨false, l, t, (k : Int)⟩ := by
                            rw [uniM, HCX.out, HCY.out, if_neg (fun h => hk h.1), if_neg (fun h => h.elim hk hk2), if_pos hq]
                          rw [HALL.out, hM]; rfl)
                        have HQN := hid hq
                        clear hokx hoky hk hk2 hq
                        by_cases q1 : l[x].kind = l[y].kind
                        · by_cases q2 : l[x].n = l[y].n
                          · by_cases q3 : l[x].s.toList = l[y].s.toList
                            · exfalso
                              exact HQN.out (Ce.ext' q1 q2 q3)
                            · go_wp2_with fail
                              refine bodyPost_ret (v := .tuple #[.agg #[.slice va h.cells.length cap, .slice vb h.trail.length tap], .bool false, .int .i64 0]) (by simp [results, Try.results36, go_sem, hcs, x0, x1, y0, y1]) rfl ?_
                              have hb : Below w.heap.size w ((wc.setCell ⟨w.heap.size + 1, 0, none⟩ (.slice va h.cells.length cap)).setCell ⟨w.heap.size + 1, 1, none⟩ (.slice vb h.trail.length tap)) := Below.setCell (Below.setCell HB3.out (by simp) _) (by simp) _
                              rw [UF.out, HFN.out, if_neg (by simp only; omega), if_pos rfl]
                              exact Pure.mk hb ⟨_, rfl, Hp.rep.mono (Hp.rep.keeps HH.out (Keeps.of_below hb)) (fun _ _ h => .inl h)⟩
                          · go_wp2_with fail
                            refine bodyPost_ret (v := .tuple #[.agg #[.slice va h.cells.length cap, .slice vb h.trail.length tap], .bool false, .int .i64 0]) (by simp [results, Try.results36, go_sem, hcs, x0, x1, y0, y1]) rfl ?_
                            have hb : Below w.heap.size w ((wc.setCell ⟨w.heap.size + 1, 0, none⟩ (.slice va h.cells.length cap)).setCell ⟨w.heap.size + 1, 1, none⟩ (.slice vb h.trail.length tap)) := Below.setCell (Below.setCell HB3.out (by simp) _) (by simp) _
                            rw [UF.out, HFN.out, if_neg (by simp only; omega), if_pos rfl]
                            exact Pure.mk hb ⟨_, rfl, Hp.rep.mono (Hp.rep.keeps HH.out (Keeps.of_below hb)) (fun _ _ h => .inl h)⟩
                        · go_wp2_with fail
                          refine bodyPost_ret (v := .tuple #[.agg #[.slice va h.cells.length cap, .slice vb h.trail.length tap], .bool false, .int .i64 0]) (by simp [results, Try.results36, go_sem, hcs, x0, x1, y0, y1]) rfl ?_
                          have hb : Below w.heap.size w ((wc.setCell ⟨w.heap.size + 1, 0, none⟩ (.slice va h.cells.length cap)).setCell ⟨w.heap.size + 1, 1, none⟩ (.slice vb h.trail.length tap)) := Below.setCell (Below.setCell HB3.out (by simp) _) (by simp) _
                          rw [UF.out, HFN.out, if_neg (by simp only; omega), if_pos rfl]
                          exact Pure.mk hb ⟨_, rfl, Hp.rep.mono (Hp.rep.keeps HH.out (Keeps.of_below hb)) (fun _ _ h => .inl h)⟩
                    case pos =>
                      have HQ := hid hq
                      rw [← hq] at r0 r1 r2
                      rw [← hq] at hoky
                      clear hq hk2'
                      by_cases hk3 : l[x].kind = 3
                      case neg =>
                        as_aux_lemma =>
                          have hk3' : (l[x].kind == 3) = false := by simpa using hk3
                          have HRR := hid (show uniL 400 [(a, b)] h.cells h.trail = uniL k r l t by
                            have hM : uniM k l t x y = ⟨true, l, t, (k : Int)⟩ := by
                              rw [uniM, HCX.out, HCY.out, if_neg (fun h => hk h.1), if_neg (fun h => h.elim hk hk2), if_neg (not_not_intro HQ.out), if_neg hk3]
                            rw [HALL.out, hM, if_pos rfl]
                            simp only [Int.toNat_natCast])
                          clear hokx hoky hk hk2 hk3
                          go_wp2_with fail
                          go_loopw [21, 12] (fun x21 x12 wr => x21 = .int .i64 l[x].n ∧ x12 = .slice (some ⟨gp, 0, none⟩) r.length xc ∧ wr = wc) (fun _ _ _ => 0)
                          case atStart => exact ⟨rfl, rfl, rfl⟩
                          case round =>
                            obtain ⟨rfl, rfl, rfl⟩ := hrel
                            by_cases hn0 : 0 < l[x].n
                            all_goals
                              go_wp2_with fail
                              go_roundw
                              case rel => exact ⟨k, r, l, t, _, _, rfl, HRR.out, HG.out, HLL.out, hr64.out, by omega, by omega, HB3.out, HX13.out, HX23.out, HU3.out, HP3.out⟩
                              case measure => first | (simp [intOf]; done) | (simp [intOf]; omega)
                      case pos =>
                        as_aux_lemma =>
                          have hn : 1 ≤ l[x].n ∧ l[x].n ≤ 4 ∧ (x : Int) + l[x].n < l.length := by
                            unfold Ce.OkAt at hokx
                            omega
                          have hn2 : (y : Int) + l[x].n < l.length := by
                            unfold Ce.OkAt at hoky
                            omega
                          obtain ⟨hn1, hn4, hnl⟩ := hn
                          obtain ⟨nn, hnn⟩ := Int.eq_ofNat_of_zero_le (show 0 ≤ l[x].n by omega)
                          have hM : uniM k l t x y = uniL k ((argsAt (x : Int) (nn : Int)).zip (argsAt (y : Int) (nn : Int))) l t := by
                            rw [uniM, HCX.out, HCY.out, if_neg (fun h => hk h.1), if_neg (fun h => h.elim hk hk2), if_neg (not_not_intro HQ.out), if_pos hk3, hnn]
                          have HRR := hid (show uniL 400 [(a, b)] h.cells h.trail = uniL k ((argsAt (x : Int) (nn : Int)).zip (argsAt (y : Int) (nn : Int)) ++ r) l t by
                            rw [HALL.out, hM]
                            exact (uniL_app k _ r l t).symm)
                          have hb7 := HB7.out
                          rw [hk3, hnn] at hb7
                          have HB7' := hid hb7
                          rw [hnn] at p1 r1 hn1 hn4 hnl hn2
                          rw [hk3] at p0 r0
                          have hpl : ((argsAt (x : Int) (nn : Int)).zip (argsAt (y : Int) (nn : Int))).length = nn := by simp [argsAt]
                          have hpg : ∀ j (hj : j < ((argsAt (x : Int) (nn : Int)).zip (argsAt (y : Int) (nn : Int))).length), ((argsAt (x : Int) (nn : Int)).zip (argsAt (y : Int) (nn : Int)))[j] = ((x : Int) + 1 + (j : Int), (y : Int) + 1 + (j : Int)) := fun j hj => by
                            rw [List.getElem_zip, argsAt_get, argsAt_get]
                          generalize (argsAt (x : Int) (nn : Int)).zip (argsAt (y : Int) (nn : Int)) = ps at HRR hpl hpg
                          have HPL := hid hpl
                          have HPG := hid hpg
                          have hn4' : nn ≤ 4 := by omega
                          have hb7z := blk_lt HB7'.out
                          have hB0c : B0 ≤ wc.heap.size := by have := blk_lt HU3.out.1; omega
                          clear hM hk3 hnn hpl hpg hb7 hokx hoky hk hk2 HB7
                          go_wp2_with fail
                          clear p0 p1 p2 pf r0 r1 r2 rf x0 x1 xf y0 y1 yf g0 g1 gf
                          go_loopw [21, 12] (fun x21 x12 wr => ∃ (j : Nat), j ≤ nn ∧ x21 = .int .i64 ((nn : Int) - (j : Int)) ∧ Below w.heap.size w wr ∧ wr.heap[w.heap.size]? = some (.cells #[.slice va h.cells.length cap, .slice vb h.trail.length tap] 38 (0, 0)) ∧ wr.heap[w.heap.size + 1]? = some (.cells #[.slice none 0 0, .slice none 0 0] 38 (0, 0)) ∧ HInv go B0 (.slice (some ⟨cb, 0, none⟩) l.length cc) (.slice ta t.length tc) l t wr ∧ OwnPr wr B0 (ps.drop (nn - j) ++ r).reverse x12 ∧ wr.heap[b7]? = some (.cells #[.int .i64 3, .int .i64 (nn : Int), .string l[x].s] 73 (0, 0)) ∧ B0 ≤ wr.heap.size) (fun x21 _ _ => (intOf x21).toNat)
                          case atStart => exact ⟨0, Nat.zero_le _, by simp, HB3.out, HX13.out, HX23.out, HU3.out, (by rw [Nat.sub_zero, List.drop_of_length_le (by rw [HPL.out]; exact Nat.le_refl _)]; exact HP3.out), HB7'.out, hB0c⟩
                          case round =>
                            obtain ⟨j, hj, rfl, lb, l1, l2, lu, lp, l7, lz⟩ := hrel
                            have LB := hid lb
                            have L1 := hid l1
                            have L2 := hid l2
                            have LU := hid lu
                            have L7 := hid l7
                            have hlen : (ps.drop (nn - j) ++ r).reverse.length = r.length + j := by
                              rw [List.length_reverse, List.length_append, List.length_drop, HPL.out]; omega
                            obtain ⟨ya, yc, rfl, hyl, hym⟩ := OwnF.val lp
                            rw [hlen] at hyl lp ⊢
                            have LP := hid lp
                            obtain ⟨c0, c1, c2, cf⟩ := box3 l7
                            have hz0' := blk_lt l1
                            have hz1' := blk_lt l2
                            have hz7' := blk_lt l7
                            clear lb l1 l2 lu lp l7
                            by_cases hlt : j < nn
                            · have HOR := hid (OwnF.ownR pairV_len LP.out (fun _ => True))
                              have hgt : (0 : Int) < (nn : Int) - (j : Int) := by omega
                              have hidx : nn - (j + 1) < ps.length := by rw [HPL.out]; omega
                              have hnext := hid (show (ps.drop (nn - (j + 1)) ++ r).reverse = (ps.drop (nn - j) ++ r).reverse ++ [((x : Int) + ((nn : Int) - (j : Int)), (y : Int) + ((nn : Int) - (j : Int)))] by
                                rw [List.drop_eq_getElem_cons hidx, HPG.out, List.cons_append, List.reverse_cons, show nn - (j + 1) + 1 = nn - j by omega, show (x : Int) + 1 + ((nn - (j + 1) : Nat) : Int) = (x : Int) + ((nn : Int) - (j : Int)) by omega, show (y : Int) + 1 + ((nn - (j + 1) : Nat) : Int) = (y : Int) + ((nn : Int) - (j : Int)) by omega])
                              clear hidx
                              go_wp2_with (at_builtin; go_must (refine wpList_app1 rfl (.tmp 204) (.tmp 212) 82 rfl B0 81 2 16 tyPairs pairR_lasts (A := fun _ => True) (.slice ya (r.length + j) yc) ((ps.drop (nn - j) ++ r).reverse) rfl HOR.out ((x : Int) + ((nn : Int) - (j : Int)), (y : Int) + ((nn : Int) - (j : Int))) [.int .i64 ((x : Int) + ((nn : Int) - (j : Int))), .int .i64 ((y : Int) + ((nn : Int) - (j : Int)))] rfl rfl ⟨⟨by unfold I64; simp only; omega, by unfold I64; simp only; omega⟩, rfl⟩ ⟨by rw [hlen]; omega, by omega⟩ ?_); go_must (intro v2 w4 hown2 hgrew))
                              have hno : ∀ b, b < B0 → ownB (.slice ya (r.length + j) yc) ≠ some b := fun b hb e => by have := (LP.out.lt b e).1; omega
                              have hka := (Keeps.alloc (fun b => ownB (.slice ya (r.length + j) yc) ≠ some b) _ _).trans (hgrew.keeps (A := fun b => ownB (.slice ya (r.length + j) yc) ≠ some b) (fun _ h => h))
                              have HO4 := hid (OwnF.of_ownR hown2)
                              have hz4 := hgrew.size
                              simp only [World.size_alloc] at hz4
                              obtain ⟨va4, vc4, hv4, -, -⟩ := OwnF.val HO4.out
                              subst hv4
                              have hl4 : ((ps.drop (nn - j) ++ r).reverse ++ [((x : Int) + ((nn : Int) - (j : Int)), (y : Int) + ((nn : Int) - (j : Int)))]).length = r.length + (j + 1) := by rw [List.length_append, hlen]; rfl
                              have M1 := hid (blk_keeps L1.out hka (hno _ (by omega)))
                              have M2 := hid (blk_keeps L2.out hka (hno _ (by omega)))
                              have M7 := hid (blk_keeps L7.out hka (OwnF.ne_box LP.out L7.out (by decide)))
                              have MU := hid (LU.out.keeps (hka.block go (blk_lt LU.out.1) (OwnF.ne_box LP.out LU.out.1 (by decide))) (fun b hb => hka.block b (LU.out.2.1.lt b hb).2 (fun e => ownF_apart (by decide) LP.out LU.out.2.1 b e hb)) (fun b hb => hka.block b (LU.out.2.2.1.lt b hb).2 (fun e => ownF_apart (by decide) LP.out LU.out.2.2.1 b e hb)))
                              have MB := hid (hgrew.below (LB.out.alloc (by have := LB.out.size; omega) _) (by simp; omega) (fun b hb => by have := (LP.out.lt b hb).1; omega))
                              rw [hl4]
                              clear hka hown2 hgrew
                              go_roundw
                              case rel => exact ⟨j + 1, by omega, (by congr 1; omega), MB.out, M1.out, M2.out, MU.out, (by have := HO4.out; rw [hl4] at this; rw [hnext.out]; exact this), M7.out, by omega⟩
                              case measure => first | (simp [intOf]; done) | (simp [intOf]; omega)
                            · have hje : j = nn := by omega
                              have hall := hid (show ps.drop (nn - j) ++ r = ps ++ r by rw [hje, Nat.sub_self, List.drop_zero])
                              have hle0 : (nn : Int) - (j : Int) = 0 := by omega
                              have hall64 := hid (fun z (hz : z ∈ ps ++ r) => (show I64 z.1 ∧ I64 z.2 by
                                rcases List.mem_append.1 hz with hz | hz
                                · obtain ⟨i, hi, rfl⟩ := List.mem_iff_getElem.1 hz
                                  rw [HPG.out]
                                  have := HPL.out
                                  unfold I64; simp only; omega
                                · exact hr64.out z hz))
                              rw [hle0]
                              go_wp2_with fail
                              go_roundw
                              case rel => exact ⟨k, ps ++ r, l, t, _, _, rfl, HRR.out, HG.out, HLL.out, hall64.out, by rw [List.length_append, HPL.out]; omega, by omega, LB.out, L1.out, L2.out, LU.out, (by rw [← hall.out]; exact LP.out)⟩
                              case measure => first | (simp [intOf]; done) | (simp [intOf]; omega)
                
end Go.Proofs.Ytlpmfkpefoegeaa
