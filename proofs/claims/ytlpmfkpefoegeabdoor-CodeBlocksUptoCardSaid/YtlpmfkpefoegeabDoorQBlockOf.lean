/-
  A block of terms, as the document's own answer makes it: blockOf.
-/
import Derived.Test.YtlpmfkpefoegeabDoorQLaid
import Derived.Test.YtlpmfkpefoegeabDoorQCode
namespace Go.Proofs.YtlpmfkpefoegeabDoor
set_option linter.unusedVariables false
set_option linter.unusedSimpArgs false
open Go.RowKit

def laidsF : List Ce → List Tm → List Ce × List Int
  | c, [] => (c, [])
  | c, t :: r => ((laidsF (laidF c t) r).1, (c.length : Int) :: (laidsF (laidF c t) r).2)
theorem laidsF_snoc : ∀ (l : List Tm) (c : List Ce) (t : Tm), laidsF c (l ++ [t]) = (laidF (laidsF c l).1 t, (laidsF c l).2 ++ [((laidsF c l).1.length : Int)])
  | [], c, t => by simp [laidsF]
  | x :: r, c, t => by rw [List.cons_append, laidsF, laidsF_snoc r]; simp [laidsF]
theorem laidsF_len2 : ∀ (l : List Tm) (c : List Ce), (laidsF c l).2.length = l.length
  | [], c => rfl
  | x :: r, c => by simp [laidsF, laidsF_len2 r]
theorem laidsF_len1 : ∀ (l : List Tm) (c : List Ce), c.length ≤ (laidsF c l).1.length ∧ (laidsF c l).1.length ≤ c.length + 2 * Tm.nodesL l
  | [], c => by simp [laidsF, Tm.nodesL]
  | x :: r, c => by
    have h1 := laidsF_len1 r (laidF c x)
    have h2 := laid_len x c
    simp only [laidsF, Tm.nodesL]
    omega
theorem laidsF_at (c : List Ce) (l : List Tm) (j : Nat) (hj : j < l.length) : (laidsF c (l.take j)).1.length + 2 * l[j].nodes ≤ c.length + 2 * Tm.nodesL l := by
  have h1 := laidsF_len1 (l.take j) c
  have h2 := nodesL_at l j hj
  omega

/-- where the making stands -/
structure BoI (w : World) (g : Nat) (x : List Ce) (gs : List Int) (v : Int) (cv gv : Value) (W : World) : Prop where
  bel : Below w.heap.size w W
  box : W.heap[g + 1]? = some (.cells #[cv, .int .i64 v, .int .i64 (-1), gv] 50 (0, 0))
  oc : OwnC W (g + 2) x cv
  on : OwnN W (g + 2) gs gv
  res : W.heap[g]? = some (.cells #[.slice none 0 0, .int .i64 0, .int .i64 0, .slice none 0 0] 50 (0, 0))
  gw : w.heap.size ≤ g

theorem BoI.below {w : World} {g : Nat} {x : List Ce} {gs : List Int} {v : Int} {cv gv : Value} {W W' : World} (h : BoI w g x gs v cv gv W) (k : Below W.heap.size W W') : BoI w g x gs v cv gv W' :=
  ⟨h.bel.trans (k.mono h.bel.size), blk_below h.box k, OwnF.below h.oc k, OwnF.below h.on k, blk_below h.res k, h.gw⟩

/-- its cells have grown -/
theorem BoI.put0 {w : World} {g : Nat} {x x' : List Ce} {gs : List Int} {v : Int} {cv cv' gv : Value} {W W' : World} (h : BoI w g x gs v cv gv W) (k : LSt (g + 2) cv W x' cv' W') :
    BoI w g x' gs v cv' gv (W'.setCell ⟨g + 1, 0, none⟩ cv') := by
  have hgw := h.gw
  have hw := h.bel.size
  have hg1 := blk_lt h.box
  have hg0 := blk_lt h.res
  have hB : Below w.heap.size w W' := h.bel.trans ⟨k.2.1.os, k.2.1.tape, k.2.1.output, k.2.1.size, fun b hb => k.2.1.block b (by omega) (fun e => by have := (h.oc.lt b e).1; omega)⟩
  have hbox : W'.heap[g + 1]? = _ := (k.2.1.block (g + 1) hg1 (fun e => by have := (h.oc.lt _ e).1; omega)).trans h.box
  have hres : W'.heap[g]? = _ := (k.2.1.block g hg0 (fun e => by have := (h.oc.lt _ e).1; omega)).trans h.res
  have hon : OwnN W' (g + 2) gs gv := OwnF.kept h.on (fun b hb => k.2.1.block b (h.on.lt b hb).2 (fun e => ownF_apart (by decide) h.oc h.on b e hb))
  refine ⟨hB.setCell (by simp only; omega) _, (blk_set hbox 0 _).trans rfl, OwnF.kept k.1 (fun b hb => Below.heap_setCell _ _ _ _ (fun e => by have := (k.1.lt b hb).1; simp only at e; omega)), OwnF.kept hon (fun b hb => Below.heap_setCell _ _ _ _ (fun e => by have := (hon.lt b hb).1; simp only at e; omega)), ?_, hgw⟩
  rw [Below.heap_setCell _ _ _ _ (by simp only; omega)]
  exact hres

/-- its goals have grown -/
theorem BoI.put3 {w : World} {g : Nat} {x : List Ce} {gs : List Int} {v p : Int} {cv gv gv' : Value} {W W' : World} {cells : Array Value} (h : BoI w g x gs v cv gv W) (k1 : OwnN W' (g + 2) (gs ++ [p]) gv') (k2 : Grew (W.alloc (.cells cells 3)) W' gv gv') :
    BoI w g x (gs ++ [p]) v cv gv' (W'.setCell ⟨g + 1, 3, none⟩ gv') := by
  have hgw := h.gw
  have hw := h.bel.size
  have hg1 := blk_lt h.box
  have hg0 := blk_lt h.res
  have hch : Ch (fun b => ownB gv = some b) W W' := k2.ch ((Ch.refl _ _).alloc _) (fun b hb => .inl hb)
  have hB : Below w.heap.size w W' := h.bel.trans ⟨hch.os, hch.tape, hch.output, hch.size, fun b hb => hch.block b (by omega) (fun e => by have := (h.on.lt b e).1; omega)⟩
  have hbox : W'.heap[g + 1]? = _ := (hch.block (g + 1) hg1 (fun e => by have := (h.on.lt _ e).1; omega)).trans h.box
  have hres : W'.heap[g]? = _ := (hch.block g hg0 (fun e => by have := (h.on.lt _ e).1; omega)).trans h.res
  have hoc : OwnC W' (g + 2) x cv := OwnF.kept h.oc (fun b hb => hch.block b (h.oc.lt b hb).2 (fun e => ownF_apart (by decide) h.oc h.on b hb e))
  refine ⟨hB.setCell (by simp only; omega) _, (blk_set hbox 3 _).trans rfl, OwnF.kept hoc (fun b hb => Below.heap_setCell _ _ _ _ (fun e => by have := (hoc.lt b hb).1; simp only at e; omega)), OwnF.kept k1 (fun b hb => Below.heap_setCell _ _ _ _ (fun e => by have := (k1.lt b hb).1; simp only at e; omega)), ?_, hgw⟩
  rw [Below.heap_setCell _ _ _ _ (by simp only; omega)]
  exact hres

/-- a block -/
def Bk1 (A : Nat → Prop) (x : Bk) (r : Value) (w' : World) : Prop := ∃ cv gv, r = .agg #[cv, .int .i64 x.vars, .int .i64 x.head, gv] ∧ CesR A w' x.cells cv ∧ NumsR A w' x.goals gv

set_option maxHeartbeats 8000000 in
theorem blockOf_ok (l : List Tm) (n : Nat) (hn : n ≤ 8) (hnd : Tm.nodesL l ≤ 4000) (w : World) (u : Value) (hu : TmsR (fun b => b < w.heap.size) w l u) :
    Calls Tryd.prog 56 #[u, .int .i64 (n : Int)] w (Pure w (Bk1 (New w) ⟨(laidsF (begF n) l).1, n, -1, (laidsF (begF n) l).2⟩)) := by
  have hcs := cell_set
  obtain ⟨a, cap, b, off, rfl, hlc, hcm, hlb, ha, he⟩ := hu.at
  have HE := hid he
  have HTA := hid ha
  have HND := hid hnd
  have e0 : ByteArray.empty.size ≤ 1048576 := by decide
  clear hu ha he hnd
  go_enter Tryd.func56, Tryd.ntmps56
  go_wp2_with fail
  have BO0 := hid (show BoI w w.heap.size (begF 0) [] (n : Int) (.slice none 0 0) (.slice none 0 0) ((w.alloc (.cells #[.slice none 0 0, .int .i64 0, .int .i64 0, .slice none 0 0] 50)).alloc (.cells #[.slice none 0 0, .int .i64 (n : Int), .int .i64 (-1), .slice none 0 0] 50)) from
    ⟨((Below.refl _ w).alloc (Nat.le_refl _) _).alloc (by simp) _, (heap2 w _ _).2, OwnF.nil, OwnF.nil, (heap2 w _ _).1, Nat.le_refl _⟩)
  obtain ⟨g, hg⟩ : ∃ g, g = w.heap.size := ⟨_, rfl⟩
  rw [← hg] at BO0 ⊢
  have HG := hid hg
  clear hg
  go_loopw [13] (fun i W => ∃ (j : Nat) (cv : Value), j ≤ n ∧ i = .int .i64 (j : Int) ∧ BoI w g (begF j) [] (n : Int) cv (.slice none 0 0) W) (fun i _ => n - (intOf i).toNat)
  case atStart => exact ⟨0, _, Nat.zero_le _, rfl, BO0.out⟩
  case round =>
    obtain ⟨j, cv, hj, rfl, hbo⟩ := hrel
    have HBO := hid hbo
    obtain ⟨ca, cc, rfl, hl1, hmc⟩ := OwnF.val hbo.oc
    rw [begF_len] at hl1 HBO hbo
    obtain ⟨y0, y1, y2, y3, yf⟩ := blk4 hbo.box
    have hgs := blk_lt hbo.box
    have HOR := hid (OwnF.ownR Ce.vals_len hbo.oc (fun _ => True))
    clear hbo
    by_cases hlt : j < n
    · have hlt' : (j : Int) < (n : Int) := by omega
      have hl2 : (begF j).length < 4194304 := by rw [begF_len]; omega
      go_wp2_with (at_builtin; go_must (refine wpList_app1 rfl (.tmp 17) (.tmp 20) 47 rfl (g + 2) 80 3 32 tyCells Ce.rep_lasts (A := fun _ => True) (.slice ca j cc) (begF j) rfl HOR.out (⟨0, (j : Int), ByteArray.empty⟩ : Ce) [.int .i64 0, .int .i64 (j : Int), .string ByteArray.empty] rfl rfl ⟨⟨by unfold I64; simp only; omega, by unfold I64; simp only; omega, e0⟩, rfl⟩ ⟨hl2, by omega⟩ ?_); go_must (intro v2 w2 hown hgrew; have HO2 := hid (OwnF.of_ownR hown); have HL2 := hid (lst_app HO2.out hgrew); have HB2 := hid (HBO.out.put0 HL2.out); obtain ⟨va2, vc2, hv2, hvl2, hvm2⟩ := OwnF.val HO2.out; rw [List.length_append, List.length_singleton, begF_len] at hv2; subst hv2; have hzz := HL2.out.2.1.size; have hfr := fun (o : Nat) => (blk4 (show w2.heap[g + 1]? = _ from (HL2.out.2.1.block (g + 1) hgs (fun e => by have := (HBO.out.oc.lt _ e).1; omega)).trans HBO.out.box)).2.2.2.2 o; have hc0 := (blk4 (show w2.heap[g + 1]? = _ from (HL2.out.2.1.block (g + 1) hgs (fun e => by have := (HBO.out.oc.lt _ e).1; omega)).trans HBO.out.box)).1; clear hown hgrew y0 y1 y2 y3 yf))
      go_roundw
      case rel => exact ⟨j + 1, _, by omega, by go_num, by rw [begF_succ]; exact HB2.out⟩
      case measure => first | (simp [intOf]; done) | (simp [intOf]; omega)
    · have hje : n = j := by omega
      subst hje
      have hlt' : ¬ ((n : Int) < (n : Int)) := by omega
      clear hlt y0 y1 y2 y3 yf HOR
      go_wp2_with fail
      go_loopw [26] (fun i W => ∃ (j : Nat) (cv gv : Value), j ≤ l.length ∧ i = .int .i64 (j : Int) ∧ BoI w g (laidsF (begF n) (l.take j)).1 (laidsF (begF n) (l.take j)).2 (n : Int) cv gv W) (fun i _ => l.length - (intOf i).toNat)
      case atStart => exact ⟨0, _, _, Nat.zero_le _, rfl, HBO.out⟩
      case round =>
        clear HBO
        obtain ⟨j, cv, gv, hj, rfl, hbo⟩ := hrel
        have hbl : (begF n).length ≤ 8 := by rw [begF_len]; omega
        have hXl := laidsF_len1 (l.take j) (begF n)
        have hXg := laidsF_len2 (l.take j) (begF n)
        have htk : (l.take j).length = j := by rw [List.length_take]; omega
        have hzb := hbo.bel.size
        have hgw := hbo.gw
        by_cases hlt : j < l.length
        · obtain ⟨rfl, hAb⟩ := HTA.out (by omega)
          obtain ⟨sa, sc, d0, d1, d2, d3, hr⟩ := tm_cells HE.out hAb (Keeps.of_below hbo.bel) hlt
          have hlt' : (j : Int) < (l.length : Int) := by omega
          have hj0 : (0 : Int) ≤ (j : Int) := Int.natCast_nonneg _
          have hbnd := laidsF_at (begF n) l j hlt
          obtain ⟨t, ht⟩ : ∃ t, t = l[j]'hlt := ⟨_, rfl⟩
          rw [← ht] at d0 d1 d2 d3 hr hbnd
          have HSN := hid (show laidsF (begF n) (l.take (j + 1)) = (laidF (laidsF (begF n) (l.take j)).1 t, (laidsF (begF n) (l.take j)).2 ++ [((laidsF (begF n) (l.take j)).1.length : Int)]) by
            rw [List.take_succ_eq_append_getElem hlt, laidsF_snoc, ← ht])
          obtain ⟨X, hX⟩ : ∃ X, X = laidsF (begF n) (l.take j) := ⟨_, rfl⟩
          rw [← hX] at hbo HSN hbnd hXg hXl
          have HND2 := HND.out
          have HBO := hid (hbo.below ((Below.refl _ _).alloc (Nat.le_refl _) (.cells #[.int .i64 t.kind, .int .i64 t.n, .string t.s, .slice sa t.args.length sc] 31)))
          obtain ⟨ca, cc, rfl, hl1, hmc⟩ := OwnF.val hbo.oc
          obtain ⟨na, nc, rfl, hl2, hnm⟩ := OwnF.val hbo.on
          obtain ⟨y0, y1, y2, y3, yf⟩ := blk4 hbo.box
          have hgs := blk_lt hbo.box
          have HR := hid hr
          have HLT := hid hlt
          have hxb : X.1.length + 2 * t.nodes ≤ 4194304 := by omega
          have hxi : I64 (X.1.length : Int) := by unfold I64; omega
          have hxg : X.2.length < 4194304 := by omega
          clear hbo hr ht hX hXg htk
          go_wp2_with fail
          refine (laid_ok t (g + 2) X.1 (.slice ca X.1.length cc) (fun b => b < w.heap.size) _ [_, _, _, _] HBO.out.oc (by simp; omega) hxb (Tm.rep_lasts.1 _ _ _ _ _ HR.out (Keeps.alloc _ _ _)) (fun b hb => ⟨by have hb' : b < w.heap.size := hb; simp; omega, fun e => by have hb' : b < w.heap.size := hb; have := (HBO.out.oc.lt b e).1; omega⟩)).mono ?_
          rintro e w3 ⟨cv3, rfl, hst⟩
          have HB3 := hid (HBO.out.put0 hst)
          have HBX3 := hid (show w3.heap[g + 1]? = _ from (hst.2.1.block (g + 1) (by simp; omega) (fun e => by have := (HBO.out.oc.lt _ e).1; omega)).trans HBO.out.box)
          obtain ⟨c3a, c3c, rfl, -, -⟩ := OwnF.val hst.1
          obtain ⟨z0, z1, z2, z3, zf⟩ := blk4 HBX3.out
          have hg3 := blk_lt HBX3.out
          have HOR3 := hid (OwnF.ownR numV_len HB3.out.on (fun _ => True))
          have HBX4 := hid HB3.out.box
          clear hst y0 y1 y2 y3 yf d0 d1 d2 d3 HBX3
          go_wp2_with (at_builtin; go_must (refine wpList_app1 rfl (.tmp 39) (.tmp 41) 48 rfl (g + 2) 3 1 8 tyNums numR_lasts (A := fun _ => True) (.slice na X.2.length nc) X.2 rfl HOR3.out (X.1.length : Int) [.int .i64 (X.1.length : Int)] (by simp only [World.size_setCell]; rfl) rfl ⟨hxi, rfl⟩ ⟨hxg, by simp; omega⟩ ?_); go_must (intro v2 w4 hown hgrew; have HO4 := hid (OwnF.of_ownR hown); have HB4 := hid (HB3.out.put3 HO4.out hgrew); have HBX5 := hid (show w4.heap[g + 1]? = _ from (hgrew.grown.block (g + 1) (by simp; omega) (fun e => by have := (HB3.out.on.lt _ e.symm).1; omega)).trans (blk_alloc HBX4.out _)); obtain ⟨va2, vc2, hv2, hvl2, hvm2⟩ := OwnF.val HO4.out; rw [List.length_append, List.length_singleton] at hv2; subst hv2; have hzz := hgrew.size; obtain ⟨k0, k1, k2, k3, kf⟩ := blk4 HBX5.out; clear hown hgrew z0 z1 z2 z3 zf))
          go_roundw
          case rel => exact ⟨j + 1, _, _, by have := HLT.out; omega, by go_num, by rw [HSN.out]; exact HB4.out⟩
          case measure => first | (simp [intOf]; done) | (have := HLT.out; simp [intOf]; omega)
        · have hje : j = l.length := by omega
          subst hje
          have hlt' : ¬ ((l.length : Int) < (l.length : Int)) := by omega
          rw [List.take_length] at hbo hXl hXg
          have HND2 := HND.out
          obtain ⟨X, hX⟩ : ∃ X, X = laidsF (begF n) l := ⟨_, rfl⟩
          rw [← hX] at hbo hXl hXg
          have HX := hid hX
          have HBO := hid hbo
          have hxg : X.2.length ≤ 1048576 := by omega
          clear hXg htk
          obtain ⟨ca, cc, rfl, hl1, hmc⟩ := OwnF.val hbo.oc
          obtain ⟨na, nc, rfl, hl2, hnm⟩ := OwnF.val hbo.on
          obtain ⟨y0, y1, y2, y3, yf⟩ := blk4 hbo.box
          obtain ⟨r0, r1, r2, r3, rf⟩ := blk4 hbo.res
          have hgs := blk_lt hbo.box
          clear hbo hX hlt
          go_wp2_with fail
          have HCH := hid ((((((Ch.refl (fun b => b = g) wr).setCell (p := ⟨g, 0, none⟩) (.inl rfl) (.slice ca X.1.length cc)).setCell (p := ⟨g, 1, none⟩) (.inl rfl) (.int .i64 (n : Int))).setCell (p := ⟨g, 2, none⟩) (.inl rfl) (.int .i64 (-1))).setCell (p := ⟨g, 3, none⟩) (.inl rfl) (.slice na X.2.length nc)))
          refine bodyPost_ret (v := .agg #[.slice ca X.1.length cc, .int .i64 (n : Int), .int .i64 (-1), .slice na X.2.length nc]) (by simp [results, Tryd.results56, go_sem, hcs, r0, r1, r2, r3, y0, y1, y2, y3]; try rfl) rfl ?_
          rw [← HX.out]
          have c1 := HBO.out.oc
          have c2 := HBO.out.on
          refine ⟨_, rfl, HBO.out.bel.trans ⟨HCH.out.os, HCH.out.tape, HCH.out.output, HCH.out.size, fun k hk => HCH.out.block k (by omega) (by omega)⟩, _, _, rfl, ?_, ?_⟩
          · exact OwnF.sl Ce.vals_len Ce.vals_one (OwnF.kept c1 (fun b hb => HCH.out.block b (c1.lt b hb).2 (fun e => by have := (c1.lt b hb).1; omega))) (by omega) (fun b hb => by have := (c1.lt b hb).1; unfold New; omega)
          · exact OwnF.sl numV_len numV_one (OwnF.kept c2 (fun b hb => HCH.out.block b (c2.lt b hb).2 (fun e => by have := (c2.lt b hb).1; omega))) (by omega) (fun b hb => by have := (c2.lt b hb).1; unfold New; omega)
end Go.Proofs.YtlpmfkpefoegeabDoor
