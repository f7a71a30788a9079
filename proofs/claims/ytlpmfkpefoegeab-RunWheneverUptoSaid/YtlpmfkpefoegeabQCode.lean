/-
  code.Query, code.Clause: clauses and queries as blocks of cells.
-/
import Derived.Test.YtlpmfkpefoegeabQTwo
import Derived.Test.YtlpmfkpefoegeabQClause2
namespace Go.Proofs.Ytlpmfkpefoegeab
set_option linter.unusedVariables false
set_option linter.unusedSimpArgs false
set_option maxRecDepth 100000
open Go.RowKit
def goalsF : List Ce → List Tm → List Ce × List Int
  | c, [] => (c, [])
  | c, t :: r => ((goalsF (goalF c t) r).1, (c.length : Int) :: (goalsF (goalF c t) r).2)
theorem goalsF_snoc : ∀ (l : List Tm) (c : List Ce) (t : Tm), goalsF c (l ++ [t]) = (goalF (goalsF c l).1 t, (goalsF c l).2 ++ [((goalsF c l).1.length : Int)])
  | [], c, t => by simp [goalsF]
  | x :: r, c, t => by simp only [List.cons_append, goalsF, goalsF_snoc r]
theorem goalsF_len2 : ∀ (l : List Tm) (c : List Ce), (goalsF c l).2.length = l.length
  | [], c => rfl
  | x :: r, c => by simp only [goalsF, List.length_cons, goalsF_len2 r]
theorem goalF_len (t : Tm) (c : List Ce) : c.length ≤ (goalF c t).length ∧ (goalF c t).length ≤ c.length + 2 * t.nodes := by
  have hn : 1 ≤ t.nodes := by cases t; simp only [Tm.nodes]; omega
  unfold goalF
  split
  · obtain ⟨k, n, s, l⟩ := t
    have h1 := putL_len l (c ++ ⟨3, (l.length : Int), s⟩ :: List.replicate l.length ⟨0, 0, ByteArray.empty⟩) (c.length + 1)
    simp only [List.length_append, List.length_cons, List.length_replicate] at h1
    simp only [frameF, Tm.nodes]
    omega
  · rename_i h
    rw [put_len_flat h]
    simp; omega
theorem goalsF_len1 : ∀ (l : List Tm) (c : List Ce), c.length ≤ (goalsF c l).1.length ∧ (goalsF c l).1.length ≤ c.length + 2 * Tm.nodesL l
  | [], c => by simp [goalsF, Tm.nodesL]
  | x :: r, c => by
    simp only [goalsF, Tm.nodesL]
    have h1 := goalF_len x c
    have h2 := goalsF_len1 r (goalF c x)
    omega
theorem goalsF_at (c : List Ce) (l : List Tm) (j : Nat) (hj : j < l.length) : (goalsF c (l.take j)).1.length + 2 * l[j].nodes ≤ c.length + 2 * Tm.nodesL l := by
  have h1 := goalsF_len1 (l.take j) c
  have h2 := nodesL_at l j hj
  omega
theorem nodesL_le : ∀ (l : List Tm), (∀ g ∈ l, g.nodes ≤ 24) → Tm.nodesL l ≤ 24 * l.length
  | [], _ => by simp [Tm.nodesL]
  | x :: r, h => by
    simp only [Tm.nodesL, List.length_cons]
    have h1 := h x (List.mem_cons_self ..)
    have h2 := nodesL_le r (fun g hg => h g (List.mem_cons_of_mem _ hg))
    omega
structure Bk where
  cells : List Ce
  vars : Int
  head : Int
  goals : List Int
def queryB (l : List Tm) (v : Int) : Bk := ⟨(goalsF (begF v.toNat) l).1, v, -1, (goalsF (begF v.toNat) l).2⟩
def clauseB (c : Cl) : Bk := ⟨(goalsF (goalF (begF c.vars.toNat) c.head) c.body).1, c.vars, (c.vars.toNat : Int), (goalsF (goalF (begF c.vars.toNat) c.head) c.body).2⟩
def bk0 : Bk := ⟨[], 0, 0, []⟩
noncomputable def queryF (l : List Tm) (v : Int) : Bk × Int := open Classical in if GoodQ l v then (queryB l v, 0) else (bk0, 1)
noncomputable def clauseF (c : Cl) : Bk × Int := open Classical in if c.Good then (clauseB c, 0) else (bk0, 1)
def BkPost (A : Nat → Prop) (x : Bk × Int) (r : Value) (w' : World) : Prop := ∃ cv gv, r = .tuple #[.agg #[cv, .int .i64 x.1.vars, .int .i64 x.1.head, gv], .int .i64 x.2] ∧ CesR A w' x.1.cells cv ∧ NumsR A w' x.1.goals gv
structure CdI (w : World) (g gb rb : Nat) (x : List Ce) (gs : List Int) (v hd : Int) (cv gv : Value) (W : World) : Prop where
  bel : Below w.heap.size w W
  mkr : MkI g (g + 1) x cv W
  box : W.heap[gb]? = some (.cells #[.slice none 0 0, .int .i64 v, .int .i64 hd, gv] 32 (0, 0))
  own : OwnN W (g + 1) gs gv
  res : W.heap[rb]? = some (.cells #[.slice none 0 0, .int .i64 0, .int .i64 0, .slice none 0 0] 32 (0, 0))
  gw : w.heap.size ≤ g
  gbw : w.heap.size ≤ gb
  ne1 : gb ≠ g
  ne2 : rb ≠ g
  ne3 : rb ≠ gb
set_option maxHeartbeats 8000000 in
theorem query_ok (l : List Tm) (v : Int) (hi : I64 v) (hnd : Tm.nodesL l ≤ 1099511627776) (w : World) (u : Value) (hu : TmsR (fun b => b < w.heap.size) w l u) :
    Calls Try.prog 30 #[u, .int .i64 v] w (Pure w (BkPost (New w) (queryF l v))) := by
  have hcs := cell_set
  have HGQ := hid (fun (W : World) (h : Below w.heap.size w W) => goodQuery_ok l v hnd hi (fun b => b < w.heap.size) W u (SlR.keeps Tm.rep_lasts hu (Keeps.of_below h)))
  obtain ⟨a, cap, b, off, rfl, hlc, hcm, hlb, ha, he⟩ := hu.at
  have HE := hid he
  have HTA := hid ha
  have TREP := hid (show ∀ t ∈ l, ∀ (W : World), Keeps (fun b => b < w.heap.size) w W → ∀ {us}, Tm.rep (fun b => b < w.heap.size) W t us → Tm.rep (fun b => b < w.heap.size) W t us from fun _ _ _ _ _ h => h)
  clear hu ha he
  go_enter Try.func30, Try.ntmps30
  go_wp2_with fail
  have HRS0 := hid (blk_new w (.cells #[.slice none 0 0, .int .i64 0, .int .i64 0, .slice none 0 0] 32))
  have HB0 := hid ((Below.refl _ w).alloc (Nat.le_refl _) (.cells #[.slice none 0 0, .int .i64 0, .int .i64 0, .slice none 0 0] 32))
  refine (HGQ.out _ HB0.out).mono ?_
  rintro e w1 ⟨r, rfl, hb1, q, rfl, hq⟩
  have HB1 := hid (HB0.out.trans (hb1.mono HB0.out.size))
  have HRS1 := hid (blk_below HRS0.out hb1)
  clear hb1 HB0 HRS0
  obtain ⟨rb, hrb⟩ : ∃ rb, rb = w.heap.size := ⟨_, rfl⟩
  have HRB := hid hrb
  have hrw : rb < w1.heap.size := by rw [hrb]; exact blk_lt HRS1.out
  have hrw0 : w.heap.size ≤ rb := by omega
  rw [← hrb] at HRS1
  obtain ⟨r0, r1, r2, r3, rf⟩ := blk4 HRS1.out
  rw [← hrb]
  clear hrb
  cases q with
  | false =>
    have hng : ¬ GoodQ l v := fun h => by have := hq.2 h; cases this
    have HQF := hid (show queryF l v = (bk0, 1) by rw [queryF, if_neg hng])
    clear hng hq
    go_wp2_with fail
    refine bodyPost_ret (v := .tuple #[.agg #[.slice none 0 0, .int .i64 0, .int .i64 0, .slice none 0 0], .int .i64 1]) (by simp [results, Try.results30, go_sem, hcs, r0, r1, r2, r3]; try rfl) rfl ?_
    rw [HQF.out]
    exact Pure.mk (Below.setCell (Below.setCell (Below.setCell (Below.setCell HB1.out (by simp only; omega) _) (by simp only; omega) _) (by simp only; omega) _) (by simp only; omega) _) ⟨_, _, rfl, SlR.nil .., SlR.nil ..⟩
  | true =>
    have hgq : GoodQ l v := hq.1 rfl
    have HQF := hid (show queryF l v = (queryB l v, 0) by rw [queryF, if_pos hgq])
    obtain ⟨v0, v8, l5, lg⟩ := hgq
    have hnd2 := nodesL_le l (fun g hg => (lg g hg).2.2)
    clear lg hnd
    obtain ⟨n, rfl⟩ := Int.eq_ofNat_of_zero_le v0
    clear hq
    go_wp2_with fail
    refine (begun_ok n (by omega) w1).mono ?_
    rintro e w2 ⟨cv0, rfl, hb2, hm2⟩
    have HB2 := hid (HB1.out.trans (hb2.mono HB1.out.size))
    have HRS2 := hid (blk_below HRS1.out hb2)
    have HM2 := hid hm2
    have hz2 := blk_lt hm2.box
    have hz1 := HB1.out.size
    clear hb2 hm2 r0 r1 r2 r3 rf
    obtain ⟨g, hg⟩ : ∃ g, g = w1.heap.size := ⟨_, rfl⟩
    rw [← hg] at HM2 hz2 ⊢
    have hgr : rb < g := by omega
    have hgw : w.heap.size ≤ g := by omega
    clear hg
    go_wp2_with fail
    have CD0 := hid (show CdI w g w2.heap.size rb (goalsF (begF n) (l.take 0)).1 (goalsF (begF n) (l.take 0)).2 (n : Int) (-1) cv0 (.slice none 0 0) (w2.alloc (.cells #[.slice none 0 0, .int .i64 (n : Int), .int .i64 (-1), .slice none 0 0] 32)) from
      ⟨HB2.out.alloc HB2.out.size _, HM2.out.below ((Below.refl _ _).alloc (Nat.le_refl _) _), blk_new _ _, OwnF.nil, blk_alloc HRS2.out _, hgw, HB2.out.size, by omega, by omega, by have := blk_lt HRS2.out; omega⟩)
    have hblen : (begF n).length ≤ 8 := by rw [begF_len]; omega
    have HXL := hid (show (goalsF (begF n) l).1.length ≤ 1048576 by have := goalsF_len1 l (begF n); omega)
    obtain ⟨gb, hgb⟩ : ∃ gb, gb = w2.heap.size := ⟨_, rfl⟩
    rw [← hgb] at CD0 ⊢
    clear hgb HB1 HB2 HRS1 HRS2 HM2
    go_loopw [21] (fun i W => ∃ (j : Nat) (cv gv : Value), j ≤ l.length ∧ i = .int .i64 (j : Int) ∧ CdI w g gb rb (goalsF (begF n) (l.take j)).1 (goalsF (begF n) (l.take j)).2 (n : Int) (-1) cv gv W) (fun i _ => l.length - (intOf i).toNat)
    case atStart => exact ⟨0, _, _, Nat.zero_le _, rfl, CD0.out⟩
    case round =>
      obtain ⟨j, cv, gv, hj, rfl, hcd⟩ := hrel
      have CD := hid hcd
      obtain ⟨hbel, hmk, hbox, hown, hres, hgw, hgbw, hne1, hne2, hne3⟩ := hcd
      have hzb := hbel.size
      have hgb := blk_lt hbox
      obtain ⟨na, nc, rfl, hnl, hnm⟩ := OwnF.val hown
      have hgsl : (goalsF (begF n) (l.take j)).2.length = (l.take j).length := goalsF_len2 _ _
      have hll : (l.take j).length ≤ l.length := by rw [List.length_take]; omega
      by_cases hlt : j < l.length
      · obtain ⟨rfl, hAb⟩ := HTA.out (by omega)
        obtain ⟨sa, sc, d0, d1, d2, d3, hr⟩ := tm_cells HE.out hAb (Keeps.of_below hbel) hlt
        have hlt' : (j : Int) < (l.length : Int) := by omega
        have hj0 : (0 : Int) ≤ (j : Int) := Int.natCast_nonneg _
        obtain ⟨t, ht⟩ : ∃ t, t = l[j]'hlt := ⟨_, rfl⟩
        rw [← ht] at d0 d1 d2 d3 hr
        have HT := hid ht
        have HLT := hid hlt
        have hbnd := goalsF_at (begF n) l j hlt
        rw [← ht] at hbnd
        have HR := hid (show Tm.rep (fun b => b < w.heap.size) _ t _ from Tm.rep_lasts.1 _ _ _ _ _ (TREP.out t (by rw [ht]; exact List.getElem_mem _) _ (Keeps.of_below hbel) hr) (Keeps.alloc _ _ (.cells #[.int .i64 t.kind, .int .i64 t.n, .string t.s, .slice sa t.args.length sc] 24)))
        obtain ⟨nn, hnn⟩ : ∃ nn, nn = (goalsF (begF n) (l.take j)).2.length := ⟨_, rfl⟩
        rw [← hnn] at hbox hown CD hnl
        have hMB := hid (hbel.alloc hbel.size (.cells #[.int .i64 t.kind, .int .i64 t.n, .string t.s, .slice sa t.args.length sc] 24))
        have HMK := hid (hmk.below ((Below.refl _ _).alloc (Nat.le_refl _) (.cells #[.int .i64 t.kind, .int .i64 t.n, .string t.s, .slice sa t.args.length sc] 24)))
        have HBX := hid (blk_alloc hbox (.cells #[.int .i64 t.kind, .int .i64 t.n, .string t.s, .slice sa t.args.length sc] 24))
        have HEL := hid (blk_new wr (.cells #[.int .i64 t.kind, .int .i64 t.n, .string t.s, .slice sa t.args.length sc] 24))
        have HOW := hid (OwnF.below hown ((Below.refl _ _).alloc (Nat.le_refl _) (.cells #[.int .i64 t.kind, .int .i64 t.n, .string t.s, .slice sa t.args.length sc] 24)))
        have HRS := hid (blk_alloc hres (.cells #[.int .i64 t.kind, .int .i64 t.n, .string t.s, .slice sa t.args.length sc] 24))
        obtain ⟨ee, hee⟩ : ∃ ee, ee = wr.heap.size := ⟨_, rfl⟩
        have hsz0 : ee < (wr.alloc (.cells #[.int .i64 t.kind, .int .i64 t.n, .string t.s, .slice sa t.args.length sc] 24)).heap.size := by rw [hee]; simp
        have heg : gb < ee := by omega
        have hgg := blk_lt hmk.box
        have heg2 : g < ee := by omega
        have hew : w.heap.size ≤ ee := by omega
        rw [← hee] at HEL
        have HOWB := hid (fun b (hb : ownB (.slice na nn nc) = some b) => hown.lt b hb)
        have HCWB := hid (fun b (hb : ownB cv = some b) => hmk.own.lt b hb)
        have HEE := hid hee
        have hbl : (goalsF (begF n) (l.take j)).1.length + 1 + 2 * t.nodes ≤ 4194304 := by omega
        clear hr ht hbel hmk hbox hown hres hbnd hgsl hnn
        go_wp2_with fail
        clear d0 d1 d2 d3
        rw [← HEE.out]
        clear hee
        generalize wr.alloc (.cells #[.int .i64 t.kind, .int .i64 t.n, .string t.s, .slice sa t.args.length sc] 24) = wa at hMB HMK HBX HEL HOW HRS hsz0 HR ⊢
        have hW1 : wa.drew.heap[gb]? = some (.cells #[.slice none 0 0, .int .i64 (n : Int), .int .i64 (-1), .slice na nn nc] 32 (0, 0)) ∧ wa.drew.heap[ee]? = some (.cells #[.int .i64 t.kind, .int .i64 t.n, .string t.s, .slice sa t.args.length sc] 24 (0, 0)) := ⟨HBX.out, HEL.out⟩
        refine wp_region_F (F := fun k w' => k = 1 ∨ k = 3 → (w'.heap[gb]? = some (.cells #[.slice none 0 0, .int .i64 (n : Int), .int .i64 (-1), .slice na nn nc] 32 (0, 0)) ∧ w'.heap[ee]? = some (.cells #[.int .i64 t.kind, .int .i64 t.n, .string t.s, .slice sa t.args.length sc] 24 (0, 0)))) (by kernel_rfl) ?_
        refine wpTk (i := 0) (v := ?_) rfl (Or.inl ⟨by rfl, ?_⟩) (fun _ => hW1) ?_
        rotate_left
        · (intro w' hw; clear hw; go_simp <;> with_reducible rfl)
        simp only [Act.put, List.setIfInBounds_toArray, List.set_cons_zero, List.set_cons_succ]
        refine wpTk (i := 1) (v := ?_) rfl (Or.inl ⟨by rfl, ?_⟩) (fun _ => hW1) ?_
        rotate_left
        · (intro w' hw; obtain ⟨q0, q1, q2, q3, qf⟩ := blk4 (hw (by omega)).1; go_simp <;> with_reducible rfl)
        simp only [Act.put, List.setIfInBounds_toArray, List.set_cons_zero, List.set_cons_succ]
        refine wpTk (i := 2) (v := ?_) rfl (Or.inl ⟨by rfl, ?_⟩) (fun _ => hW1) ?_
        rotate_left
        · (intro w' hw; clear hw; go_simp <;> with_reducible rfl)
        simp only [Act.put, List.setIfInBounds_toArray, List.set_cons_zero, List.set_cons_succ]
        refine wpTk (i := 3) (v := ?_) rfl (Or.inl ⟨by rfl, ?_⟩) (fun _ => hW1) ?_
        rotate_left
        · (intro w' hw; obtain ⟨q0, q1, q2, q3, qf⟩ := blk4 (hw (by omega)).2; go_simp <;> with_reducible rfl)
        simp only [Act.put, List.setIfInBounds_toArray, List.set_cons_zero, List.set_cons_succ]
        refine wpAnyF_one (i := 4) (by kernel_rfl) (wpOp_run rfl (by rfl) ?_)
        go_simp
        refine (mgoal_ok t g (g + 1) (goalsF (begF n) (l.take j)).1 cv (fun b => b < w.heap.size) wa.drew [_, _, _, _] (HMK.out.below (Below.refl _ _).drew) hbl (Tm.rep_lasts.1 _ _ _ _ _ HR.out (Keeps.drew _ _)) (fun b hb => ⟨by have hb' : b < w.heap.size := hb; have := hMB.out.size; simp; omega, fun e => by
          have hb' : b < w.heap.size := hb
          rcases e with e | e
          · omega
          · have := (HCWB.out b e).1; omega⟩)).mono ?_
        rintro e w2 ⟨rfl, cv2, hm2, hc2, ho2⟩
        have ngb : ¬ MkM g cv gb := fun e => by
          rcases e with e | e
          · exact hne1 e
          · exact OwnF.ne_box HMK.out.own HBX.out (by decide) e
        have nee : ¬ MkM g cv ee := fun e => by
          rcases e with e | e
          · omega
          · have h1 := (HCWB.out _ e).2; have h2 := HEE.out; omega
        have nrb : ¬ MkM g cv rb := fun e => by
          rcases e with e | e
          · exact hne2 e
          · exact OwnF.ne_box HMK.out.own HRS.out (by decide) e
        have HB2 := hid (hMB.out.drew.trans (((Ch.refl _ _).trans hc2 (fun _ h => .inl h)).mono (M' := MkM g cv) (fun _ _ h => h) |> fun h => (show Below w.heap.size wa.drew w2 from ⟨h.os, h.tape, h.output, h.size, fun k hk => h.block k (by have := hMB.out.size; simp; omega) (fun e => by
          rcases e with e | e
          · omega
          · have := (HCWB.out k e).1; omega)⟩)))
        have HBX2 := hid ((hc2.block gb (by simpa using blk_lt HBX.out) ngb).trans (show wa.drew.heap[gb]? = _ from HBX.out))
        have HRS2 := hid ((hc2.block rb (by simpa using blk_lt HRS.out) nrb).trans (show wa.drew.heap[rb]? = _ from HRS.out))
        have HOW2 := hid (OwnF.kept HOW.out (w' := w2) (fun b hb => hc2.block b (by simpa using (HOW.out.lt b hb).2) (fun e => by
          rcases e with e | e
          · have := (HOW.out.lt b hb).1; omega
          · exact ownF_apart (by decide) HMK.out.own HOW.out b e hb)))
        have HM2 := hid hm2
        refine ⟨fun k hk hF h13 => ⟨(hc2.block gb (by simpa using blk_lt HBX.out) ngb).trans (hF h13).1, (hc2.block ee (by simpa using blk_lt HEL.out) nee).trans (hF h13).2⟩, ?_⟩
        clear hc2 ho2 hm2 ngb nee nrb hW1 HMK HBX HEL HOW HRS HOWB hMB HR
        try simp only [Act.put, List.setIfInBounds_toArray, List.set_cons_zero, List.set_cons_succ]
        refine wpAnyF_one (i := 5) (by kernel_rfl) (wpOp_run rfl (by rfl) ?_)
        go_simp
        refine ⟨fun k hk hF h13 => ⟨blk_alloc (hF h13).1 _, blk_alloc (hF h13).2 _⟩, ?_⟩
        refine wpAnyF_one (i := 6) (by kernel_rfl) (wpOp_run rfl (by rfl) ?_)
        have hz2 := HM2.out.base_le
        have hx2l : (goalsF (begF n) (l.take j)).1.length ≤ 4194304 := by omega
        refine wp_app1 (.tmp 26) (.tmp 30) 28 rfl (g + 1) 3 1 8 tyNums numR_lasts (.slice na nn nc) (goalsF (begF n) (l.take j)).2 rfl (OwnF.ownR numV_len HOW2.out (fun _ => True)) ((goalsF (begF n) (l.take j)).1.length : Int) [(.int .i64 ((goalsF (begF n) (l.take j)).1.length : Int))] rfl rfl ⟨by unfold I64; omega, rfl⟩ ⟨by rw [goalsF_len2]; omega, hz2⟩ ?_
        intro v2 w4 hown2 hgrew
        have HO4 := hid (OwnF.of_ownR hown2)
        have HCW2 := HM2.out.own
        have hkc : ∀ b, ownB (.slice na nn nc) = some b → b ≠ gb ∧ b ≠ g ∧ b ≠ rb ∧ ownB cv2 ≠ some b := fun b hb => ⟨fun e => OwnF.ne_box HOW2.out HBX2.out (by decide) (e ▸ hb), fun e => OwnF.ne_box HOW2.out HM2.out.box (by decide) (e ▸ hb), fun e => OwnF.ne_box HOW2.out HRS2.out (by decide) (e ▸ hb), fun e => ownF_apart (by decide) HCW2 HOW2.out b e hb⟩
        have hgk : ∀ k, k < w2.heap.size → ownB (.slice na nn nc) ≠ some k → w4.heap[k]? = w2.heap[k]? := fun k hk hn => (hgrew.grown.block k (by simp; omega) (fun e => hn e.symm)).trans (Below.heap_alloc _ _ _ hk)
        have HBX4 := hid ((hgk gb (blk_lt HBX2.out) (fun e => (hkc _ e).1 rfl)).trans HBX2.out)
        have HRS4 := hid ((hgk rb (blk_lt HRS2.out) (fun e => (hkc _ e).2.2.1 rfl)).trans HRS2.out)
        have HMB4 := hid ((hgk g (blk_lt HM2.out.box) (fun e => (hkc _ e).2.1 rfl)).trans HM2.out.box)
        have HCW4 := hid (OwnF.kept HCW2 (w' := w4) (fun b hb => hgk b (HCW2.lt b hb).2 (fun e => (hkc b e).2.2.2 hb)))
        have hz4 := hgrew.size
        have HB4 := hid (hgrew.below (HB2.out.alloc HB2.out.size (.cells #[.int .i64 ((goalsF (begF n) (l.take j)).1.length : Int)] 3)) (by have := HB2.out.size; simp; omega) (fun b hb => by have := (HOW2.out.lt b hb).1; omega))
        refine ⟨fun k hk hF h13 => ⟨(hgrew.grown.block gb (by have := blk_lt HBX2.out; simp; omega) (fun e => (hkc _ e.symm).1 rfl)).trans (hF h13).1, (hgrew.grown.block ee (blk_lt (hF h13).2) (fun e => OwnF.ne_box (OwnF.below HOW2.out ((Below.refl _ _).alloc (Nat.le_refl _) _)) (hF h13).2 (by decide) e.symm)).trans (hF h13).2⟩, ?_⟩
        obtain ⟨va2, vc2, hv2, -, -⟩ := OwnF.val HO4.out
        rw [List.length_append, List.length_singleton] at hv2
        subst hv2
        clear hown2 hgrew hgk hkc HCW2
        try simp only [Act.put, List.setIfInBounds_toArray, List.set_cons_zero, List.set_cons_succ]
        refine wpAnyF_one (i := 7) (by kernel_rfl) (wpOp_run rfl (by rfl) ?_)
        go_simp
        refine ⟨fun _ _ h => h, ?_⟩
        obtain ⟨y0, y1, y2, y3, yf⟩ := blk4 HBX4.out
        have hgb4 := blk_lt HBX4.out
        refine wpAnyF_one (i := 8) (by kernel_rfl) (wpOp_run rfl (by rfl) ?_)
        go_simp
        refine ⟨fun k hk _ h1 => ?_, wpAnyF_done (by kernel_rfl) ?_ _⟩
        · rcases h1 with h1 | h1
          · subst h1; exact absurd (show waits _ 8 1 = true by kernel_rfl) (by rw [hk]; decide)
          · subst h1; exact absurd (show waits _ 8 3 = true by kernel_rfl) (by rw [hk]; decide)
        go_wp2_with fail
        go_roundw
        case rel =>
          have hgl : (goalsF (begF n) (l.take j)).2.length + 1 = ((goalsF (begF n) (l.take j)).2 ++ [((goalsF (begF n) (l.take j)).1.length : Int)]).length := by simp
          refine ⟨j + 1, cv2, .slice va2 ((goalsF (begF n) (l.take j)).2.length + 1) vc2, by omega, by go_num, ?_⟩
          rw [List.take_succ_eq_append_getElem HLT.out, goalsF_snoc, ← HT.out]
          refine ⟨HB4.out.setCell (by simp only; omega) _, ⟨?_, ?_, HM2.out.lt, HM2.out.len, ?_⟩, (blk_set HBX4.out 3 _).trans rfl, ?_, ?_, hgw, hgbw, hne1, hne2, hne3⟩
          · rw [Below.heap_setCell _ _ _ _ (by simp only; exact fun e => hne1 e.symm)]; exact HMB4.out
          · exact OwnF.kept HCW4.out (fun b hb => Below.heap_setCell _ _ _ _ (by simp only; exact fun e => OwnF.ne_box HCW4.out HBX4.out (by decide) (e ▸ hb)))
          · have := blk_lt HMB4.out; simp; omega
          · exact OwnF.kept HO4.out (fun b hb => Below.heap_setCell _ _ _ _ (by simp only; exact fun e => OwnF.ne_box HO4.out HBX4.out (by decide) (e ▸ hb)))
          · rw [Below.heap_setCell _ _ _ _ (by simp only; exact hne3)]; exact HRS4.out
        case measure => first | (simp [intOf]; done) | (simp [intOf]; omega)
      · have hje : j = l.length := by omega
        subst hje
        have hlt' : ¬ ((l.length : Int) < (l.length : Int)) := by omega
        obtain ⟨ca, cc, rfl, hcl, hcm⟩ := OwnF.val hmk.own
        obtain ⟨m0, mf⟩ := blk1 hmk.box
        obtain ⟨y0, y1, y2, y3, yf⟩ := blk4 hbox
        obtain ⟨r0, r1, r2, r3, rf⟩ := blk4 hres
        have hgg := blk_lt hmk.box
        have hrr := blk_lt hres
        clear hlt hbel hmk hbox hown hres hgsl
        rw [List.take_length] at CD
        have hxl : (goalsF (begF n) (l.take l.length)).1 = (goalsF (begF n) l).1 := by rw [List.take_length]
        have hgl : (goalsF (begF n) (l.take l.length)).2 = (goalsF (begF n) l).2 := by rw [List.take_length]
        rw [hxl] at m0 hcl
        rw [hgl] at y3 hnl
        clear hxl hgl
        obtain ⟨X, hX⟩ : ∃ X, X = goalsF (begF n) l := ⟨_, rfl⟩
        rw [← hX] at m0 hcl y3 hnl CD
        have HX := hid hX
        clear hX
        go_wp2_with fail
        have hch : Ch (fun b => b = gb ∨ b = rb) wr wr := Ch.refl _ _
        have HCH := (((((hch.setCell (p := ⟨gb, 0, none⟩) (.inl (.inl rfl)) (.slice ca X.1.length cc)).setCell (p := ⟨rb, 0, none⟩) (.inl (.inr rfl)) (.slice ca X.1.length cc)).setCell (p := ⟨rb, 1, none⟩) (.inl (.inr rfl)) (.int .i64 (n : Int))).setCell (p := ⟨rb, 2, none⟩) (.inl (.inr rfl)) (.int .i64 (-1))).setCell (p := ⟨rb, 3, none⟩) (.inl (.inr rfl)) (.slice na X.2.length nc))
        have hne3' : ¬ gb = rb := fun e => hne3 e.symm
        have c1 := CD.out.mkr.own
        have c2 := CD.out.own
        have c3 := CD.out.box
        have c4 := CD.out.res
        have hbF := Ch.below (Ch.trans (Ch.of_below (M := fun b => b = gb ∨ b = rb) CD.out.bel) HCH (fun _ h => .inl h)) (fun k hk e => by omega)
        refine bodyPost_ret (v := .tuple #[.agg #[.slice ca X.1.length cc, .int .i64 (n : Int), .int .i64 (-1), .slice na X.2.length nc], .int .i64 0]) (by simp [results, Try.results30, go_sem, hcs, r0, r1, r2, r3, y0, y1, y2, y3, hne3, hne3']; try rfl) rfl ?_
        rw [HQF.out]
        have hXl := HXL.out
        rw [← HX.out] at hXl
        refine Pure.mk hbF ⟨_, _, rfl, ?_, ?_⟩
        · show CesR _ _ (goalsF (begF n) l).1 _
          rw [← HX.out]
          exact OwnF.sl Ce.vals_len Ce.vals_one (OwnF.kept c1 (fun b hb => HCH.block b (c1.lt b hb).2 (fun e => by
            rcases e with e | e
            · exact OwnF.ne_box c1 c3 (by decide) (e ▸ hb)
            · exact OwnF.ne_box c1 c4 (by decide) (e ▸ hb)))) (by omega) (fun b hb => by have := (c1.lt b hb).1; unfold New; omega)
        · show NumsR _ _ (goalsF (begF n) l).2 _
          rw [← HX.out]
          have hl2 := goalsF_len2 l (begF n)
          rw [← HX.out] at hl2
          exact OwnF.sl numV_len numV_one (OwnF.kept c2 (fun b hb => HCH.block b (c2.lt b hb).2 (fun e => by
            rcases e with e | e
            · exact OwnF.ne_box c2 c3 (by decide) (e ▸ hb)
            · exact OwnF.ne_box c2 c4 (by decide) (e ▸ hb)))) (by omega) (fun b hb => by have := (c2.lt b hb).1; unfold New; omega)
set_option maxHeartbeats 8000000 in
theorem clause_ok (c : Cl) (hnd : c.nodes ≤ 1099511627776) (w : World) (vs : List Value) (hc : Cl.rep (fun b => b < w.heap.size) w c vs) :
    Calls Try.prog 9 #[.agg vs.toArray] w (Pure w (BkPost (New w) (clauseF c))) := by
  have hcs := cell_set
  have HGQ := hid (fun (W : World) (h : Below w.heap.size w W) => goodClause_ok c hnd (fun b => b < w.heap.size) W vs (Cl.rep_lasts.1 _ _ _ _ _ hc (Keeps.of_below h)))
  obtain ⟨h, l, v⟩ := c
  obtain ⟨ha, hcp, a, cap, rfl, hh, hu, hi⟩ := hc
  simp only at hh hu hi
  obtain ⟨_, _, b, off, e, -, -, hlb, hta, he⟩ := hu.at
  simp only [Value.slice.injEq, true_and] at e
  obtain ⟨rfl, rfl⟩ := e
  have HE := hid he
  have HTA := hid hta
  have HHR := hid hh
  have TREP := hid (show ∀ t ∈ l, ∀ (W : World), Keeps (fun b => b < w.heap.size) w W → ∀ {us}, Tm.rep (fun b => b < w.heap.size) W t us → Tm.rep (fun b => b < w.heap.size) W t us from fun _ _ _ _ _ h => h)
  simp only [Cl.nodes] at hnd
  clear hu hta he hh
  go_enter Try.func9, Try.ntmps9
  go_wp2_with fail
  have h2 := heap2 w (.cells #[.int .i64 h.kind, .int .i64 h.n, .string h.s, .slice ha h.args.length hcp, .slice a l.length cap, .int .i64 v] 26) (.cells #[.slice none 0 0, .int .i64 0, .int .i64 0, .slice none 0 0] 32)
  have HPB0 := hid h2.1
  have HRS0 := hid h2.2
  have HB0 := hid (((Below.refl _ w).alloc (Nat.le_refl _) (.cells #[.int .i64 h.kind, .int .i64 h.n, .string h.s, .slice ha h.args.length hcp, .slice a l.length cap, .int .i64 v] 26)).alloc (by simp) (.cells #[.slice none 0 0, .int .i64 0, .int .i64 0, .slice none 0 0] 32))
  refine (HGQ.out _ HB0.out).mono ?_
  rintro e w1 ⟨r, rfl, hb1, q, rfl, hq⟩
  have HB1 := hid (HB0.out.trans (hb1.mono HB0.out.size))
  have HRS1 := hid (blk_below HRS0.out hb1)
  have HPB1 := hid (blk_below HPB0.out hb1)
  clear hb1 HB0 HRS0 HPB0 h2
  obtain ⟨rb, hrb⟩ : ∃ rb, rb = w.heap.size + 1 := ⟨_, rfl⟩
  obtain ⟨pb, hpb⟩ : ∃ pb, pb = w.heap.size := ⟨_, rfl⟩
  have HRB := hid hrb
  have hrw : rb < w1.heap.size := by rw [hrb]; exact blk_lt HRS1.out
  have hrw0 : w.heap.size ≤ rb := by omega
  have hpw : pb < w1.heap.size := by omega
  have hpr : ¬ rb = pb := by omega
  have hpw0 : w.heap.size ≤ pb := by omega
  rw [← hrb] at HRS1
  rw [← hpb] at HPB1
  obtain ⟨r0, r1, r2, r3, rf⟩ := blk4 HRS1.out
  rw [← hrb]
  rw [← hpb]
  clear hrb hpb
  cases q with
  | false =>
    have hng : ¬ (⟨h, l, v⟩ : Cl).Good := fun h => by have := hq.2 h; cases this
    have HQF := hid (show clauseF ⟨h, l, v⟩ = (bk0, 1) by rw [clauseF, if_neg hng])
    clear hng hq
    go_wp2_with fail
    refine bodyPost_ret (v := .tuple #[.agg #[.slice none 0 0, .int .i64 0, .int .i64 0, .slice none 0 0], .int .i64 1]) (by simp [results, Try.results9, go_sem, hcs, r0, r1, r2, r3]; try rfl) rfl ?_
    rw [HQF.out]
    exact Pure.mk (Below.setCell (Below.setCell (Below.setCell (Below.setCell HB1.out (by simp only; omega) _) (by simp only; omega) _) (by simp only; omega) _) (by simp only; omega) _) ⟨_, _, rfl, SlR.nil .., SlR.nil ..⟩
  | true =>
    have hgq : (⟨h, l, v⟩ : Cl).Good := hq.1 rfl
    have HQF := hid (show clauseF ⟨h, l, v⟩ = (clauseB ⟨h, l, v⟩, 0) by rw [clauseF, if_pos hgq])
    obtain ⟨⟨v0, v8, l5, lg⟩, -, hft, -⟩ := hgq
    simp only at v0 v8 l5 lg hft
    have hhn := hft.2
    obtain ⟨n, rfl⟩ := Int.eq_ofNat_of_zero_le v0
    have hnd2 := nodesL_le l (fun g hg => (lg g hg).2.2)
    clear lg hnd hq hft
    obtain ⟨x0, x1, x2, x3, x4, x5, xf⟩ := blk6 HPB1.out
    go_wp2_with fail
    refine (begun_ok n (by omega) w1).mono ?_
    rintro e w2 ⟨cv0, rfl, hb2, hm2⟩
    have HB2 := hid (HB1.out.trans (hb2.mono HB1.out.size))
    have HRS2 := hid (blk_below HRS1.out hb2)
    have HPB2 := hid (blk_below HPB1.out hb2)
    have HM2 := hid hm2
    have hz2 := blk_lt hm2.box
    have hz1 := HB1.out.size
    clear hb2 hm2 r0 r1 r2 r3 rf x0 x1 x2 x3 x4 x5 xf
    obtain ⟨g, hg⟩ : ∃ g, g = w1.heap.size := ⟨_, rfl⟩
    rw [← hg] at HM2 hz2 ⊢
    have hgr : rb < g := by omega
    have hgp : pb < g := by omega
    have hgw : w.heap.size ≤ g := by omega
    clear hg HB1 HRS1 HPB1
    go_wp2_with fail
    go_cut [5] (fun u5 wr => ∃ (gb : Nat) (cv : Value), u5 = .pointer (some ⟨gb, 0, none⟩) ∧ CdI w g gb rb (goalsF (goalF (begF n) h) (l.take 0)).1 (goalsF (goalF (begF n) h) (l.take 0)).2 (n : Int) (n : Int) cv (.slice none 0 0) wr ∧ wr.heap[pb]? = some (.cells #[.int .i64 h.kind, .int .i64 h.n, .string h.s, .slice ha h.args.length hcp, .slice a l.length cap, .int .i64 (n : Int)] 26 (0, 0)))
    case first =>
      have hW1 : w2.drew.heap[pb]? = some (.cells #[.int .i64 h.kind, .int .i64 h.n, .string h.s, .slice ha h.args.length hcp, .slice a l.length cap, .int .i64 (n : Int)] 26 (0, 0)) := HPB2.out
      have HM3 := hid (HM2.out.below (Below.refl _ _).drew)
      have HB3 := hid (HB2.out.drew)
      have HRS3 := hid (show w2.drew.heap[rb]? = _ from HRS2.out)
      have HPB3 := hid hW1
      refine wp_region_F (F := fun k w' => k = 1 ∨ k = 4 → w'.heap[pb]? = some (.cells #[.int .i64 h.kind, .int .i64 h.n, .string h.s, .slice ha h.args.length hcp, .slice a l.length cap, .int .i64 (n : Int)] 26 (0, 0))) (by kernel_rfl) ?_
      refine wpTk (i := 0) (v := ?_) rfl (Or.inl ⟨by rfl, ?_⟩) (fun _ => hW1) ?_
      rotate_left
      · (intro w' hw; clear hw; go_simp <;> with_reducible rfl)
      simp only [Act.put, List.setIfInBounds_toArray, List.set_cons_zero, List.set_cons_succ]
      refine wpTk (i := 1) (v := ?_) rfl (Or.inl ⟨by rfl, ?_⟩) (fun _ => hW1) ?_
      rotate_left
      · (intro w' hw; obtain ⟨q0, q1, q2, q3, q4, q5, qf⟩ := blk6 (hw (by omega)); go_simp <;> with_reducible rfl)
      simp only [Act.put, List.setIfInBounds_toArray, List.set_cons_zero, List.set_cons_succ]
      refine wpTk (i := 2) (v := ?_) rfl (Or.inl ⟨by rfl, ?_⟩) (fun _ => hW1) ?_
      rotate_left
      · (intro w' hw; clear hw; go_simp <;> with_reducible rfl)
      simp only [Act.put, List.setIfInBounds_toArray, List.set_cons_zero, List.set_cons_succ]
      refine wpTk (i := 3) (v := ?_) rfl (Or.inl ⟨by rfl, ?_⟩) (fun _ => hW1) ?_
      rotate_left
      · (intro w' hw; clear hw; go_simp <;> with_reducible rfl)
      simp only [Act.put, List.setIfInBounds_toArray, List.set_cons_zero, List.set_cons_succ]
      refine wpTk (i := 4) (v := ?_) rfl (Or.inl ⟨by rfl, ?_⟩) (fun _ => hW1) ?_
      rotate_left
      · (intro w' hw; obtain ⟨q0, q1, q2, q3, q4, q5, qf⟩ := blk6 (hw (by omega)); go_simp <;> with_reducible rfl)
      simp only [Act.put, List.setIfInBounds_toArray, List.set_cons_zero, List.set_cons_succ]
      clear HB2 HRS2 HPB2 HM2 hW1
      generalize w2.drew = w3 at HM3 HB3 HRS3 HPB3 ⊢
      refine wpAnyF_two (i := 5) (j := 7) (by kernel_rfl) (wpOp_run rfl (by rfl) ?_) (wpOp_run rfl (by rfl) ?_)
      · go_simp
        refine (mgoal_ok h g (g + 1) (begF n) cv0 (fun b => b < w.heap.size) w3 [_, _, _, _] HM3.out (by rw [begF_len]; omega) (Tm.rep_lasts.1 _ _ _ _ _ HHR.out (Keeps.of_below HB3.out)) (fun b hb => ⟨by have hb' : b < w.heap.size := hb; have := HB3.out.size; omega, fun e => by
          have hb' : b < w.heap.size := hb
          rcases e with e | e
          · omega
          · have := (HM3.out.own.lt b e).1; omega⟩)).mono ?_
        rintro e w5 ⟨rfl, cv2, hm5, hc5, ho5⟩
        have npb : ¬ MkM g cv0 pb := fun e => by
          rcases e with e | e
          · omega
          · exact OwnF.ne_box HM3.out.own HPB3.out (by decide) e
        have nrb : ¬ MkM g cv0 rb := fun e => by
          rcases e with e | e
          · omega
          · exact OwnF.ne_box HM3.out.own HRS3.out (by decide) e
        have HPB5 := hid ((hc5.block pb (blk_lt HPB3.out) npb).trans HPB3.out)
        have HRS5 := hid ((hc5.block rb (blk_lt HRS3.out) nrb).trans HRS3.out)
        have HB5 := hid (Ch.below (Ch.trans (Ch.of_below (M := MkM g cv0) HB3.out) hc5 (fun _ h => .inl h)) (fun k hk e => by
          rcases e with e | e
          · omega
          · have := (HM3.out.own.lt k e).1; omega))
        have HM5 := hid hm5
        rw [begF_len]
        refine ⟨fun k hk hF h13 => (hc5.block pb (blk_lt HPB3.out) npb).trans (hF h13), ?_⟩
        clear npb nrb hc5 ho5 hm5
        try simp only [Act.put, List.setIfInBounds_toArray, List.set_cons_zero, List.set_cons_succ]
        refine wpTk (i := 6) (v := ?_) rfl (Or.inl ⟨by rfl, ?_⟩) (fun h => absurd h (by decide)) ?_
        rotate_left
        · (intro w' hw; clear hw; go_simp <;> with_reducible rfl)
        simp only [Act.put, List.setIfInBounds_toArray, List.set_cons_zero, List.set_cons_succ]
        refine wpAnyF_one (i := 7) (by kernel_rfl) (wpOp_run rfl (by rfl) ?_)
        go_simp
        refine ⟨fun k hk hF h13 => blk_alloc (hF h13) _, ?_⟩
        have HGB := hid (blk_new w5 (.cells #[.slice none 0 0, .int .i64 0, .int .i64 0, .slice none 0 0] 32))
        have HZB := hid ((Below.refl _ w5).alloc (Nat.le_refl _) (.cells #[.slice none 0 0, .int .i64 0, .int .i64 0, .slice none 0 0] 32))
        have HPZ := hid (blk_alloc HPB5.out (.cells #[.slice none 0 0, .int .i64 0, .int .i64 0, .slice none 0 0] 32))
        obtain ⟨gb, hgb⟩ : ∃ gb, gb = w5.heap.size := ⟨_, rfl⟩
        rw [← hgb] at HGB ⊢
        have hg5 := blk_lt HM5.out.box
        have hr5 := blk_lt HRS5.out
        have hp5 := blk_lt HPB5.out
        have hb5 := HB5.out.size
        have hgbl := blk_lt HGB.out
        have HGE := hid hgb
        have q1 : g < gb := by omega
        have q2 : rb < gb := by omega
        have q3 : pb < gb := by omega
        have q4 : w.heap.size ≤ gb := by omega
        clear hgb
        generalize w5.alloc (.cells #[.slice none 0 0, .int .i64 0, .int .i64 0, .slice none 0 0] 32) = wz at HGB HZB HPZ hgbl ⊢
        obtain ⟨y0, y1, y2, y3, yf⟩ := blk4 HGB.out
        try simp only [Act.put, List.setIfInBounds_toArray, List.set_cons_zero, List.set_cons_succ]
        refine wpAnyF_one (i := 8) (by kernel_rfl) (wpOp_run rfl (by rfl) ?_)
        go_simp
        refine ⟨fun k hk _ h1 => ?_, wpAnyF_done (by kernel_rfl) ?_ _⟩
        · rcases h1 with h1 | h1
          · subst h1; exact absurd (show waits _ 8 1 = true by kernel_rfl) (by rw [hk]; decide)
          · subst h1; exact absurd (show waits _ 8 4 = true by kernel_rfl) (by rw [hk]; decide)
        go_wp2_with fail
        go_meet
        have hBW : Below w5.heap.size w5 ((((wz.setCell ⟨gb, 0, none⟩ (.slice none 0 0)).setCell ⟨gb, 1, none⟩ (.int .i64 (n : Int))).setCell ⟨gb, 2, none⟩ (.int .i64 (n : Int))).setCell ⟨gb, 3, none⟩ (.slice none 0 0)) := by
          have := HGE.out
          exact Below.setCell (Below.setCell (Below.setCell (Below.setCell HZB.out (by simp only; omega) _) (by simp only; omega) _) (by simp only; omega) _) (by simp only; omega) _
        exact ⟨gb, cv2, rfl, ⟨HB5.out.trans (hBW.mono HB5.out.size), HM5.out.below hBW, (blk_set (blk_set (blk_set (blk_set HGB.out 0 _) 1 _) 2 _) 3 _).trans rfl, OwnF.nil, blk_below HRS5.out hBW, hgw, q4, by omega, by omega, by omega⟩, blk_below HPB5.out hBW⟩
      · go_simp
        refine ⟨fun k hk hF h13 => blk_alloc (hF h13) _, ?_⟩
        have HGB := hid (blk_new w3 (.cells #[.slice none 0 0, .int .i64 0, .int .i64 0, .slice none 0 0] 32))
        have HM4 := hid (HM3.out.below ((Below.refl _ _).alloc (Nat.le_refl _) (.cells #[.slice none 0 0, .int .i64 0, .int .i64 0, .slice none 0 0] 32)))
        have HB4 := hid (HB3.out.alloc HB3.out.size (.cells #[.slice none 0 0, .int .i64 0, .int .i64 0, .slice none 0 0] 32))
        have HPB4 := hid (blk_alloc HPB3.out (.cells #[.slice none 0 0, .int .i64 0, .int .i64 0, .slice none 0 0] 32))
        have HRS4 := hid (blk_alloc HRS3.out (.cells #[.slice none 0 0, .int .i64 0, .int .i64 0, .slice none 0 0] 32))
        obtain ⟨gb, hgb⟩ : ∃ gb, gb = w3.heap.size := ⟨_, rfl⟩
        rw [← hgb] at HGB ⊢
        have hg5 := blk_lt HM3.out.box
        have hr5 := blk_lt HRS3.out
        have hp5 := blk_lt HPB3.out
        have hb5 := HB3.out.size
        have hown3 := hid (fun b (hb : ownB cv0 = some b) => (HM3.out.own.lt b hb).2)
        have HGE := hid hgb
        have q1 : g < gb := by omega
        have q2 : rb < gb := by omega
        have q3 : pb < gb := by omega
        have q4 : w.heap.size ≤ gb := by omega
        clear hgb
        generalize w3.alloc (.cells #[.slice none 0 0, .int .i64 0, .int .i64 0, .slice none 0 0] 32) = wz at HGB HM4 HB4 HPB4 HRS4 ⊢
        try simp only [Act.put, List.setIfInBounds_toArray, List.set_cons_zero, List.set_cons_succ]
        refine wpAnyF_one (i := 5) (by kernel_rfl) (wpOp_run rfl (by rfl) ?_)
        go_simp
        refine (mgoal_ok h g (g + 1) (begF n) cv0 (fun b => b < w.heap.size) wz [_, _, _, _] HM4.out (by rw [begF_len]; omega) (Tm.rep_lasts.1 _ _ _ _ _ HHR.out (Keeps.of_below HB4.out)) (fun b hb => ⟨by have hb' : b < w.heap.size := hb; have := HB4.out.size; omega, fun e => by
          have hb' : b < w.heap.size := hb
          rcases e with e | e
          · omega
          · have := (HM4.out.own.lt b e).1; omega⟩)).mono ?_
        rintro e w5 ⟨rfl, cv2, hm5, hc5, ho5⟩
        have npb : ¬ MkM g cv0 pb := fun e => by
          rcases e with e | e
          · omega
          · exact OwnF.ne_box HM4.out.own HPB4.out (by decide) e
        have nrb : ¬ MkM g cv0 rb := fun e => by
          rcases e with e | e
          · omega
          · exact OwnF.ne_box HM4.out.own HRS4.out (by decide) e
        have HPB5 := hid ((hc5.block pb (blk_lt HPB4.out) npb).trans HPB4.out)
        have HRS5 := hid ((hc5.block rb (blk_lt HRS4.out) nrb).trans HRS4.out)
        have HB5 := hid (Ch.below (Ch.trans (Ch.of_below (M := MkM g cv0) HB4.out) hc5 (fun _ h => .inl h)) (fun k hk e => by
          rcases e with e | e
          · omega
          · have := (HM4.out.own.lt k e).1; omega))
        have HM5 := hid hm5
        rw [begF_len]
        have ngb : ¬ MkM g cv0 gb := fun e => by
          rcases e with e | e
          · omega
          · have h1 := hown3.out _ e; have h2 := HGE.out; omega
        have HGB5 := hid ((hc5.block gb (blk_lt HGB.out) ngb).trans HGB.out)
        refine ⟨fun k hk hF h13 => (hc5.block pb (blk_lt HPB4.out) npb).trans (hF h13), ?_⟩
        clear npb nrb ngb hc5 ho5 hm5
        try simp only [Act.put, List.setIfInBounds_toArray, List.set_cons_zero, List.set_cons_succ]
        refine wpAnyF_one (i := 6) (by kernel_rfl) (wpOp_run rfl (by rfl) ?_)
        go_simp
        refine ⟨fun _ _ h => h, ?_⟩
        obtain ⟨y0, y1, y2, y3, yf⟩ := blk4 HGB5.out
        have hgbl := blk_lt HGB5.out
        try simp only [Act.put, List.setIfInBounds_toArray, List.set_cons_zero, List.set_cons_succ]
        refine wpAnyF_one (i := 8) (by kernel_rfl) (wpOp_run rfl (by rfl) ?_)
        go_simp
        refine ⟨fun k hk _ h1 => ?_, wpAnyF_done (by kernel_rfl) ?_ _⟩
        · rcases h1 with h1 | h1
          · subst h1; exact absurd (show waits _ 8 1 = true by kernel_rfl) (by rw [hk]; decide)
          · subst h1; exact absurd (show waits _ 8 4 = true by kernel_rfl) (by rw [hk]; decide)
        go_wp2_with fail
        go_meet
        have hch : Ch (fun b => b = gb) w5 w5 := Ch.refl _ _
        have HCH := (((hch.setCell (p := ⟨gb, 0, none⟩) (.inl rfl) (.slice none 0 0)).setCell (p := ⟨gb, 1, none⟩) (.inl rfl) (.int .i64 (n : Int))).setCell (p := ⟨gb, 2, none⟩) (.inl rfl) (.int .i64 (n : Int))).setCell (p := ⟨gb, 3, none⟩) (.inl rfl) (.slice none 0 0)
        exact ⟨gb, cv2, rfl, ⟨(Ch.trans (Ch.of_below (M := fun b => b = gb) HB5.out) HCH (fun _ h => .inl h)).below (fun k hk e => by omega), HM5.out.ch HCH (fun b hb e => by
          rcases hb with hb | hb
          · omega
          · exact OwnF.ne_box HM5.out.own HGB5.out (by decide) (e ▸ hb)), (blk_set (blk_set (blk_set (blk_set HGB5.out 0 _) 1 _) 2 _) 3 _).trans rfl, OwnF.nil, (HCH.block rb (blk_lt HRS5.out) (by omega)).trans HRS5.out, hgw, q4, by omega, by omega, by omega⟩, (HCH.block pb (blk_lt HPB5.out) (by omega)).trans HPB5.out⟩
    case rest =>
      obtain ⟨gb, cv, rfl, hcd, hpbx⟩ := hcut
      have CD0 := hid hcd
      obtain ⟨x0, x1, x2, x3, x4, x5, xf⟩ := blk6 hpbx
      have hpbl := blk_lt hpbx
      have hblen : (goalF (begF n) h).length ≤ 56 := by have := (goalF_len h (begF n)).2; rw [begF_len] at this; omega
      have HXL := hid (show (goalsF (goalF (begF n) h) l).1.length ≤ 1048576 by have := goalsF_len1 l (goalF (begF n) h); omega)
      clear hcd hpbx HM2 HB2 HRS2 HPB2
      go_wp2_with fail
      clear x0 x1 x2 x3 x4 x5 xf hpbl
      go_loopw [25] (fun i W => ∃ (j : Nat) (cv gv : Value), j ≤ l.length ∧ i = .int .i64 (j : Int) ∧ CdI w g gb rb (goalsF (goalF (begF n) h) (l.take j)).1 (goalsF (goalF (begF n) h) (l.take j)).2 (n : Int) (n : Int) cv gv W) (fun i _ => l.length - (intOf i).toNat)
      case atStart => exact ⟨0, _, _, Nat.zero_le _, rfl, CD0.out⟩
      case round =>
        obtain ⟨j, cv, gv, hj, rfl, hcd⟩ := hrel
        have CD := hid hcd
        obtain ⟨hbel, hmk, hbox, hown, hres, hgw, hgbw, hne1, hne2, hne3⟩ := hcd
        have hzb := hbel.size
        have hgb := blk_lt hbox
        obtain ⟨na, nc, rfl, hnl, hnm⟩ := OwnF.val hown
        have hgsl : (goalsF (goalF (begF n) h) (l.take j)).2.length = (l.take j).length := goalsF_len2 _ _
        have hll : (l.take j).length ≤ l.length := by rw [List.length_take]; omega
        by_cases hlt : j < l.length
        · obtain ⟨rfl, hAb⟩ := HTA.out (by omega)
          obtain ⟨sa, sc, d0, d1, d2, d3, hr⟩ := tm_cells HE.out hAb (Keeps.of_below hbel) hlt
          have hlt' : (j : Int) < (l.length : Int) := by omega
          have hj0 : (0 : Int) ≤ (j : Int) := Int.natCast_nonneg _
          obtain ⟨t, ht⟩ : ∃ t, t = l[j]'hlt := ⟨_, rfl⟩
          rw [← ht] at d0 d1 d2 d3 hr
          have HT := hid ht
          have HLT := hid hlt
          have hbnd := goalsF_at (goalF (begF n) h) l j hlt
          rw [← ht] at hbnd
          have HR := hid (show Tm.rep (fun b => b < w.heap.size) _ t _ from Tm.rep_lasts.1 _ _ _ _ _ (TREP.out t (by rw [ht]; exact List.getElem_mem _) _ (Keeps.of_below hbel) hr) (Keeps.alloc _ _ (.cells #[.int .i64 t.kind, .int .i64 t.n, .string t.s, .slice sa t.args.length sc] 24)))
          obtain ⟨nn, hnn⟩ : ∃ nn, nn = (goalsF (goalF (begF n) h) (l.take j)).2.length := ⟨_, rfl⟩
          rw [← hnn] at hbox hown CD hnl
          have hMB := hid (hbel.alloc hbel.size (.cells #[.int .i64 t.kind, .int .i64 t.n, .string t.s, .slice sa t.args.length sc] 24))
          have HMK := hid (hmk.below ((Below.refl _ _).alloc (Nat.le_refl _) (.cells #[.int .i64 t.kind, .int .i64 t.n, .string t.s, .slice sa t.args.length sc] 24)))
          have HBX := hid (blk_alloc hbox (.cells #[.int .i64 t.kind, .int .i64 t.n, .string t.s, .slice sa t.args.length sc] 24))
          have HEL := hid (blk_new wr (.cells #[.int .i64 t.kind, .int .i64 t.n, .string t.s, .slice sa t.args.length sc] 24))
          have HOW := hid (OwnF.below hown ((Below.refl _ _).alloc (Nat.le_refl _) (.cells #[.int .i64 t.kind, .int .i64 t.n, .string t.s, .slice sa t.args.length sc] 24)))
          have HRS := hid (blk_alloc hres (.cells #[.int .i64 t.kind, .int .i64 t.n, .string t.s, .slice sa t.args.length sc] 24))
          obtain ⟨ee, hee⟩ : ∃ ee, ee = wr.heap.size := ⟨_, rfl⟩
          have hsz0 : ee < (wr.alloc (.cells #[.int .i64 t.kind, .int .i64 t.n, .string t.s, .slice sa t.args.length sc] 24)).heap.size := by rw [hee]; simp
          have heg : gb < ee := by omega
          have hgg := blk_lt hmk.box
          have heg2 : g < ee := by omega
          have hew : w.heap.size ≤ ee := by omega
          rw [← hee] at HEL
          have HOWB := hid (fun b (hb : ownB (.slice na nn nc) = some b) => hown.lt b hb)
          have HCWB := hid (fun b (hb : ownB cv = some b) => hmk.own.lt b hb)
          have HEE := hid hee
          have hbl : (goalsF (goalF (begF n) h) (l.take j)).1.length + 1 + 2 * t.nodes ≤ 4194304 := by omega
          clear hr ht hbel hmk hbox hown hres hbnd hgsl hnn
          go_wp2_with fail
          clear d0 d1 d2 d3
          rw [← HEE.out]
          clear hee
          generalize wr.alloc (.cells #[.int .i64 t.kind, .int .i64 t.n, .string t.s, .slice sa t.args.length sc] 24) = wa at hMB HMK HBX HEL HOW HRS hsz0 HR ⊢
          have hW1 : wa.drew.heap[gb]? = some (.cells #[.slice none 0 0, .int .i64 (n : Int), .int .i64 (n : Int), .slice na nn nc] 32 (0, 0)) ∧ wa.drew.heap[ee]? = some (.cells #[.int .i64 t.kind, .int .i64 t.n, .string t.s, .slice sa t.args.length sc] 24 (0, 0)) := ⟨HBX.out, HEL.out⟩
          refine wp_region_F (F := fun k w' => k = 1 ∨ k = 3 → (w'.heap[gb]? = some (.cells #[.slice none 0 0, .int .i64 (n : Int), .int .i64 (n : Int), .slice na nn nc] 32 (0, 0)) ∧ w'.heap[ee]? = some (.cells #[.int .i64 t.kind, .int .i64 t.n, .string t.s, .slice sa t.args.length sc] 24 (0, 0)))) (by kernel_rfl) ?_
          refine wpTk (i := 0) (v := ?_) rfl (Or.inl ⟨by rfl, ?_⟩) (fun _ => hW1) ?_
          rotate_left
          · (intro w' hw; clear hw; go_simp <;> with_reducible rfl)
          simp only [Act.put, List.setIfInBounds_toArray, List.set_cons_zero, List.set_cons_succ]
          refine wpTk (i := 1) (v := ?_) rfl (Or.inl ⟨by rfl, ?_⟩) (fun _ => hW1) ?_
          rotate_left
          · (intro w' hw; obtain ⟨q0, q1, q2, q3, qf⟩ := blk4 (hw (by omega)).1; go_simp <;> with_reducible rfl)
          simp only [Act.put, List.setIfInBounds_toArray, List.set_cons_zero, List.set_cons_succ]
          refine wpTk (i := 2) (v := ?_) rfl (Or.inl ⟨by rfl, ?_⟩) (fun _ => hW1) ?_
          rotate_left
          · (intro w' hw; clear hw; go_simp <;> with_reducible rfl)
          simp only [Act.put, List.setIfInBounds_toArray, List.set_cons_zero, List.set_cons_succ]
          refine wpTk (i := 3) (v := ?_) rfl (Or.inl ⟨by rfl, ?_⟩) (fun _ => hW1) ?_
          rotate_left
          · (intro w' hw; obtain ⟨q0, q1, q2, q3, qf⟩ := blk4 (hw (by omega)).2; go_simp <;> with_reducible rfl)
          simp only [Act.put, List.setIfInBounds_toArray, List.set_cons_zero, List.set_cons_succ]
          refine wpAnyF_one (i := 4) (by kernel_rfl) (wpOp_run rfl (by rfl) ?_)
          go_simp
          refine (mgoal_ok t g (g + 1) (goalsF (goalF (begF n) h) (l.take j)).1 cv (fun b => b < w.heap.size) wa.drew [_, _, _, _] (HMK.out.below (Below.refl _ _).drew) hbl (Tm.rep_lasts.1 _ _ _ _ _ HR.out (Keeps.drew _ _)) (fun b hb => ⟨by have hb' : b < w.heap.size := hb; have := hMB.out.size; simp; omega, fun e => by
            have hb' : b < w.heap.size := hb
            rcases e with e | e
            · omega
            · have := (HCWB.out b e).1; omega⟩)).mono ?_
          rintro e w2 ⟨rfl, cv2, hm2, hc2, ho2⟩
          have ngb : ¬ MkM g cv gb := fun e => by
            rcases e with e | e
            · exact hne1 e
            · exact OwnF.ne_box HMK.out.own HBX.out (by decide) e
          have nee : ¬ MkM g cv ee := fun e => by
            rcases e with e | e
            · omega
            · have h1 := (HCWB.out _ e).2; have h2 := HEE.out; omega
          have nrb : ¬ MkM g cv rb := fun e => by
            rcases e with e | e
            · exact hne2 e
            · exact OwnF.ne_box HMK.out.own HRS.out (by decide) e
          have HB2 := hid (hMB.out.drew.trans (((Ch.refl _ _).trans hc2 (fun _ h => .inl h)).mono (M' := MkM g cv) (fun _ _ h => h) |> fun h => (show Below w.heap.size wa.drew w2 from ⟨h.os, h.tape, h.output, h.size, fun k hk => h.block k (by have := hMB.out.size; simp; omega) (fun e => by
            rcases e with e | e
            · omega
            · have := (HCWB.out k e).1; omega)⟩)))
          have HBX2 := hid ((hc2.block gb (by simpa using blk_lt HBX.out) ngb).trans (show wa.drew.heap[gb]? = _ from HBX.out))
          have HRS2 := hid ((hc2.block rb (by simpa using blk_lt HRS.out) nrb).trans (show wa.drew.heap[rb]? = _ from HRS.out))
          have HOW2 := hid (OwnF.kept HOW.out (w' := w2) (fun b hb => hc2.block b (by simpa using (HOW.out.lt b hb).2) (fun e => by
            rcases e with e | e
            · have := (HOW.out.lt b hb).1; omega
            · exact ownF_apart (by decide) HMK.out.own HOW.out b e hb)))
          have HM2 := hid hm2
          refine ⟨fun k hk hF h13 => ⟨(hc2.block gb (by simpa using blk_lt HBX.out) ngb).trans (hF h13).1, (hc2.block ee (by simpa using blk_lt HEL.out) nee).trans (hF h13).2⟩, ?_⟩
          clear hc2 ho2 hm2 ngb nee nrb hW1 HMK HBX HEL HOW HRS HOWB hMB HR
          try simp only [Act.put, List.setIfInBounds_toArray, List.set_cons_zero, List.set_cons_succ]
          refine wpAnyF_one (i := 5) (by kernel_rfl) (wpOp_run rfl (by rfl) ?_)
          go_simp
          refine ⟨fun k hk hF h13 => ⟨blk_alloc (hF h13).1 _, blk_alloc (hF h13).2 _⟩, ?_⟩
          refine wpAnyF_one (i := 6) (by kernel_rfl) (wpOp_run rfl (by rfl) ?_)
          have hz2 := HM2.out.base_le
          have hx2l : (goalsF (goalF (begF n) h) (l.take j)).1.length ≤ 4194304 := by omega
          refine wp_app1 (.tmp 30) (.tmp 34) 28 rfl (g + 1) 3 1 8 tyNums numR_lasts (.slice na nn nc) (goalsF (goalF (begF n) h) (l.take j)).2 rfl (OwnF.ownR numV_len HOW2.out (fun _ => True)) ((goalsF (goalF (begF n) h) (l.take j)).1.length : Int) [(.int .i64 ((goalsF (goalF (begF n) h) (l.take j)).1.length : Int))] rfl rfl ⟨by unfold I64; omega, rfl⟩ ⟨by rw [goalsF_len2]; omega, hz2⟩ ?_
          intro v2 w4 hown2 hgrew
          have HO4 := hid (OwnF.of_ownR hown2)
          have HCW2 := HM2.out.own
          have hkc : ∀ b, ownB (.slice na nn nc) = some b → b ≠ gb ∧ b ≠ g ∧ b ≠ rb ∧ ownB cv2 ≠ some b := fun b hb => ⟨fun e => OwnF.ne_box HOW2.out HBX2.out (by decide) (e ▸ hb), fun e => OwnF.ne_box HOW2.out HM2.out.box (by decide) (e ▸ hb), fun e => OwnF.ne_box HOW2.out HRS2.out (by decide) (e ▸ hb), fun e => ownF_apart (by decide) HCW2 HOW2.out b e hb⟩
          have hgk : ∀ k, k < w2.heap.size → ownB (.slice na nn nc) ≠ some k → w4.heap[k]? = w2.heap[k]? := fun k hk hn => (hgrew.grown.block k (by simp; omega) (fun e => hn e.symm)).trans (Below.heap_alloc _ _ _ hk)
          have HBX4 := hid ((hgk gb (blk_lt HBX2.out) (fun e => (hkc _ e).1 rfl)).trans HBX2.out)
          have HRS4 := hid ((hgk rb (blk_lt HRS2.out) (fun e => (hkc _ e).2.2.1 rfl)).trans HRS2.out)
          have HMB4 := hid ((hgk g (blk_lt HM2.out.box) (fun e => (hkc _ e).2.1 rfl)).trans HM2.out.box)
          have HCW4 := hid (OwnF.kept HCW2 (w' := w4) (fun b hb => hgk b (HCW2.lt b hb).2 (fun e => (hkc b e).2.2.2 hb)))
          have hz4 := hgrew.size
          have HB4 := hid (hgrew.below (HB2.out.alloc HB2.out.size (.cells #[.int .i64 ((goalsF (goalF (begF n) h) (l.take j)).1.length : Int)] 3)) (by have := HB2.out.size; simp; omega) (fun b hb => by have := (HOW2.out.lt b hb).1; omega))
          refine ⟨fun k hk hF h13 => ⟨(hgrew.grown.block gb (by have := blk_lt HBX2.out; simp; omega) (fun e => (hkc _ e.symm).1 rfl)).trans (hF h13).1, (hgrew.grown.block ee (blk_lt (hF h13).2) (fun e => OwnF.ne_box (OwnF.below HOW2.out ((Below.refl _ _).alloc (Nat.le_refl _) _)) (hF h13).2 (by decide) e.symm)).trans (hF h13).2⟩, ?_⟩
          obtain ⟨va2, vc2, hv2, -, -⟩ := OwnF.val HO4.out
          rw [List.length_append, List.length_singleton] at hv2
          subst hv2
          clear hown2 hgrew hgk hkc HCW2
          try simp only [Act.put, List.setIfInBounds_toArray, List.set_cons_zero, List.set_cons_succ]
          refine wpAnyF_one (i := 7) (by kernel_rfl) (wpOp_run rfl (by rfl) ?_)
          go_simp
          refine ⟨fun _ _ h => h, ?_⟩
          obtain ⟨y0, y1, y2, y3, yf⟩ := blk4 HBX4.out
          have hgb4 := blk_lt HBX4.out
          refine wpAnyF_one (i := 8) (by kernel_rfl) (wpOp_run rfl (by rfl) ?_)
          go_simp
          refine ⟨fun k hk _ h1 => ?_, wpAnyF_done (by kernel_rfl) ?_ _⟩
          · rcases h1 with h1 | h1
            · subst h1; exact absurd (show waits _ 8 1 = true by kernel_rfl) (by rw [hk]; decide)
            · subst h1; exact absurd (show waits _ 8 3 = true by kernel_rfl) (by rw [hk]; decide)
          go_wp2_with fail
          go_roundw
          case rel =>
            have hgl : (goalsF (goalF (begF n) h) (l.take j)).2.length + 1 = ((goalsF (goalF (begF n) h) (l.take j)).2 ++ [((goalsF (goalF (begF n) h) (l.take j)).1.length : Int)]).length := by simp
            refine ⟨j + 1, cv2, .slice va2 ((goalsF (goalF (begF n) h) (l.take j)).2.length + 1) vc2, by omega, by go_num, ?_⟩
            rw [List.take_succ_eq_append_getElem HLT.out, goalsF_snoc, ← HT.out]
            refine ⟨HB4.out.setCell (by simp only; omega) _, ⟨?_, ?_, HM2.out.lt, HM2.out.len, ?_⟩, (blk_set HBX4.out 3 _).trans rfl, ?_, ?_, hgw, hgbw, hne1, hne2, hne3⟩
            · rw [Below.heap_setCell _ _ _ _ (by simp only; exact fun e => hne1 e.symm)]; exact HMB4.out
            · exact OwnF.kept HCW4.out (fun b hb => Below.heap_setCell _ _ _ _ (by simp only; exact fun e => OwnF.ne_box HCW4.out HBX4.out (by decide) (e ▸ hb)))
            · have := blk_lt HMB4.out; simp; omega
            · exact OwnF.kept HO4.out (fun b hb => Below.heap_setCell _ _ _ _ (by simp only; exact fun e => OwnF.ne_box HO4.out HBX4.out (by decide) (e ▸ hb)))
            · rw [Below.heap_setCell _ _ _ _ (by simp only; exact hne3)]; exact HRS4.out
          case measure => first | (simp [intOf]; done) | (simp [intOf]; omega)
        · have hje : j = l.length := by omega
          subst hje
          have hlt' : ¬ ((l.length : Int) < (l.length : Int)) := by omega
          obtain ⟨ca, cc, rfl, hcl, hcm⟩ := OwnF.val hmk.own
          obtain ⟨m0, mf⟩ := blk1 hmk.box
          obtain ⟨y0, y1, y2, y3, yf⟩ := blk4 hbox
          obtain ⟨r0, r1, r2, r3, rf⟩ := blk4 hres
          have hgg := blk_lt hmk.box
          have hrr := blk_lt hres
          clear hlt hbel hmk hbox hown hres hgsl
          rw [List.take_length] at CD
          have hxl : (goalsF (goalF (begF n) h) (l.take l.length)).1 = (goalsF (goalF (begF n) h) l).1 := by rw [List.take_length]
          have hgl : (goalsF (goalF (begF n) h) (l.take l.length)).2 = (goalsF (goalF (begF n) h) l).2 := by rw [List.take_length]
          rw [hxl] at m0 hcl
          rw [hgl] at y3 hnl
          clear hxl hgl
          obtain ⟨X, hX⟩ : ∃ X, X = goalsF (goalF (begF n) h) l := ⟨_, rfl⟩
          rw [← hX] at m0 hcl y3 hnl CD
          have HX := hid hX
          clear hX
          go_wp2_with fail
          have hch : Ch (fun b => b = gb ∨ b = rb) wr wr := Ch.refl _ _
          have HCH := (((((hch.setCell (p := ⟨gb, 0, none⟩) (.inl (.inl rfl)) (.slice ca X.1.length cc)).setCell (p := ⟨rb, 0, none⟩) (.inl (.inr rfl)) (.slice ca X.1.length cc)).setCell (p := ⟨rb, 1, none⟩) (.inl (.inr rfl)) (.int .i64 (n : Int))).setCell (p := ⟨rb, 2, none⟩) (.inl (.inr rfl)) (.int .i64 (n : Int))).setCell (p := ⟨rb, 3, none⟩) (.inl (.inr rfl)) (.slice na X.2.length nc))
          have hne3' : ¬ gb = rb := fun e => hne3 e.symm
          have c1 := CD.out.mkr.own
          have c2 := CD.out.own
          have c3 := CD.out.box
          have c4 := CD.out.res
          have hbF := Ch.below (Ch.trans (Ch.of_below (M := fun b => b = gb ∨ b = rb) CD.out.bel) HCH (fun _ h => .inl h)) (fun k hk e => by omega)
          refine bodyPost_ret (v := .tuple #[.agg #[.slice ca X.1.length cc, .int .i64 (n : Int), .int .i64 (n : Int), .slice na X.2.length nc], .int .i64 0]) (by simp [results, Try.results9, go_sem, hcs, r0, r1, r2, r3, y0, y1, y2, y3, hne3, hne3']; try rfl) rfl ?_
          rw [HQF.out]
          have hXl := HXL.out
          rw [← HX.out] at hXl
          refine Pure.mk hbF ⟨_, _, rfl, ?_, ?_⟩
          · show CesR _ _ (goalsF (goalF (begF n) h) l).1 _
            rw [← HX.out]
            exact OwnF.sl Ce.vals_len Ce.vals_one (OwnF.kept c1 (fun b hb => HCH.block b (c1.lt b hb).2 (fun e => by
              rcases e with e | e
              · exact OwnF.ne_box c1 c3 (by decide) (e ▸ hb)
              · exact OwnF.ne_box c1 c4 (by decide) (e ▸ hb)))) (by omega) (fun b hb => by have := (c1.lt b hb).1; unfold New; omega)
          · show NumsR _ _ (goalsF (goalF (begF n) h) l).2 _
            rw [← HX.out]
            have hl2 := goalsF_len2 l (goalF (begF n) h)
            rw [← HX.out] at hl2
            exact OwnF.sl numV_len numV_one (OwnF.kept c2 (fun b hb => HCH.block b (c2.lt b hb).2 (fun e => by
              rcases e with e | e
              · exact OwnF.ne_box c2 c3 (by decide) (e ▸ hb)
              · exact OwnF.ne_box c2 c4 (by decide) (e ▸ hb)))) (by omega) (fun b hb => by have := (c2.lt b hb).1; unfold New; omega)
end Go.Proofs.Ytlpmfkpefoegeab
