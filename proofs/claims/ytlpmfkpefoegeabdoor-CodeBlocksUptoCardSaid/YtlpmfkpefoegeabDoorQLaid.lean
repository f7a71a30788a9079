/-
  Terms as blocks of cells, as the document's own answer has them: laid.
-/
import Derived.Test.YtlpmfkpefoegeabDoorQMakerG
namespace Go.Proofs.YtlpmfkpefoegeabDoor
set_option linter.unusedVariables false
set_option linter.unusedSimpArgs false
open Go.RowKit

/-- an argument's cell at first -/
def argC (x : Tm) : Ce := if x.kind = 3 then ⟨0, -1, ByteArray.empty⟩ else ⟨x.kind, x.n, x.s⟩
/-- a cell's number turned -/
def setN (c : List Ce) (k : Nat) (n : Int) : List Ce := c.modify k fun y => { y with n := n }
theorem setN_len (c : List Ce) (k : Nat) (n : Int) : (setN c k n).length = c.length := by simp [setN]
theorem setN_set {c : List Ce} {k : Nat} (n : Int) (h : k < c.length) : setN c k n = c.set k { c[k] with n := n } := by
  apply List.ext_getElem (by simp [setN])
  intro i h1 h2
  simp only [setN, List.getElem_modify, List.getElem_set]
  by_cases e : k = i
  · subst e; simp
  · simp [e]

mutual
def laidF : List Ce → Tm → List Ce
  | c, .mk kd n s l => if kd = 1 then c ++ [⟨1, 0, s⟩] else if kd = 2 then c ++ [⟨2, n, ByteArray.empty⟩] else laidLF (c ++ (⟨3, (l.length : Int), s⟩ : Ce) :: l.map argC) (c.length + 1) l
def laidLF : List Ce → Nat → List Tm → List Ce
  | c, _, [] => c
  | c, k, x :: r => laidLF (if x.kind = 3 then laidF (setN c k (c.length : Int)) x else c) (k + 1) r
end

theorem laidLF_snoc : ∀ (r : List Tm) (c : List Ce) (k : Nat) (t : Tm), laidLF c k (r ++ [t]) = if t.kind = 3 then laidF (setN (laidLF c k r) (k + r.length) ((laidLF c k r).length : Int)) t else laidLF c k r
  | [], c, k, t => by simp [laidLF]
  | x :: r, c, k, t => by
    rw [List.cons_append, laidLF, laidLF_snoc r, laidLF, List.length_cons, show k + 1 + r.length = k + (r.length + 1) by omega]

theorem laid_len : ∀ (t : Tm) (c : List Ce), c.length ≤ (laidF c t).length ∧ (laidF c t).length + 1 ≤ c.length + 2 * t.nodes := by
  intro t
  induction t using Tm.induct with
  | h kd n s l ih =>
    intro c
    have hL : ∀ (r : List Tm), (∀ t ∈ r, t ∈ l) → ∀ (c : List Ce) (k : Nat), c.length ≤ (laidLF c k r).length ∧ (laidLF c k r).length + r.length ≤ c.length + 2 * Tm.nodesL r := by
      intro r
      induction r with
      | nil => intro _ c k; simp [laidLF, Tm.nodesL]
      | cons x r ihr =>
        intro hr c k
        have h1 := ihr (fun t ht => hr t (by simp [ht])) (if x.kind = 3 then laidF (setN c k (c.length : Int)) x else c) (k + 1)
        have h2 := ih x (hr x (by simp)) (setN c k (c.length : Int))
        rw [setN_len] at h2
        have hp : 1 ≤ x.nodes := by cases x; simp [Tm.nodes]
        simp only [laidLF, Tm.nodesL, List.length_cons]
        split
        · rename_i hk
          rw [if_pos hk] at h1
          omega
        · rename_i hk
          rw [if_neg hk] at h1
          omega
    have := hL l (fun _ h => h) (c ++ (⟨3, (l.length : Int), s⟩ : Ce) :: l.map argC) (c.length + 1)
    simp only [List.length_append, List.length_cons, List.length_map] at this
    simp only [laidF, Tm.nodes]
    split
    · simp; omega
    split
    · simp; omega
    · omega

theorem laidL_len : ∀ (r : List Tm) (c : List Ce) (k : Nat), c.length ≤ (laidLF c k r).length ∧ (laidLF c k r).length + r.length ≤ c.length + 2 * Tm.nodesL r
  | [], c, k => by simp [laidLF, Tm.nodesL]
  | x :: r, c, k => by
    have h1 := laidL_len r (if x.kind = 3 then laidF (setN c k (c.length : Int)) x else c) (k + 1)
    have h2 := laid_len x (setN c k (c.length : Int))
    rw [setN_len] at h2
    have hp : 1 ≤ x.nodes := by cases x; simp [Tm.nodes]
    simp only [laidLF, Tm.nodesL, List.length_cons]
    split
    · rename_i hk
      rw [if_pos hk] at h1
      omega
    · rename_i hk
      rw [if_neg hk] at h1
      omega

/-- what a step on one's own cells comes to -/
def LSt (base : Nat) (cv : Value) (w : World) (l : List Ce) (cv' : Value) (w' : World) : Prop :=
  OwnC w' base l cv' ∧ Ch (fun b => ownB cv = some b) w w' ∧ (∀ b, ownB cv' = some b → ownB cv = some b ∨ w.heap.size ≤ b)

theorem LSt.trans {base : Nat} {cv cv1 cv2 : Value} {w w1 w2 : World} {l1 l2 : List Ce} (h : LSt base cv w l1 cv1 w1) (k : LSt base cv1 w1 l2 cv2 w2) : LSt base cv w l2 cv2 w2 :=
  ⟨k.1, h.2.1.trans k.2.1 (fun x hx => h.2.2 x hx), fun b hb => (k.2.2 b hb).elim (fun e => h.2.2 b e) (fun e => .inr (Nat.le_trans h.2.1.size e))⟩
theorem LSt.below {base : Nat} {cv cv1 : Value} {w w1 w2 : World} {l1 : List Ce} (h : LSt base cv w l1 cv1 w1) (k : Below w1.heap.size w1 w2) : LSt base cv w l1 cv1 w2 :=
  ⟨OwnF.below h.1 k, h.2.1.then_below k, h.2.2⟩
theorem LSt.of_below {base : Nat} {cv cv1 : Value} {w w1 w2 : World} {l1 : List Ce} (k : Below w.heap.size w w1) (h : LSt base cv w1 l1 cv1 w2) : LSt base cv w l1 cv1 w2 :=
  ⟨h.1, (Ch.of_below (M := fun b => ownB cv = some b) k).trans h.2.1 (fun x hx => .inl hx), fun b hb => (h.2.2 b hb).imp id (fun e => Nat.le_trans k.size e)⟩

/-- one's own cells grown by append -/
theorem lst_app {base : Nat} {cv v2 : Value} {l : List Ce} {w w2 : World} {c : Ce} {cells : Array Value} (h1 : OwnC w2 base (l ++ [c]) v2) (hg : Grew (w.alloc (.cells cells 80)) w2 cv v2) :
    LSt base cv w (l ++ [c]) v2 w2 := by
  refine ⟨h1, hg.ch ((Ch.refl _ _).alloc _) (fun b hb => .inl hb), fun b hb => ?_⟩
  rcases hg.block with h | h
  · exact .inl (by rw [← h]; exact hb)
  · have := h b hb
    simp only [World.size_alloc] at this
    exact .inr (by omega)

/-- a number in one's own cells turned -/
theorem lst_set {base cb cc k : Nat} {l : List Ce} {w : World} (h : OwnC w base l (.slice (some ⟨cb, 0, none⟩) l.length cc)) (hob : ownB (.slice (some ⟨cb, 0, none⟩) l.length cc) = some cb) (hk : k < l.length) (n : Int) (hn : I64 n) :
    LSt base (.slice (some ⟨cb, 0, none⟩) l.length cc) w (setN l k n) (.slice (some ⟨cb, 0, none⟩) l.length cc) (w.setCell ⟨cb, k * 3 + 1, none⟩ (.int .i64 n)) := by
  obtain ⟨_, _, _, _, _, _, hok, -⟩ := OwnC.cell h hk
  have o2 := OwnF.set (u := .int .i64 n) Ce.vals_len h hob hk (j := 1) (by omega) (y := { l[k] with n := n }) (by simp [Ce.vals]) ⟨hok.1, hn, hok.2.2⟩
  rw [setN_set n hk]
  exact ⟨o2, (Ch.refl _ _).setCell (p := ⟨cb, k * 3 + 1, none⟩) (.inl hob) _, fun b hb => .inl hb⟩

def LaidOK (t : Tm) : Prop := ∀ (base : Nat) (l : List Ce) (cv : Value) (A : Nat → Prop) (w : World) (vs : List Value), OwnC w base l cv → base ≤ w.heap.size → l.length + 2 * t.nodes ≤ 4194304 → Tm.rep A w t vs → (∀ b, A b → b < w.heap.size ∧ ownB cv ≠ some b) →
  Calls Tryd.prog 87 #[cv, .agg vs.toArray] w (fun e w' => ∃ cv', e = .returned (.tuple #[cv', .int .i64 (l.length : Int)]) ∧ LSt base cv w (laidF l t) cv' w')

set_option maxHeartbeats 4000000 in
theorem laid_of (kd n : Int) (s : ByteArray) (tl : List Tm) (ih : ∀ t ∈ tl, LaidOK t) : LaidOK (.mk kd n s tl) := by
  intro base l cv A w vs hm hbw hlen hv hA
  rw [Tm.rep_iff] at hv
  obtain ⟨hkd, hn, hs, v, rfl, hl⟩ := hv
  obtain ⟨a, cap, b, off, rfl, hlc, hcm, htl, ha, he⟩ := hl.at
  obtain ⟨ca, cc, rfl, hcc, hccm⟩ := OwnF.val hm
  have HM := hid hm
  have HA := hid hA
  have HE := hid he
  have HTA := hid ha
  have IH := hid ih
  simp only [Tm.nodes] at hlen
  have hnl := nodesL_ge tl
  have HS := hid hs
  have HN := hid hn
  have hll : l.length + 1 + tl.length ≤ 4194304 := by omega
  have e0 : ByteArray.empty.size ≤ 1048576 := by decide
  obtain ⟨O, hO⟩ : ∃ O, O = Obj.cells #[.int .i64 kd, .int .i64 n, .string s, .slice a tl.length cap] 31 (0, 0) := ⟨_, rfl⟩
  have HOW := hid (OwnF.ownR Ce.vals_len (OwnF.below hm ((Below.refl _ _).alloc (Nat.le_refl _) O)) (fun _ => True))
  have HOC := hid (OwnF.below hm ((Below.refl _ _).alloc (Nat.le_refl _) O))
  have HBW := hid ((Below.refl w.heap.size w).alloc (Nat.le_refl _) O)
  have HX := hid (blk_new w (.cells #[.int .i64 kd, .int .i64 n, .string s, .slice a tl.length cap] 31))
  rw [hO] at HOW HBW HOC
  have hz0 : (w.alloc (.cells #[.int .i64 kd, .int .i64 n, .string s, .slice a tl.length cap] 31)).heap.size = w.heap.size + 1 := by simp
  clear hm hA he ha ih hl hO hs hn
  by_cases h1 : kd = 1
  · subst h1
    have HP := hid (show laidF l (.mk 1 n s tl) = l ++ [⟨1, 0, s⟩] by simp [laidF])
    go_enter Tryd.func87, Tryd.ntmps87
    go_wp2_with (at_builtin; go_must (refine wpList_app1 rfl (.tmp 18) (.tmp 22) 47 rfl base 80 3 32 tyCells Ce.rep_lasts (A := fun _ => True) (.slice ca l.length cc) l rfl HOW.out ⟨1, 0, s⟩ [.int .i64 1, .int .i64 0, .string s] (by simp only [World.size_alloc]; rfl) rfl ⟨⟨by unfold I64; simp only; omega, by unfold I64; simp only; omega, HS.out⟩, rfl⟩ ⟨by omega, by simp; omega⟩ ?_); go_must (intro v2 w2 hown hgrew; have HO2 := hid (OwnF.of_ownR hown); obtain ⟨va2, vc2, hv2, hvl2, hvm2⟩ := OwnF.val HO2.out; rw [List.length_append, List.length_singleton] at hv2; subst hv2; have HG2 := hid hgrew; clear hown hgrew))
    go_ret2
    exact ⟨_, rfl, by rw [HP.out]; exact LSt.of_below HBW.out (lst_app HO2.out HG2.out)⟩
  by_cases h2 : kd = 2
  · subst h2
    have HP := hid (show laidF l (.mk 2 n s tl) = l ++ [⟨2, n, ByteArray.empty⟩] by simp [laidF])
    go_enter Tryd.func87, Tryd.ntmps87
    go_wp2_with (at_builtin; go_must (refine wpList_app1 rfl (.tmp 27) (.tmp 31) 47 rfl base 80 3 32 tyCells Ce.rep_lasts (A := fun _ => True) (.slice ca l.length cc) l rfl HOW.out ⟨2, n, ByteArray.empty⟩ [.int .i64 2, .int .i64 n, .string ByteArray.empty] (by simp only [World.size_alloc]; rfl) rfl ⟨⟨by unfold I64; simp only; omega, HN.out, e0⟩, rfl⟩ ⟨by omega, by simp; omega⟩ ?_); go_must (intro v2 w2 hown hgrew; have HO2 := hid (OwnF.of_ownR hown); obtain ⟨va2, vc2, hv2, hvl2, hvm2⟩ := OwnF.val HO2.out; rw [List.length_append, List.length_singleton] at hv2; subst hv2; have HG2 := hid hgrew; clear hown hgrew))
    go_ret2
    exact ⟨_, rfl, by rw [HP.out]; exact LSt.of_below HBW.out (lst_app HO2.out HG2.out)⟩
  have q1 : (kd == 1) = false := by simpa using h1
  have q2 : (kd == 2) = false := by simpa using h2
  have HP := hid (show laidF l (.mk kd n s tl) = laidLF (l ++ (⟨3, (tl.length : Int), s⟩ : Ce) :: tl.map argC) (l.length + 1) tl by simp [laidF, h1, h2])
  have HOWB := hid (fun b (hb : ownB (.slice ca l.length cc) = some b) => HM.out.lt b hb)
  have HXB := hid (fun (W : World) (h : Ch (fun b => ownB (.slice ca l.length cc) = some b) (w.alloc (.cells #[.int .i64 kd, .int .i64 n, .string s, .slice a tl.length cap] 31)) W) => (h.block w.heap.size (by simp) (fun e => by have := (HOWB.out _ e).2; omega)).trans HX.out)
  clear h1 h2
  go_enter Tryd.func87, Tryd.ntmps87
  go_wp2_with (at_builtin; go_must (refine wpList_app1 rfl (.tmp 34) (.tmp 41) 47 rfl base 80 3 32 tyCells Ce.rep_lasts (A := fun _ => True) (.slice ca l.length cc) l rfl HOW.out ⟨3, (tl.length : Int), s⟩ [.int .i64 3, .int .i64 (tl.length : Int), .string s] (by simp only [World.size_alloc]; rfl) rfl ⟨⟨by unfold I64; simp only; omega, by unfold I64; simp only; omega, HS.out⟩, rfl⟩ ⟨by omega, by simp; omega⟩ ?_); go_must (intro v2 w2 hown hgrew; have HO2 := hid (OwnF.of_ownR hown); have HL2 := hid (lst_app HO2.out hgrew); obtain ⟨va2, vc2, hv2, hvl2, hvm2⟩ := OwnF.val HO2.out; rw [List.length_append, List.length_singleton] at hv2; subst hv2; obtain ⟨x0, x1, x2, x3, xf⟩ := blk4 (HXB.out _ HL2.out.2.1); clear hown hgrew))
  clear x0 x1 x2 x3 xf
  go_loopw [0, 46] (fun cv1 i W => ∃ j : Nat, j ≤ tl.length ∧ i = .int .i64 (j : Int) ∧ LSt base (.slice ca l.length cc) (w.alloc (.cells #[.int .i64 kd, .int .i64 n, .string s, .slice a tl.length cap] 31)) (l ++ (⟨3, (tl.length : Int), s⟩ : Ce) :: (tl.take j).map argC) cv1 W) (fun _ i _ => tl.length - (intOf i).toNat)
  case atStart => exact ⟨0, Nat.zero_le _, rfl, HL2.out⟩
  case round =>
    obtain ⟨j, hj, rfl, hst⟩ := hrel
    have HST := hid hst
    have hzc := hst.2.1.size
    obtain ⟨x0, x1, x2, x3, xf⟩ := blk4 (HXB.out _ hst.2.1)
    obtain ⟨c1a, c1c, rfl, hl1, hm1c⟩ := OwnF.val hst.1
    have hl1l : (l ++ (⟨3, (tl.length : Int), s⟩ : Ce) :: (tl.take j).map argC).length = l.length + 1 + j := by simp; omega
    rw [hl1l] at hl1 hst HST ⊢
    simp only [World.size_alloc] at hzc
    by_cases hlt : j < tl.length
    · obtain ⟨rfl, hAb⟩ := HTA.out (by omega)
      have HKA := hid (show Keeps A w wr from (Keeps.of_below HBW.out).trans (hst.2.1.keeps (A := A) (fun b _ hb => (HA.out b hb).2)))
      obtain ⟨sa, sc, d0, d1, d2, d3, hr⟩ := tm_cells HE.out hAb HKA.out hlt
      have hlt' : (j : Int) < (tl.length : Int) := by omega
      have hj0 : (0 : Int) ≤ (j : Int) := Int.natCast_nonneg _
      have hlen1 : (l ++ (⟨3, (tl.length : Int), s⟩ : Ce) :: (tl.take j).map argC).length < 4194304 := by omega
      obtain ⟨x, hx⟩ : ∃ x, x = tl[j]'hlt := ⟨_, rfl⟩
      rw [← hx] at d0 d1 d2 d3 hr
      obtain ⟨_, _, -, hxk, hxn, hxs, -⟩ := Tm.rep4 hr
      have HXT := hid hx
      have HLT := hid hlt
      have HXO := hid (show I64 x.kind ∧ I64 x.n ∧ x.s.size ≤ 1048576 from ⟨hxk, hxn, hxs⟩)
      clear hr hx hst hxk hxn hxs x0 x1 x2 x3 xf
      by_cases hk3 : x.kind = 3
      · have HAC := hid (show argC x = ⟨0, -1, ByteArray.empty⟩ by simp [argC, hk3])
        have hkb : (x.kind == 3) = true := by simpa using hk3
        have HBB := hid (((Below.refl wr.heap.size wr).alloc (Nat.le_refl _) (.cells #[.int .i64 x.kind, .int .i64 x.n, .string x.s, .slice sa x.args.length sc] 31)).alloc (by simp) (.cells #[.int .i64 0, .int .i64 (-1), .string ⟨#[]⟩] 80))
        have HOR := hid (OwnF.ownR Ce.vals_len (OwnF.below HST.out.1 HBB.out) (fun _ => True))
        have hcs := cell_set
        have hbw1 : base ≤ wr.heap.size := by omega
        clear hk3
        go_wp2_with (at_builtin; go_must (refine wpList_app1 rfl (.tmp 61) (.tmp 63) 47 rfl base 80 3 32 tyCells Ce.rep_lasts (A := fun _ => True) (.slice c1a (l.length + 1 + j) c1c) (l ++ (⟨3, (tl.length : Int), s⟩ : Ce) :: (tl.take j).map argC) rfl HOR.out ⟨0, -1, ByteArray.empty⟩ [.int .i64 0, .int .i64 (-1), .string ⟨#[]⟩] (by simp only [World.size_alloc, World.size_setCell]; rfl) rfl ⟨⟨by unfold I64; simp only; omega, by unfold I64; simp only; omega, e0⟩, rfl⟩ ⟨hlen1, by simp; omega⟩ ?_); go_must (intro v2 w2 hown hgrew; have HO2 := hid (OwnF.of_ownR hown); have HL2 := hid (LSt.trans (HST.out.below HBB.out) (lst_app HO2.out hgrew)); obtain ⟨va2, vc2, hv2, hvl2, hvm2⟩ := OwnF.val HO2.out; rw [List.length_append, List.length_singleton, hl1l] at hv2; subst hv2; clear hown hgrew))
        go_roundw
        case rel =>
          refine ⟨j + 1, by omega, by go_num, ?_⟩
          have := HL2.out
          rw [List.append_assoc, List.cons_append, ← HAC.out, HXT.out] at this
          rw [List.take_succ_eq_append_getElem HLT.out, List.map_append]
          exact this
        case measure => first | (simp [intOf]; done) | (simp [intOf]; omega)
      · have HAC := hid (show argC x = ⟨x.kind, x.n, x.s⟩ by simp [argC, hk3])
        have hkb : (x.kind == 3) = false := by simpa using hk3
        have HBB := hid (((Below.refl wr.heap.size wr).alloc (Nat.le_refl _) (.cells #[.int .i64 x.kind, .int .i64 x.n, .string x.s, .slice sa x.args.length sc] 31)).alloc (by simp) (.cells #[.int .i64 x.kind, .int .i64 x.n, .string x.s] 80))
        have HOR := hid (OwnF.ownR Ce.vals_len (OwnF.below HST.out.1 HBB.out) (fun _ => True))
        have hbw1 : base ≤ wr.heap.size := by omega
        clear hk3
        go_wp2_with (at_builtin; go_must (refine wpList_app1 rfl (.tmp 61) (.tmp 63) 47 rfl base 80 3 32 tyCells Ce.rep_lasts (A := fun _ => True) (.slice c1a (l.length + 1 + j) c1c) (l ++ (⟨3, (tl.length : Int), s⟩ : Ce) :: (tl.take j).map argC) rfl HOR.out ⟨x.kind, x.n, x.s⟩ [.int .i64 x.kind, .int .i64 x.n, .string x.s] (by simp only [World.size_alloc, World.size_setCell]; rfl) rfl ⟨HXO.out, rfl⟩ ⟨hlen1, by simp; omega⟩ ?_); go_must (intro v2 w2 hown hgrew; have HO2 := hid (OwnF.of_ownR hown); have HL2 := hid (LSt.trans (HST.out.below HBB.out) (lst_app HO2.out hgrew)); obtain ⟨va2, vc2, hv2, hvl2, hvm2⟩ := OwnF.val HO2.out; rw [List.length_append, List.length_singleton, hl1l] at hv2; subst hv2; clear hown hgrew))
        go_roundw
        case rel =>
          refine ⟨j + 1, by omega, by go_num, ?_⟩
          have := HL2.out
          rw [List.append_assoc, List.cons_append, ← HAC.out, HXT.out] at this
          rw [List.take_succ_eq_append_getElem HLT.out, List.map_append]
          exact this
        case measure => first | (simp [intOf]; done) | (simp [intOf]; omega)
    · have hje : j = tl.length := by omega
      subst hje
      have hlt' : ¬ ((tl.length : Int) < (tl.length : Int)) := by omega
      obtain ⟨c1, hc1e⟩ : ∃ c1, c1 = l ++ (⟨3, (tl.length : Int), s⟩ : Ce) :: tl.map argC := ⟨_, rfl⟩
      have hc1l : c1.length = l.length + 1 + tl.length := by rw [hc1e]; simp; omega
      rw [List.take_length, ← hc1e] at HST
      rw [← hc1e] at HP
      clear hst hc1e hl1l hlt
      go_wp2_with fail
      clear x0 x1 x2 x3 xf hzc
      go_loopw [0, 69] (fun cv1 i W => ∃ j : Nat, j ≤ tl.length ∧ i = .int .i64 (j : Int) ∧ LSt base (.slice ca l.length cc) (w.alloc (.cells #[.int .i64 kd, .int .i64 n, .string s, .slice a tl.length cap] 31)) (laidLF c1 (l.length + 1) (tl.take j)) cv1 W) (fun _ i _ => tl.length - (intOf i).toNat)
      case atStart => exact ⟨0, Nat.zero_le _, rfl, by rw [List.take_zero, laidLF]; exact HST.out⟩
      case round =>
        obtain ⟨j, hj, rfl, hst⟩ := hrel
        have HST1 := hid hst
        have hzc := hst.2.1.size
        simp only [World.size_alloc] at hzc
        by_cases hlt : j < tl.length
        · obtain ⟨rfl, hAb⟩ := HTA.out (by omega)
          have HKA := hid (show Keeps A w wr from (Keeps.of_below HBW.out).trans (hst.2.1.keeps (A := A) (fun b _ hb => (HA.out b hb).2)))
          obtain ⟨sa, sc, d0, d1, d2, d3, hr⟩ := tm_cells HE.out hAb HKA.out hlt
          have hlt' : (j : Int) < (tl.length : Int) := by omega
          have hj0 : (0 : Int) ≤ (j : Int) := Int.natCast_nonneg _
          have hl1 := laidL_len (tl.take j) c1 (l.length + 1)
          have hnj := nodesL_at tl j hlt
          have htk : (tl.take j).length = j := by rw [List.length_take]; omega
          have hll2 : (laidLF c1 (l.length + 1) (tl.take j)).length + 2 * (tl[j]'hlt).nodes ≤ 4194304 := by omega
          obtain ⟨x, hx⟩ : ∃ x, x = tl[j]'hlt := ⟨_, rfl⟩
          have hmem : x ∈ tl := by rw [hx]; exact List.getElem_mem _
          rw [← hx] at d0 d1 d2 d3 hr hll2
          have HXT := hid hx
          have HLT := hid hlt
          have HR := hid hr
          have HIH := hid (IH.out x hmem)
          have HSN := hid (show laidLF c1 (l.length + 1) (tl.take (j + 1)) = if x.kind = 3 then laidF (setN (laidLF c1 (l.length + 1) (tl.take j)) (l.length + 1 + j) ((laidLF c1 (l.length + 1) (tl.take j)).length : Int)) x else laidLF c1 (l.length + 1) (tl.take j) by
            rw [List.take_succ_eq_append_getElem hlt, laidLF_snoc, ← hx, htk])
          have hk2 : l.length + 1 + j < (laidLF c1 (l.length + 1) (tl.take j)).length := by omega
          obtain ⟨d, hd⟩ : ∃ d, d = laidLF c1 (l.length + 1) (tl.take j) := ⟨_, rfl⟩
          rw [← hd] at HST1 hll2 HSN hk2 hst
          obtain ⟨c2a, c2c, rfl, hl2, hm2c⟩ := OwnF.val hst.1
          have HB1 := hid ((Below.refl wr.heap.size wr).alloc (Nat.le_refl _) (.cells #[.int .i64 x.kind, .int .i64 x.n, .string x.s, .slice sa x.args.length sc] 31))
          have HOC2 := hid (OwnF.below hst.1 HB1.out)
          have HLL2 := hid hll2
          clear hr hx hmem hst hnj hl1 hd hll2
          by_cases hk3 : x.kind = 3
          · have hkb : (x.kind == 3) = true := by simpa using hk3
            rw [if_pos hk3] at HSN
            obtain ⟨cb, rfl, hob, e1, e2, e3, hok, hfz, hcb, hcbase⟩ := OwnC.cell HOC2.out hk2
            have hcs := cell_set
            have HSET := hid (lst_set HOC2.out hob hk2 (d.length : Int) (by unfold I64; have := HLL2.out; omega))
            have hdi : (l.length : Int) + 1 + (j : Int) < (d.length : Int) := by omega
            have hdn : ((l.length : Int) + 1 + (j : Int)).toNat = l.length + 1 + j := by omega
            have hdl : d.length ≤ 4194304 := by have := HLL2.out; omega
            have HFR := hid hfz
            have hne : wr.heap.size ≠ cb := by
              have := (HST1.out.1.lt cb hob).2
              omega
            clear hk3 hok
            have HNA := hid (show ∀ b, A b → ¬ ownB (.slice (some ⟨cb, 0, none⟩) d.length c2c) = some b from fun b hb e => by
              rcases HST1.out.2.2 b e with e | e
              · exact (HA.out b hb).2 e
              · have := (HA.out b hb).1
                simp only [World.size_alloc] at e
                omega)
            go_wp2_with fail
            have hKW := (Keeps.alloc A wr (.cells #[.int .i64 x.kind, .int .i64 x.n, .string x.s, .slice sa x.args.length sc] 31)).trans (HSET.out.2.1.keeps (A := A) (fun b _ hb => HNA.out b hb))
            refine (HIH.out base (setN d (l.length + 1 + j) (d.length : Int)) (.slice (some ⟨cb, 0, none⟩) d.length c2c) A _ [_, _, _, _] HSET.out.1 (by simp; omega) (by rw [setN_len]; exact HLL2.out) (Tm.rep_lasts.1 _ _ _ _ _ HR.out hKW) (fun b hb => ⟨by have := (HA.out b hb).1; simp; omega, HNA.out b hb⟩)).mono ?_
            rintro e w3 ⟨cv3, rfl, hst3⟩
            have HS3 := hid (LSt.trans (HST1.out.below HB1.out) (LSt.trans HSET.out hst3))
            clear hst3 d0 d1 d2 d3 e1 e2 e3 hKW
            go_wp2_with fail
            go_roundw
            case rel => exact ⟨j + 1, by omega, by go_num, by rw [HSN.out]; exact HS3.out⟩
            case measure => first | (simp [intOf]; done) | (simp [intOf]; omega)
          · have hkb : (x.kind == 3) = false := by simpa using hk3
            rw [if_neg hk3] at HSN
            clear hk3
            go_wp2_with fail
            go_roundw
            case rel => exact ⟨j + 1, by omega, by go_num, by rw [HSN.out]; exact HST1.out.below HB1.out⟩
            case measure => first | (simp [intOf]; done) | (simp [intOf]; omega)
        · have hje : j = tl.length := by omega
          subst hje
          have hlt' : ¬ ((tl.length : Int) < (tl.length : Int)) := by omega
          have hst2 := hst
          rw [List.take_length, ← HP.out] at hst2
          have HFIN := hid hst2
          obtain ⟨c2a, c2c, rfl, hl2, hm2c⟩ := OwnF.val hst2.1
          clear hst hst2 hlt
          go_wp2_with fail
          go_ret2
          exact ⟨_, rfl, LSt.of_below HBW.out HFIN.out⟩

theorem laid_ok : ∀ t, LaidOK t := by
  intro t
  induction t using Tm.induct with
  | h k n s l ih => exact laid_of k n s l ih
end Go.Proofs.YtlpmfkpefoegeabDoor
