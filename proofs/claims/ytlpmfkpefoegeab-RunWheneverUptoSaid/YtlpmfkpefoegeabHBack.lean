/-
  What Undo, Cut and Term answer, in plain data.
-/
import Derived.Test.YtlpmfkpefoegeabQCopyHeap
import Derived.Test.YtlpmfkpefoegeabHGc
import Derived.Test.YtlpmfkpefoegeabHLoad
import Derived.Test.YtlpmfkpefoegeabPSolve
namespace Go.Proofs.Ytlpmfkpefoegeab
set_option linter.unusedVariables false
set_option linter.unusedSimpArgs false
open Go.RowKit
theorem OwnF.ne_box {α : Type} {f : α → List Value} {ok : α → Prop} {E E' : TypeId} {size base : Nat} {w : World} {l : List α} {v : Value} {g : Nat} {c : Array Value} {fr : Nat × Nat}
    (h : OwnF f ok E size w base l v) (hb : w.heap[g]? = some (.cells c E' fr)) (hE : E ≠ E') : ownB v ≠ some g := by
  intro hk
  rcases h.1.2 with ⟨_, a, rfl⟩ | ⟨g', cap, cur, rfl, hc, hb', hg, _⟩
  · cases a <;> simp [ownB] at hk
  · simp only [ownB, Nat.pos_iff_ne_zero.1 hc, if_false, Option.some.injEq] at hk
    subst hk
    rw [hg] at hb
    simp only [Option.some.injEq, Obj.cells.injEq] at hb
    exact hE hb.2.1
theorem box3 {w : World} {g : Nat} {E : TypeId} {v0 v1 v2 : Value} (h : w.heap[g]? = some (.cells #[v0, v1, v2] E (0, 0))) :
    w.cell? ⟨g, 0, none⟩ = some v0 ∧ w.cell? ⟨g, 1, none⟩ = some v1 ∧ w.cell? ⟨g, 2, none⟩ = some v2 ∧ ∀ o, w.frozen? ⟨g, o, none⟩ = false :=
  ⟨(blk_cell h 0).trans rfl, (blk_cell h 1).trans rfl, (blk_cell h 2).trans rfl, fun o => by simp [World.frozen?, h]⟩
def UInv (g base : Nat) (cv tv : Value) (l : List Ce) (t : List Int) (k : Int) (w : World) : Prop :=
  w.heap[g]? = some (.cells #[cv, tv, .int .i64 k] 115 (0, 0)) ∧ OwnC w base l cv ∧ OwnN w base t tv ∧ base ≤ g ∧ l.length ≤ 65536 ∧ (t.length : Int) + k ≤ 70000 ∧ -1 ≤ k ∧ k ≤ 400
section
variable {g base : Nat} {cv tv : Value} {l : List Ce} {t : List Int} {k : Int} {w : World}
theorem UInv.lt (h : UInv g base cv tv l t k w) : g < w.heap.size ∧ base ≤ g ∧ base ≤ w.heap.size := by
  obtain ⟨h1, _, _, h2, _⟩ := h
  have := blk_lt h1
  omega
theorem UInv.keeps {w' : World} (h : UInv g base cv tv l t k w) (hg : w'.heap[g]? = w.heap[g]?) (hc : ∀ b, ownB cv = some b → w'.heap[b]? = w.heap[b]?) (ht : ∀ b, ownB tv = some b → w'.heap[b]? = w.heap[b]?) : UInv g base cv tv l t k w' := by
  obtain ⟨h1, h2, h3, h4⟩ := h
  exact ⟨hg.trans h1, h2.kept hc, h3.kept ht, h4⟩
theorem UInv.below {w' : World} (h : UInv g base cv tv l t k w) (hb : Below w.heap.size w w') : UInv g base cv tv l t k w' :=
  h.keeps (hb.block _ h.lt.1) (fun b e => hb.block _ (h.2.1.lt b e).2) (fun b e => hb.block _ (h.2.2.1.lt b e).2)
theorem UInv.vals (h : UInv g base cv tv l t k w) : ∃ ca cc ta tc, cv = .slice ca l.length cc ∧ tv = .slice ta t.length tc ∧ l.length ≤ cc ∧ cc ≤ maxLen ∧ t.length ≤ tc ∧ tc ≤ maxLen := by
  obtain ⟨h1, h2, h3, h4⟩ := h
  obtain ⟨ca, cc, rfl, e1, e2⟩ := OwnF.val h2
  obtain ⟨ta, tc, rfl, e3, e4⟩ := OwnF.val h3
  exact ⟨ca, cc, ta, tc, rfl, rfl, e1, e2, e3, e4⟩
theorem UInv.rep (h : UInv g base cv tv l t k w) : Hp.rep (fun _ => True) w ⟨l, t⟩ [cv, tv] := by
  obtain ⟨h1, h2, h3, h4, h5, h6, h7, h8⟩ := h
  exact ⟨cv, tv, rfl, OwnF.sl Ce.vals_len Ce.vals_one h2 (by omega) (fun _ _ => trivial), OwnF.sl numV_len numV_one h3 (by omega) (fun _ _ => trivial)⟩
theorem UInv.turn {k' : Int} (h : UInv g base cv tv l t k w) (h1 : -1 ≤ k') (h2 : k' ≤ k) : UInv g base cv tv l t k' (w.setCell ⟨g, 2, none⟩ (.int .i64 k')) := by
  obtain ⟨e1, e2, e3, e4, e5, e6, e7, e8⟩ := h
  refine ⟨(blk_set e1 2 _).trans rfl, e2.kept fun b hb => ?_, e3.kept fun b hb => ?_, e4, e5, by omega, by omega, by omega⟩
  · exact Below.heap_setCell _ _ _ _ (fun e => OwnF.ne_box e2 e1 (by decide) (hb.trans (congrArg some e)))
  · exact Below.heap_setCell _ _ _ _ (fun e => OwnF.ne_box e3 e1 (by decide) (hb.trans (congrArg some e)))
end
theorem ch_box (g o : Nat) (w : World) (u : Value) : Ch (fun b => b = g) w (w.setCell ⟨g, o, none⟩ u) := (Ch.refl (fun b => b = g) w).setCell (p := ⟨g, o, none⟩) (Or.inl (show g = g from rfl)) u
theorem Ch.set_box {w w' : World} {g : Nat} (h : Ch (fun b => b = g) w w') (o : Nat) (u : Value) : Ch (fun b => b = g) w (w'.setCell ⟨g, o, none⟩ u) := h.setCell (p := ⟨g, o, none⟩) (Or.inl (show g = g from rfl)) u
theorem OwnC.cell {w : World} {base : Nat} {l : List Ce} {ca : Option Addr} {cc : Nat} (h : OwnC w base l (.slice ca l.length cc)) {i : Nat} (hi : i < l.length) :
    ∃ b, ca = some ⟨b, 0, none⟩ ∧ ownB (.slice ca l.length cc) = some b ∧ w.cell? ⟨b, i * 3, none⟩ = some (.int .i64 l[i].kind) ∧ w.cell? ⟨b, i * 3 + 1, none⟩ = some (.int .i64 l[i].n) ∧ w.cell? ⟨b, i * 3 + 2, none⟩ = some (.string l[i].s) ∧
      l[i].Ok ∧ (∀ o, w.frozen? ⟨b, o, none⟩ = false) ∧ b < w.heap.size ∧ base ≤ b := by
  obtain ⟨b, cap, e, h0, h1, h2, h3, h4, h5, h6, h7⟩ := OwnF.at Ce.vals_len h (by omega)
  simp only [Value.slice.injEq, true_and] at e
  obtain ⟨rfl, rfl⟩ := e
  exact ⟨b, rfl, h3, h7 i hi 0 _ rfl, h7 i hi 1 _ rfl, h7 i hi 2 _ rfl, h.2 _ (List.getElem_mem hi), h4, h5, h6⟩
def Still (r : Value) (w : World) (e : Ending) (w' : World) : Prop := e = .returned r ∧ w = w'
set_option maxHeartbeats 1000000 in
theorem free_ok (g base : Nat) (cv tv : Value) (l : List Ce) (t : List Int) (k : Int) (w : World) (h : UInv g base cv tv l t k w) (i : Nat) (hi : i < l.length) :
    Calls Try.prog 74 #[.pointer (some ⟨g, 0, none⟩), .int .i64 (i : Int)] w (Still (.bool (l[i].kind == 0)) w) := by
  obtain ⟨ca, cc, ta, tc, rfl, rfl, e1, e2, e3, e4⟩ := h.vals
  obtain ⟨h1, h2, h3, h4, h5, h6, h7, h8⟩ := h
  obtain ⟨x0, x1, x2, xf⟩ := box3 h1
  obtain ⟨b, rfl, -, c0, c1, c2, hok, -⟩ := OwnC.cell h2 hi
  have hi0 : (0 : Int) ≤ (i : Int) := Int.natCast_nonneg _
  have hi1 : (i : Int) < (l.length : Int) := by omega
  clear h1 h2 h3 hok
  go_enter Try.func74, Try.ntmps74
  go_wp2_with fail
  go_ret
  exact ⟨rfl, rfl⟩
def InPost (g base : Nat) (cv tv : Value) (l : List Ce) (t : List Int) (w : World) (p : Bool × Int) (e : Ending) (w' : World) : Prop := e = .returned (.bool p.1) ∧ Ch (fun b => b = g) w w' ∧ UInv g base cv tv l t p.2 w'
def InOK (g base : Nat) (cv tv : Value) (l : List Ce) (t : List Int) (v : Int) (k : Nat) : Prop := ∀ (a : Int) (w : World), I64 a → UInv g base cv tv l t k w →
  Calls Try.prog 76 #[.pointer (some ⟨g, 0, none⟩), .int .i64 v, .int .i64 a] w (InPost g base cv tv l t w (inL l v k [a]))
set_option maxHeartbeats 1000000 in
theorem in_zero (g base : Nat) (cv tv : Value) (l : List Ce) (t : List Int) (v : Int) : InOK g base cv tv l t v 0 := by
  intro a w ha h
  have HU := hid h
  obtain ⟨ca, cc, ta, tc, rfl, rfl, e1, e2, e3, e4⟩ := h.vals
  have hlt := h.lt
  obtain ⟨h1, h2, h3, h4, h5, h6, h7, h8⟩ := h
  obtain ⟨x0, x1, x2, xf⟩ := box3 h1
  have hcs := cell_set
  clear h1 h2 h3
  go_enter Try.func76, Try.ntmps76
  go_wp2_with fail
  go_ret
  exact ⟨rfl, ch_box _ _ _ _, HU.out.turn (k' := -1) (by decide) (by decide)⟩
theorem inL_succ (l : List Ce) (v : Int) (w : Nat) (z : Int) (r : List Int) : inL l v (w + 1) (z :: r) =
    if look l z < 0 then (false, -1)
    else if (cellAt l (look l z)).kind = 0 then (if look l z = v then (true, (w : Int)) else inL l v w r)
    else if (cellAt l (look l z)).kind = 3 then inL l v w (argsAt (look l z) (cellAt l (look l z)).n ++ r)
    else inL l v w r := rfl
theorem argsAt_get (a n : Int) (j : Nat) (h : j < (argsAt a n).length) : (argsAt a n)[j] = a + 1 + j := by simp [argsAt]
set_option maxRecDepth 100000 in
set_option maxHeartbeats 4000000 in
theorem in_succ (g base : Nat) (cv tv : Value) (l : List Ce) (t : List Int) (v : Int) (hv : I64 v) (k : Nat) (hg : GoodC l) (ih : ∀ m, m ≤ k → InOK g base cv tv l t v m) : InOK g base cv tv l t v (k + 1) := by
  intro a w ha h
  have HU := hid h
  obtain ⟨ca, cc, ta, tc, rfl, rfl, e1, e2, e3, e4⟩ := h.vals
  have hlt := h.lt
  have HU1 := hid (HU.out.turn (k' := k) (by omega) (by omega))
  obtain ⟨h1, h2, h3, h4, h5, h6, h7, h8⟩ := h
  obtain ⟨x0, x1, x2, xf⟩ := box3 h1
  have hcs := cell_set
  have hk400 : (k : Int) ≤ 400 := by omega
  have HI := hid ha
  have IH := hid ih
  have HG := hid hg
  have HV := hid hv
  have hk0 : (0 : Int) ≤ (k : Int) := Int.natCast_nonneg _
  rw [show ((k + 1 : Nat) : Int) = (k : Int) + 1 by omega] at x2
  clear h1 h2 h3 h6 h7 h8 ha ih hg hv
  go_enter Try.func76, Try.ntmps76
  go_wp2_with fail
  refine (look_ok ⟨l, t⟩ a HI.out (fun _ => True) _ _ HU1.out.rep).mono ?_
  rintro e w2 ⟨r, rfl, hb2, rfl⟩
  have HU2 := hid (HU1.out.below hb2)
  have HC2 := hid (show Ch (fun b => b = g) w w2 from (ch_box _ _ _ _).then_below hb2)
  obtain ⟨y0, y1, y2, yf⟩ := box3 HU2.out.1
  have hz2 := hb2.size
  simp only [World.size_setCell] at hz2
  clear x0 x1 x2 xf hb2
  have hge := look_ge l a
  by_cases hneg : look l a < 0
  · have hp : inL l v (k + 1) [a] = (false, -1) := by rw [inL_succ, if_pos hneg]
    have HP := hid hp
    clear hp
    go_wp2_with fail
    go_ret
    rw [HP.out]
    exact ⟨rfl, HC2.out.set_box _ _, HU2.out.turn (k' := -1) (by decide) (by omega)⟩
  · obtain ⟨x, hx, hxl, hcx⟩ := cellAt_eq (look_end (l := l) (a := a) (by omega)).1
    have hin : inL l v (k + 1) [a] = if l[x].kind = 0 then (if (x : Int) = v then (true, (k : Int)) else (false, (k : Int))) else if l[x].kind = 3 then inL l v k (argsAt (x : Int) l[x].n) else (false, (k : Int)) := by
      rw [inL_succ, if_neg hneg, hcx, hx, inL_nil, List.append_nil]
    have hokc := HG.out x hxl
    have HIN := hid hin
    have HX := hid hx
    rw [hx]
    have hx0 : (0 : Int) ≤ (x : Int) := Int.natCast_nonneg _
    have hx1 : (x : Int) < (l.length : Int) := by omega
    obtain ⟨cb, rfl, -, c0, c1, c2, hok, -, hcb, -⟩ := OwnC.cell HU2.out.2.1 hxl
    clear hin hcx hx hneg hge
    go_wp2_with fail
    refine (free_ok _ _ _ _ _ _ _ _ HU2.out x hxl).mono ?_
    rintro e w3 ⟨rfl, rfl⟩
    by_cases hk : l[x].kind = 0
    · rw [hk] at c0 ⊢
      have HK := hid hk
      clear hk hokc
      by_cases hxv : (x : Int) = v
      · have hr := hid (show inL l v (k + 1) [a] = (true, (k : Int)) by rw [HIN.out, if_pos HK.out, if_pos hxv])
        have hq : ((x : Int) == v) = true := by simpa using hxv
        clear hxv
        go_wp2_with fail
        go_ret
        rw [hr.out]
        exact ⟨rfl, HC2.out, HU2.out⟩
      · have hr := hid (show inL l v (k + 1) [a] = (false, (k : Int)) by rw [HIN.out, if_pos HK.out, if_neg hxv])
        have hq : ((x : Int) == v) = false := by simpa using hxv
        clear hxv
        go_wp2_with fail
        go_ret
        rw [hr.out]
        exact ⟨rfl, HC2.out, HU2.out⟩
    · have hk' : (l[x].kind == 0) = false := by simpa using hk
      rw [hk']
      by_cases hk3 : l[x].kind = 3
      · have hn : 1 ≤ l[x].n ∧ l[x].n ≤ 4 ∧ (x : Int) + l[x].n < l.length := by
          unfold Ce.OkAt at hokc
          omega
        obtain ⟨hn1, hn4, hnl⟩ := hn
        obtain ⟨nn, hnn⟩ := Int.eq_ofNat_of_zero_le (show 0 ≤ l[x].n by omega)
        have hr := hid (show inL l v (k + 1) [a] = inL l v k (argsAt (x : Int) (nn : Int)) by rw [HIN.out, if_neg hk, if_pos hk3, hnn])
        have hal : (argsAt (x : Int) (nn : Int)).length = nn := by simp [argsAt]
        rw [hnn] at c1 hn1 hn4 hnl
        rw [hk3] at c0
        have HAL := hid hal
        have hlb : cb < w2.heap.size := hcb
        have hn4' : nn ≤ 4 := by omega
        clear hk hk' hk3 hokc hal hnn
        go_wp2_with fail
        have HU3 := hid (HU2.out.below ((Below.refl _ _).alloc (Nat.le_refl _) (.cells #[.int .i64 3, .int .i64 (nn : Int), .string l[x].s] 71)))
        have HC3 := hid (HC2.out.alloc (.cells #[.int .i64 3, .int .i64 (nn : Int), .string l[x].s] 71))
        have HB3 := hid (blk_new w2 (.cells #[.int .i64 3, .int .i64 (nn : Int), .string l[x].s] 71))
        have hne : g ≠ w2.heap.size := by omega
        clear c0 c1 c2 y0 y1 y2 yf
        go_loopw [8] (fun i wr => ∃ j m : Nat, j ≤ nn ∧ i = .int .i64 ((j : Int) + 1) ∧ m ≤ k ∧ inL l v k ((argsAt (x : Int) (nn : Int)).take j) = (false, (m : Int)) ∧ UInv g base (.slice (some ⟨cb, 0, none⟩) l.length cc) (.slice ta t.length tc) l t m wr ∧ Ch (fun b => b = g) w wr ∧ wr.heap[w2.heap.size]? = some (.cells #[.int .i64 3, .int .i64 (nn : Int), .string l[x].s] 71 (0, 0))) (fun i _ => nn + 1 - (intOf i).toNat)
        case atStart => exact ⟨0, k, Nat.zero_le _, rfl, Nat.le_refl _, by rw [List.take_zero, inL_nil], HU3.out, HC3.out, HB3.out⟩
        case round =>
          obtain ⟨j, m, hj, rfl, hm, htk, hu, hch, hbx⟩ := hrel
          have HTK := hid htk
          have HU4 := hid hu
          have HC4 := hid hch
          have HB4 := hid hbx
          obtain ⟨z0, z1, z2, zf⟩ := box3 hbx
          clear htk hu hch hbx
          by_cases hlt : j < nn
          · have hja : j < (argsAt (x : Int) (nn : Int)).length := by rw [HAL.out]; exact hlt
            have hsplit : argsAt (x : Int) (nn : Int) = (argsAt (x : Int) (nn : Int)).take j ++ (((x : Int) + 1 + (j : Int)) :: (argsAt (x : Int) (nn : Int)).drop (j + 1)) := by
              conv => lhs; rw [← List.take_append_drop j (argsAt (x : Int) (nn : Int))]
              rw [List.drop_eq_getElem_cons hja, argsAt_get]
            have hnext : (argsAt (x : Int) (nn : Int)).take (j + 1) = (argsAt (x : Int) (nn : Int)).take j ++ [(x : Int) + 1 + j] := by
              rw [List.take_succ_eq_append_getElem hja, argsAt_get]
            have HSP := hid (show inL l v k (argsAt (x : Int) (nn : Int)) = inL l v m ([(x : Int) + 1 + j] ++ (argsAt (x : Int) (nn : Int)).drop (j + 1)) by
              conv => lhs; rw [hsplit]
              rw [inL_app, HTK.out, if_neg (by simp)]
              simp)
            have HNX := hid (show inL l v k ((argsAt (x : Int) (nn : Int)).take (j + 1)) = inL l v m [(x : Int) + 1 + j] by
              rw [hnext, inL_app, HTK.out, if_neg (by simp)]
              simp)
            clear hsplit hnext hja
            go_wp2_with fail
            rw [show (x : Int) + ((j : Int) + 1) = (x : Int) + 1 + j by omega]
            refine (IH.out m hm ((x : Int) + 1 + j) wr (by unfold I64; omega) HU4.out).mono ?_
            rintro e w5 ⟨rfl, hch5, hu5⟩
            have HU5 := hid hu5
            have HC5 := hid hch5
            have HB5 := hid ((hch5.block w2.heap.size (blk_lt HB4.out) (fun e => hne e.symm)).trans HB4.out)
            obtain ⟨q0, q1, q2, qf⟩ := box3 HU5.out.1
            have hple := inL_le l v m [(x : Int) + 1 + j]
            have happ := inL_app l v m [(x : Int) + 1 + j] ((argsAt (x : Int) (nn : Int)).drop (j + 1))
            have htru := inL_true l v m [(x : Int) + 1 + j]
            generalize inL l v m [(x : Int) + 1 + j] = p at *
            obtain ⟨pf, pw⟩ := p
            simp only at hple happ htru q0 q1 q2
            have HAPP := hid happ
            have HTRU := hid htru
            clear hu5 hch5 happ htru z0 z1 z2 zf
            obtain ⟨hp1, hp2⟩ := hple
            cases pf with
            | true =>
              have hpw : 0 ≤ pw := HTRU.out rfl
              have hres := hid (show inL l v (k + 1) [a] = (true, pw) by rw [hr.out, HSP.out, HAPP.out, if_pos (.inl rfl)])
              go_wp2_with fail
              go_ret
              rw [hres.out]
              exact ⟨rfl, HC4.out.trans HC5.out (fun _ h => .inl h), HU5.out⟩
            | false =>
              by_cases hpw : pw < 0
              · have hres := hid (show inL l v (k + 1) [a] = (false, pw) by rw [hr.out, HSP.out, HAPP.out, if_pos (.inr hpw)])
                have hpd := hid (decide_eq_false (show ¬ (0 : Int) ≤ pw by omega))
                go_wp2_with fail
                go_ret
                rw [hres.out]
                exact ⟨congrArg Ending.returned (congrArg Value.bool hpd.out), HC4.out.trans HC5.out (fun _ h => .inl h), HU5.out⟩
              · obtain ⟨pm, rfl⟩ := Int.eq_ofNat_of_zero_le (show 0 ≤ pw by omega)
                go_wp2_with fail
                go_roundw
                case rel => exact ⟨j + 1, pm, by omega, by go_num, by omega, HNX.out, HU5.out, HC4.out.trans HC5.out (fun _ h => .inl h), HB5.out⟩
                case measure => simp [intOf]; omega
          · have hje : j = nn := by omega
            have hres := hid (show inL l v (k + 1) [a] = (false, (m : Int)) by
              have := HTK.out
              rw [List.take_of_length_le (by rw [HAL.out]; omega)] at this
              rw [hr.out, this])
            clear hje
            go_wp2_with fail
            go_ret
            rw [hres.out]
            exact ⟨rfl, HC4.out, HU4.out⟩
      · have hr := hid (show inL l v (k + 1) [a] = (false, (k : Int)) by rw [HIN.out, if_neg hk, if_neg hk3])
        have hk3' : (l[x].kind == 3) = false := by simpa using hk3
        have hlb : cb < w2.heap.size := hcb
        clear hk hk3 hokc
        go_wp2_with fail
        go_ret
        rw [hr.out]
        exact ⟨rfl, HC2.out.alloc _, HU2.out.below ((Below.refl _ _).alloc (Nat.le_refl _) _)⟩
theorem in_ok (g base : Nat) (cv tv : Value) (l : List Ce) (t : List Int) (v : Int) (hv : I64 v) (hg : GoodC l) : ∀ k, InOK g base cv tv l t v k := by
  intro k
  induction k using Nat.strongRecOn with
  | _ k ih =>
    cases k with
    | zero => exact in_zero g base cv tv l t v
    | succ k => exact in_succ g base cv tv l t v hv k hg fun m hm => ih m (by omega)
theorem bindC_set {l : List Ce} {v : Nat} (a : Int) (h : v < l.length) : bindC l (v : Int) a = l.set v { l[v] with n := a } := by
  apply List.ext_getElem (by simp [bindC])
  intro i h1 h2
  simp only [bindC, Int.toNat_natCast, List.getElem_modify, List.getElem_set]
  by_cases e : v = i
  · subst e; simp
  · simp [e]
def UM (g : Nat) (cv tv : Value) (b : Nat) : Prop := b = g ∨ ownB cv = some b ∨ ownB tv = some b
def UStep (g base : Nat) (cv tv : Value) (w : World) (l : List Ce) (t : List Int) (k : Int) (w' : World) : Prop :=
  ∃ tv', UInv g base cv tv' l t k w' ∧ Ch (UM g cv tv) w w' ∧ (∀ b, ownB tv' = some b → ownB tv = some b ∨ w.heap.size ≤ b)
theorem UStep.of_box {g base : Nat} {cv tv : Value} {w w' : World} {l : List Ce} {t : List Int} {k : Int} (h : UInv g base cv tv l t k w') (hc : Ch (fun b => b = g) w w') : UStep g base cv tv w l t k w' :=
  ⟨tv, h, hc.mono fun x _ e => .inl e, fun b h => .inl h⟩
theorem UStep.trans {g base : Nat} {cv tv tv' : Value} {w w' w'' : World} {l : List Ce} {t : List Int} {k : Int} (hc : Ch (UM g cv tv) w w') (ht : ∀ b, ownB tv' = some b → ownB tv = some b ∨ w.heap.size ≤ b)
    (h : UStep g base cv tv' w' l t k w'') : UStep g base cv tv w l t k w'' := by
  obtain ⟨tv2, h1, h2, h3⟩ := h
  refine ⟨tv2, h1, hc.trans h2 fun x hx => ?_, fun b hb => ?_⟩
  · rcases hx with hx | hx | hx
    · exact .inl (.inl hx)
    · exact .inl (.inr (.inl hx))
    · rcases ht x hx with hx | hx
      · exact .inl (.inr (.inr hx))
      · exact .inr hx
  · rcases h3 b hb with h4 | h4
    · exact ht b h4
    · exact .inr (Nat.le_trans hc.size h4)
def BindPost (g base : Nat) (cv tv : Value) (w : World) (l : List Ce) (t : List Int) (k : Int) (e : Ending) (w' : World) : Prop := ∃ r, e = .returned r ∧ UStep g base cv tv w l t k w'
set_option maxHeartbeats 2000000 in
theorem bind_ok (g base : Nat) (cv tv : Value) (l : List Ce) (t : List Int) (k : Int) (w : World) (h : UInv g base cv tv l t k w) (hk : (t.length : Int) + 1 + k ≤ 70000) (v : Nat) (hv : v < l.length) (a : Int) (ha : I64 a) :
    Calls Try.prog 75 #[.pointer (some ⟨g, 0, none⟩), .int .i64 (v : Int), .int .i64 a] w (BindPost g base cv tv w (bindC l (v : Int) a) (t ++ [(v : Int)]) k) := by
  have HU := hid h
  obtain ⟨ca, cc, ta, tc, rfl, rfl, e1, e2, e3, e4⟩ := h.vals
  have hlt := h.lt
  obtain ⟨h1, h2, h3, h4, h5, h6, h7, h8⟩ := h
  obtain ⟨x0, x1, x2, xf⟩ := box3 h1
  obtain ⟨cb, rfl, hob, c0, c1, c2, hok, hfz, hcb, hcbase⟩ := OwnC.cell h2 hv
  have hcg : cb ≠ g := fun e => OwnF.ne_box h2 h1 (by decide) (hob.trans (congrArg some e))
  have hcg' : ¬ g = cb := fun e => hcg e.symm
  have hcs := cell_set
  have hi0 : (0 : Int) ≤ (v : Int) := Int.natCast_nonneg _
  have hi1 : (v : Int) < (l.length : Int) := by omega
  -- behind the first store
  have HB1 := hid ((Below.heap_setCell w ⟨cb, v * 3 + 1, none⟩ (.int .i64 a) g (fun e => hcg e.symm)).trans h1)
  have HT1 := hid (h3.kept (w' := w.setCell ⟨cb, v * 3 + 1, none⟩ (.int .i64 a)) fun b hb => Below.heap_setCell _ _ _ _ (fun e => ownF_apart (by decide) h2 h3 cb hob (hb.trans (congrArg some e))))
  have HC1 := hid (OwnF.set (u := .int .i64 a) Ce.vals_len h2 hob hv (j := 1) (by omega) (y := { l[v] with n := a }) rfl ⟨hok.1, ha, hok.2.2⟩)
  have HOB := hid hob
  have HTG := hid (OwnF.ne_box h3 h1 (by decide))
  have HTL := hid (fun b => h3.lt b)
  clear h1 h2 h3 hok hob
  go_enter Try.func75, Try.ntmps75
  go_wp2_with (at_builtin; go_must (refine wpList_app1 rfl (.tmp 20) (.tmp 22) 28 rfl base 3 1 8 tyNums numR_lasts (A := fun _ => True) (.slice ta t.length tc) t rfl (OwnF.ownR numV_len HT1.out _) (v : Int) [.int .i64 (v : Int)] (by simp only [World.size_setCell]; rfl) rfl ⟨by unfold I64; omega, rfl⟩ ⟨by omega, by simp; omega⟩ ?_); go_must (intro v2 w2 hown hgrew; obtain ⟨va2, vc2, hv2, hvl2, hvm2⟩ := OwnR.val' hown; rw [show (t ++ [(v : Int)]).length = t.length + 1 by simp] at hv2; subst hv2; have HO2 := hid (OwnF.of_ownR hown); have HG2 := hid hgrew; have hz2 := hgrew.size; simp only [World.size_alloc, World.size_setCell] at hz2; have hB2 := (hgrew.grown.block g (by simp; omega) (fun e => HTG.out e.symm)).trans (blk_alloc HB1.out _); have HB2 := hid hB2; obtain ⟨y0, y1, y2, yf⟩ := box3 hB2; clear hown hgrew hB2))
  refine bodyPost_end (v := .tuple #[]) (by simp [results, Try.results75, go_sem]) rfl ?_
  have hcb2 : w2.heap[cb]? = (w.setCell ⟨cb, v * 3 + 1, none⟩ (.int .i64 a)).heap[cb]? := (HG2.out.grown.block cb (by simp; omega) (fun e => ownF_apart (by decide) HU.out.2.1 HU.out.2.2.1 cb HOB.out e.symm)).trans (Below.heap_alloc _ _ _ (by simpa using hcb))
  have ho2 := HO2.out
  have hng : ownB (.slice va2 (t.length + 1) vc2) ≠ some g := OwnF.ne_box (by simpa using ho2) HB2.out (by decide)
  refine ⟨_, rfl, .slice va2 (t.length + 1) vc2, ⟨(blk_set HB2.out 1 _).trans rfl, ?_, ?_, h4, by rw [bindC_len]; exact h5, by simp; omega, h7, h8⟩, ?_, fun b hb => ?_⟩
  · rw [bindC_set a hv]
    refine HC1.out.kept fun b hb => ?_
    obtain rfl : cb = b := Option.some.inj (HOB.out.symm.trans hb)
    rw [Below.heap_setCell _ _ _ _ (fun e => hcg e)]
    exact hcb2
  · exact ho2.kept fun b hb => Below.heap_setCell _ _ _ _ (fun e => hng (hb.trans (congrArg some e)))
  · refine Ch.setCell (p := ⟨g, 1, none⟩) ?_ (.inl (.inl rfl)) _
    refine HG2.out.ch ((Ch.setCell (p := ⟨cb, v * 3 + 1, none⟩) (Ch.refl _ _) (.inl (.inr (.inl HOB.out))) _).alloc _) fun b hb => .inl (.inr (.inr hb))
  · rcases HG2.out.block with h9 | h9
    · exact .inl (h9.symm.trans hb)
    · have := h9 b hb
      simp only [World.size_alloc, World.size_setCell] at this
      exact .inr (by omega)
def TmV (A : Nat → Prop) (w : World) (t : Tm) (v : Value) : Prop := ∃ us, v = .agg us.toArray ∧ Tm.rep A w t us
def EnvL (A : Nat → Prop) (w : World) : Env → List (Int × Value) → Prop
  | [], [] => True
  | (n, t) :: E, (m, v) :: L => (m = n ∧ TmV A w t v) ∧ EnvL A w E L
  | _, _ => False
def EnvR (A : Nat → Prop) (w : World) (mb : Nat) (E : Env) : Prop := ∃ L, MapIs w mb L ∧ EnvL A w E L
def GlsR (A : Nat → Prop) (w : World) : List Gl → Value → Prop
  | [], v => v = .pointer none
  | g :: r, v => ∃ b a cap rv, v = .pointer (some ⟨b, 0, none⟩) ∧ A b ∧ w.heap[b]? = some (.cells #[.int .i64 g.t.kind, .int .i64 g.t.n, .string g.t.s, .slice a g.t.args.length cap, .int .i64 (g.bar : Int), rv] 96 (0, 0)) ∧
      Tm.rep A w g.t [.int .i64 g.t.kind, .int .i64 g.t.n, .string g.t.s, .slice a g.t.args.length cap] ∧ GlsR A w r rv
def chcR (A : Nat → Prop) (w : World) (c : Chc) (vs : List Value) : Prop := ∃ v, vs = [v, .int .i64 (c.at_ : Int), .int .i64 (c.trail : Int)] ∧ GlsR A w c.g v
def evR (A : Nat → Prop) (w : World) (e : Ev) (vs : List Value) : Prop := ∃ v, vs = [.int .i64 e.kind, v] ∧ TmsR A w e.terms v ∧ I64 e.kind
theorem evR_lasts : Lasts evR := by
  refine ⟨fun A w w' c vs h hk => ?_, fun A A' w c vs h hA => ?_, fun A w c vs h => ?_⟩
  · obtain ⟨v, h1, h2, h3⟩ := h; exact ⟨v, h1, h2.keeps hk, h3⟩
  · obtain ⟨v, h1, h2, h3⟩ := h; exact ⟨v, h1, SlR.mono Tm.rep_lasts (by omega) h2 hA, h3⟩
  · obtain ⟨v, rfl, h2, h3⟩ := h
    obtain ⟨a, cap, _, _, rfl, -⟩ := SlR.at h2
    simp [Value.oneCell']
theorem OwnR.mono' {α : Type} {w : World} {base : Nat} {E : TypeId} {size : Nat} {R : (Nat → Prop) → World → α → List Value → Prop} {A A' : Nat → Prop} {xs : List α} {v : Value} (hR : Lasts R)
    (h : OwnR w base E size R A xs v) (hA : ∀ b, b < w.heap.size → A b → ownB v ≠ some b → A' b) : OwnR w base E size R A' xs v := by
  obtain ⟨vals, hl, ho, he⟩ := h
  refine ⟨vals, hl, ho, fun i x vs hx hv => ?_⟩
  obtain ⟨h1, h2⟩ := he i x vs hx hv
  exact ⟨h1, hR.2.1 _ _ _ _ _ h2 fun b hb hb' => ⟨hA b hb hb'.1 hb'.2, hb'.2⟩⟩
def SM (g mb : Nat) (tv cv ov : Value) (b : Nat) : Prop := b = g ∨ b = mb ∨ ownB tv = some b ∨ ownB cv = some b ∨ ownB ov = some b
def SA (g mb xb : Nat) (tv cv ov : Value) (b : Nat) : Prop := ¬ SM g mb tv cv ov b ∧ b ≠ xb
structure SvI (base : Nat) (P : List Cl) (q : Nat) (g mb xb : Nat) (pv tv cv ov : Value) (s : Sv) (w : World) : Prop where
  box : w.heap[g]? = some (.cells #[pv, .map (some mb), tv, cv, .int .i64 s.vars, .int .i64 (s.fuel : Int), ov, .int .i64 (q : Int)] 93 (0, 0))
  prog : ClsR (fun b => b < base) w P pv
  env : EnvR (SA g mb xb tv cv ov) w mb s.env
  trail : OwnN w base (s.env.map (·.1)) tv
  chc : OwnR w base 120 3 chcR (SA g mb xb tv cv ov) s.choices.reverse cv
  out : OwnR w base 55 2 evR (SA g mb xb tv cv ov) s.out ov
  bg : base ≤ g
  bm : base ≤ mb
  bx : base ≤ xb
  bxl : xb < w.heap.size
  nx : xb = g ∨ ¬ SM g mb tv cv ov xb
  v0 : 0 ≤ s.vars
  v1 : s.vars ≤ 1000000
  fu : s.fuel ≤ 150
  qq : q ≤ 8
  len : s.env.length ≤ 1000000
  few : s.choices.length ≤ 1000
  out13 : s.out.length ≤ 20
section
variable {base : Nat} {P : List Cl} {q g mb xb : Nat} {pv tv cv ov : Value} {s : Sv} {w : World}
end
end Go.Proofs.Ytlpmfkpefoegeab
namespace Go.Proofs.Ytlpmfkpefoegeab
set_option linter.unusedVariables false
set_option linter.unusedSimpArgs false
open Classical in
/-- what Undo answers -/
noncomputable def undoF (h : Hp) (n : Int) : Hp × Int :=
  if ¬ h.Good then (h, 1) else if ¬ (0 ≤ n ∧ n ≤ h.trail.length) then (h, 2) else (⟨undoC h.cells (h.trail.drop n.toNat), h.trail.take n.toNat⟩, 0)
open Classical in
/-- what Cut answers -/
noncomputable def cutF (h : Hp) (n : Int) : Hp × Int :=
  if ¬ h.Good then (h, 1) else if ¬ (0 ≤ n ∧ n ≤ h.cells.length) then (h, 2)
  else if ¬ Hp.Good ⟨h.cells.take n.toNat, h.trail⟩ then (h, 1) else (⟨h.cells.take n.toNat, h.trail⟩, 0)
def tm0 : Tm := .mk 0 0 ByteArray.empty []
def rd1 (l : List Ce) (w : Nat) (a : Int) : Option (Tm × Nat) :=
  match rdL l w [a] with
  | some (t :: _, w') => some (t, w')
  | _ => none
def leftOf (most : Int) : Int := max 0 (min most 65536)
def termOf (left : Int) : Option (Tm × Nat) → Tm × Int × Int
  | none => (tm0, 0, 3)
  | some (t, w) => (t, left - w, 0)
open Classical in
/-- what Term answers -/
noncomputable def termF (h : Hp) (a most : Int) : Tm × Int × Int :=
  if ¬ h.Good then (tm0, 0, 1) else if ¬ Inb h.cells a then (tm0, 0, 4) else termOf (leftOf most) (rd1 h.cells (leftOf most).toNat a)
theorem rdL_one (l : List Ce) (w : Nat) (a : Int) : rdL l (w + 1) [a] =
    if look l a < 0 then none
    else if (cellAt l (look l a)).kind = 3 then
      (match rdL l w (argsAt (look l a) (cellAt l (look l a)).n) with
       | none => none
       | some (ts, w1) => some ([.mk 3 0 (cellAt l (look l a)).s ts], w1))
    else some ([if (cellAt l (look l a)).kind = 0 then .mk 0 (look l a) ByteArray.empty [] else .mk (cellAt l (look l a)).kind (cellAt l (look l a)).n (cellAt l (look l a)).s []], w) := by
  rw [rdL]
  by_cases h1 : look l a < 0
  · rw [if_pos h1, if_pos h1]
  · rw [if_neg h1, if_neg h1]
    by_cases h2 : (cellAt l (look l a)).kind = 3
    · rw [if_pos h2, if_pos h2]
      cases hq : rdL l w (argsAt (look l a) (cellAt l (look l a)).n) with
      | none => rfl
      | some p =>
        obtain ⟨ts, w1⟩ := p
        have := (rdL_le l w _ _ _ hq).1
        simp only [Nat.min_eq_right this, rdL_nil]
    · rw [if_neg h2, if_neg h2]
      simp only [rdL_nil]
theorem rd1_zero (l : List Ce) (a : Int) : rd1 l 0 a = none := by unfold rd1; rw [rdL_zero]
theorem rd1_succ (l : List Ce) (w : Nat) (a : Int) : rd1 l (w + 1) a =
    if look l a < 0 then none
    else if (cellAt l (look l a)).kind = 3 then
      (match rdL l w (argsAt (look l a) (cellAt l (look l a)).n) with
       | none => none
       | some (ts, w1) => some (.mk 3 0 (cellAt l (look l a)).s ts, w1))
    else some (if (cellAt l (look l a)).kind = 0 then .mk 0 (look l a) ByteArray.empty [] else .mk (cellAt l (look l a)).kind (cellAt l (look l a)).n (cellAt l (look l a)).s [], w) := by
  unfold rd1
  rw [rdL_one]
  by_cases h1 : look l a < 0
  · rw [if_pos h1, if_pos h1]
  · rw [if_neg h1, if_neg h1]
    by_cases h2 : (cellAt l (look l a)).kind = 3
    · rw [if_pos h2, if_pos h2]
      cases rdL l w (argsAt (look l a) (cellAt l (look l a)).n) with
      | none => rfl
      | some p => rfl
    · rw [if_neg h2, if_neg h2]
theorem rd1_le {l : List Ce} {w : Nat} {a : Int} {t : Tm} {w' : Nat} (h : rd1 l w a = some (t, w')) : w' ≤ w := by
  unfold rd1 at h
  split at h
  · rename_i t' ts w1 hq
    simp only [Option.some.injEq, Prod.mk.injEq] at h
    have := (rdL_le l w _ _ _ hq).1
    omega
  · cases h
theorem rdL_cons (l : List Ce) (w : Nat) (a : Int) (r : List Int) : rdL l w (a :: r) =
    (match rd1 l w a with
     | none => none
     | some (t, w1) => match rdL l w1 r with
       | none => none
       | some (rs, w2) => some (t :: rs, w2)) := by
  cases w with
  | zero => rw [rdL_zero, rd1_zero]
  | succ w =>
    rw [rdL, rd1_succ]
    by_cases hn : look l a < 0
    · rw [if_pos hn, if_pos hn]
    · rw [if_neg hn, if_neg hn]
      by_cases h3 : (cellAt l (look l a)).kind = 3
      · rw [if_pos h3, if_pos h3]
        cases hq : rdL l w (argsAt (look l a) (cellAt l (look l a)).n) with
        | none => rfl
        | some p =>
          obtain ⟨ts, w1⟩ := p
          have := (rdL_le l w _ _ _ hq).1
          simp only [Nat.min_eq_right this]
          cases rdL l w1 r <;> rfl
      · rw [if_neg h3, if_neg h3]
        simp only
        cases rdL l w r <;> rfl
theorem rdL_snoc (l : List Ce) : ∀ (s : List Int) (w : Nat) (a : Int), rdL l w (s ++ [a]) =
    (match rdL l w s with
     | none => none
     | some (ts, w1) => match rd1 l w1 a with
       | none => none
       | some (t, w2) => some (ts ++ [t], w2))
  | [], w, a => by
    rw [List.nil_append, rdL_nil, rdL_cons]
    cases h : rd1 l w a with
    | none => simp only [h]
    | some p => simp only [rdL_nil, List.nil_append, h]
  | x :: s, w, a => by
    rw [List.cons_append, rdL_cons, rdL_cons]
    cases hx : rd1 l w x with
    | none => rfl
    | some p =>
      obtain ⟨t, w1⟩ := p
      simp only
      rw [rdL_snoc l s w1 a]
      cases rdL l w1 s with
      | none => rfl
      | some q =>
        obtain ⟨ts, w2⟩ := q
        simp only
        cases rd1 l w2 a with
        | none => rfl
        | some r => rfl
theorem rdL_none (l : List Ce) (w : Nat) (s r : List Int) (h : rdL l w s = none) : rdL l w (s ++ r) = none := by
  induction s generalizing w with
  | nil => rw [rdL_nil] at h; cases h
  | cons x s ih =>
    rw [rdL_cons] at h
    rw [List.cons_append, rdL_cons]
    cases hx : rd1 l w x with
    | none => rfl
    | some p =>
      obtain ⟨t, w1⟩ := p
      rw [hx] at h
      simp only at h ⊢
      cases hq : rdL l w1 s with
      | none => rw [ih w1 hq]
      | some q => rw [hq] at h; cases h
end Go.Proofs.Ytlpmfkpefoegeab
