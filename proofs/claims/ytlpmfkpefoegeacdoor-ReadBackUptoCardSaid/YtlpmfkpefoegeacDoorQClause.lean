/-
  Clauses in memory; which clauses, queries and programs are good.
-/
import Derived.Test.YtlpmfkpefoegeacDoorQFits
namespace Go.Proofs.YtlpmfkpefoegeacDoor
set_option linter.unusedVariables false
set_option linter.unusedSimpArgs false
set_option maxRecDepth 100000
open Go.RowKit
structure Cl where
  head : Tm
  body : List Tm
  vars : Int
def Cl.rep (A : Nat → Prop) (w : World) (c : Cl) (vs : List Value) : Prop :=
  ∃ a ac b bc, vs = [.int .i64 c.head.kind, .int .i64 c.head.n, .string c.head.s, .slice a c.head.args.length ac, .slice b c.body.length bc, .int .i64 c.vars] ∧
    Tm.rep A w c.head [.int .i64 c.head.kind, .int .i64 c.head.n, .string c.head.s, .slice a c.head.args.length ac] ∧ TmsR A w c.body (.slice b c.body.length bc) ∧ I64 c.vars
theorem Cl.rep_lasts : Lasts Cl.rep := by
  refine ⟨fun A w w' c vs h hk => ?_, fun A A' w c vs h hA => ?_, fun A w c vs h => ?_⟩
  · obtain ⟨a, ac, b, bc, rfl, h1, h2, h3⟩ := h
    exact ⟨a, ac, b, bc, rfl, Tm.rep_lasts.1 _ _ _ _ _ h1 hk, SlR.keeps Tm.rep_lasts h2 hk, h3⟩
  · obtain ⟨a, ac, b, bc, rfl, h1, h2, h3⟩ := h
    exact ⟨a, ac, b, bc, rfl, Tm.rep_lasts.2.1 _ _ _ _ _ h1 hA, SlR.mono Tm.rep_lasts (by omega) h2 hA, h3⟩
  · obtain ⟨a, ac, b, bc, rfl, h1, h2, h3⟩ := h
    intro u hu
    simp only [List.mem_cons, List.not_mem_nil, or_false] at hu
    rcases hu with rfl | rfl | rfl | rfl | rfl | rfl <;> rfl
theorem nodesL_mem {l : List Tm} {t : Tm} (h : t ∈ l) : t.nodes ≤ Tm.nodesL l := by
  induction l with
  | nil => cases h
  | cons x r ih =>
    simp only [Tm.nodesL]
    rcases List.mem_cons.1 h with rfl | h
    · omega
    · have := ih h; omega
set_option maxHeartbeats 1000000 in
theorem goals_ok (l : List Tm) (v : Int) (hnd : Tm.nodesL l ≤ 1099511627776) (hi : I64 v) (A : Nat → Prop) (w : World) (u : Value) (hu : TmsR A w l u) :
    Calls Tryd.prog 21 #[u, .int .i64 v] w (Pure w (BoolP (∀ g ∈ l, g.IsGoal ∧ g.Fits v))) := by
  obtain ⟨a, cap, b, off, rfl, hlc, hcm, hlb, ha, he⟩ := hu.at
  have HE := hid he
  have HA := hid ha
  have HI := hid hi
  have HND := hid hnd
  clear hu he ha hi hnd
  go_enter Tryd.func21, Tryd.ntmps21
  go_wp2_with fail
  go_loopw [9] (fun i W => ∃ j : Nat, j ≤ l.length ∧ i = .int .i64 (j : Int) ∧ Below w.heap.size w W ∧ ∀ q (hq : q < l.length), q < j → l[q].IsGoal ∧ l[q].Fits v) (fun i _ => l.length - (intOf i).toNat)
  case atStart => exact ⟨0, Nat.zero_le _, rfl, Below.refl _ _, fun q _ h => absurd h (Nat.not_lt_zero _)⟩
  case round =>
    obtain ⟨j, hj, rfl, hb, hq⟩ := hrel
    have HB := hid hb
    have HQ := hid hq
    have hz := hb.size
    clear hb hq
    by_cases hlt : j < l.length
    · obtain ⟨rfl, hAb⟩ := HA.out (by omega)
      obtain ⟨sa, sc, c0, c1, c2, c3, hr⟩ := tm_cells HE.out hAb (Keeps.of_below HB.out) hlt
      have hlt' : (j : Int) < (l.length : Int) := by omega
      have HLT := hid hlt
      obtain ⟨t, ht⟩ : ∃ t, t = l[j]'hlt := ⟨_, rfl⟩
      have hmem : t ∈ l := by rw [ht]; exact List.getElem_mem _
      rw [← ht] at c0 c1 c2 c3 hr
      have hn := nodesL_mem hmem
      have hnn := HND.out
      have HT := hid ht
      have HR := hid hr
      have HN := hid (show t.nodes ≤ 1099511627776 by omega)
      clear hr ht hmem hn hnn
      go_wp2_with fail
      refine (isGoal_ok t A _ _ (Tm.rep_lasts.1 _ _ _ _ _ HR.out (Keeps.alloc _ _ _))).mono ?_
      rintro e w1 ⟨r, rfl, hb, g, rfl, hg⟩
      have HX := hid (blk_below (blk_new wr (.cells #[.int .i64 t.kind, .int .i64 t.n, .string t.s, .slice sa t.args.length sc] 27)) hb)
      have HB1 := hid ((HB.out.alloc (by omega) (.cells #[.int .i64 t.kind, .int .i64 t.n, .string t.s, .slice sa t.args.length sc] 27)).trans (hb.mono (by simp; omega)))
      have HR1 := hid (Tm.rep_lasts.1 _ _ _ _ _ (Tm.rep_lasts.1 _ _ _ _ _ HR.out (Keeps.alloc _ _ (.cells (#[.int .i64 t.kind, .int .i64 t.n, .string t.s, .slice sa t.args.length sc] : Array Value) 27))) (Keeps.of_below hb))
      clear hb c0 c1 c2 c3
      obtain ⟨x0, x1, x2, x3, xf⟩ := blk4 HX.out
      cases g with
      | false =>
        have HNG := hid (show ¬ t.IsGoal from fun h => by have := hg.2 h; cases this)
        clear hg
        go_wp2_with fail
        go_ret
        exact ⟨_, rfl, HB1.out, _, rfl, ⟨(fun h => by cases h), fun h => absurd (h t (by rw [HT.out]; exact List.getElem_mem _)).1 HNG.out⟩⟩
      | true =>
        have HGD := hid (hg.1 rfl)
        clear hg
        go_wp2_with fail
        refine (fits_ok t v HN.out HI.out A _ _ HR1.out).mono ?_
        rintro e w2 ⟨r, rfl, hb, g, rfl, hg⟩
        have HB2 := hid (HB1.out.trans (hb.mono HB1.out.size))
        clear hb x0 x1 x2 x3 xf
        cases g with
        | false =>
          have HNG := hid (show ¬ t.Fits v from fun h => by have := hg.2 h; cases this)
          clear hg
          go_wp2_with fail
          go_ret
          exact ⟨_, rfl, HB2.out, _, rfl, ⟨(fun h => by cases h), fun h => absurd (h t (by rw [HT.out]; exact List.getElem_mem _)).2 HNG.out⟩⟩
        | true =>
          have HFT := hid (hg.1 rfl)
          clear hg
          go_wp2_with fail
          go_roundw
          case rel =>
            refine ⟨j + 1, by omega, by go_num, HB2.out, fun q hq hqj => ?_⟩
            by_cases e : q = j
            · subst e; rw [← HT.out]; exact ⟨HGD.out, HFT.out⟩
            · exact HQ.out q hq (by omega)
          case measure => first | (simp [intOf]; done) | (simp [intOf]; omega)
    · have hlt' : ¬ (j : Int) < (l.length : Int) := by omega
      have HALL := hid (show ∀ g ∈ l, g.IsGoal ∧ g.Fits v from fun g hg => by
        obtain ⟨q, hq, rfl⟩ := List.mem_iff_getElem.1 hg
        exact HQ.out q hq (by omega))
      go_wp2_with fail
      go_ret
      exact ⟨_, rfl, HB.out, _, rfl, ⟨fun _ => HALL.out, fun _ => rfl⟩⟩
def GoodQ (l : List Tm) (v : Int) : Prop := 0 ≤ v ∧ v ≤ 8 ∧ l.length ≤ 5 ∧ ∀ g ∈ l, g.IsGoal ∧ g.Fits v
def Cl.Good (c : Cl) : Prop := GoodQ c.body c.vars ∧ c.head.IsGoal ∧ c.head.Fits c.vars ∧ ¬ c.head.Known
theorem goodQuery_ok (l : List Tm) (v : Int) (hnd : Tm.nodesL l ≤ 1099511627776) (hi : I64 v) (A : Nat → Prop) (w : World) (u : Value) (hu : TmsR A w l u) :
    Calls Tryd.prog 8 #[u, .int .i64 v] w (Pure w (BoolP (GoodQ l v))) := by
  have HC := hid (goals_ok l v hnd hi A w u hu)
  obtain ⟨a, cap, b, off, rfl, hlc, hcm, hlb, ha, he⟩ := hu.at
  clear hu ha he
  by_cases h1 : 0 ≤ v
  · by_cases h2 : v ≤ 8
    · by_cases h3 : l.length ≤ 5
      · have h3' : (l.length : Int) ≤ 5 := by omega
        go_enter Tryd.func8, Tryd.ntmps8
        go_wp2_with fail
        refine (HC.out).mono ?_
        rintro e w1 ⟨r, rfl, hb, g, rfl, hg⟩
        have HB := hid hb
        have HG := hid hg
        clear hb hg
        go_wp2_with fail
        go_ret
        exact ⟨_, rfl, HB.out, _, rfl, by rw [HG.out]; exact ⟨fun h => ⟨h1, h2, h3, h⟩, fun h => h.2.2.2⟩⟩
      · have h3' : ¬ (l.length : Int) ≤ 5 := by omega
        go_enter Tryd.func8, Tryd.ntmps8
        go_wp2_with fail
        go_ret
        exact ⟨_, rfl, Below.refl _ _, _, rfl, ⟨(fun h => by first | (cases h; done) | (simp at h; omega)), fun h => absurd h.2.2.1 h3⟩⟩
    · go_enter Tryd.func8, Tryd.ntmps8
      go_wp2_with fail
      go_ret
      exact ⟨_, rfl, Below.refl _ _, _, rfl, ⟨(fun h => by first | (cases h; done) | (simp at h; omega)), fun h => absurd h.2.1 (by omega)⟩⟩
  · go_enter Tryd.func8, Tryd.ntmps8
    go_wp2_with fail
    go_ret
    exact ⟨_, rfl, Below.refl _ _, _, rfl, ⟨(fun h => by first | (cases h; done) | (simp at h; omega)), fun h => absurd h.1 (by omega)⟩⟩
end Go.Proofs.YtlpmfkpefoegeacDoor
