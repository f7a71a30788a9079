import Derived.Test.YtlpmfkpefoegeacDoorQClause2
import Derived.Test.YtlpmfkpefoegeacDoorQIsTerm
import Derived.Test.YtlpmfkpefoegeacDoorQNodesOf
namespace Go.Proofs.YtlpmfkpefoegeacDoor
set_option maxRecDepth 100000
set_option maxHeartbeats 16000000
set_option linter.all false
open Go.RowKit
def Zfs(t:Tm)(v:Int):Prop:=t.IsGoal/\t.Fits v
theorem Zee (t : Tm) (v : Int) (hnd : t.nodes ≤ 4194304) (hi : I64 v) (A : Nat → Prop) (w : World) (vs : List Value) (hv : Tm.rep A w t vs) :
    Calls Tryd.prog 51 #[.agg vs.toArray, .int .i64 v] w (Pure w (ZcT (Zfs t v))) := by
  have HG := zh (fun w' (hk : Keeps A w w') => Zfp t v A w' vs hi (Tm.rep_lasts.1 _ _ _ _ _ hv hk))
  have HN := zh (fun w' (hk : Keeps A w w') => ZeK t hnd A w' vs (Tm.rep_lasts.1 _ _ _ _ _ hv hk))
  obtain ⟨sa, sc, rfl, -⟩ := Tm.rep4 hv
  clear hv
  by_cases hgl : t.IsGoal
  · have HGL := zh hgl
    have hcase : (t.kind == 1) = true ∨ ((t.kind == 1) = false ∧ (t.kind == 3) = true) := by
      rcases hgl with h | h
      · exact .inl (by simp [h])
      · exact .inr ⟨by simp [h], by simp [h]⟩
    clear hgl
    rcases hcase with hk | ⟨hk, hk3⟩
    all_goals
      go_enter Tryd.func51, Tryd.ntmps51
      go_wp2_with fail
      refine (HG.o _ (Keeps.alloc _ _ _)).mono ?_
      rintro e w1 ⟨r, rfl, hb, b, rfl, hr⟩
      have HB := zh (show Below w.heap.size w w1 from ZaB (hb.mono (by simp)))
      have HX := zh (Zan (ZaC w (.cells #[.int .i64 t.kind, .int .i64 t.n, .string t.s, .slice sa t.args.length sc] 27)) hb)
      clear hb
      obtain ⟨x0, x1, x2, x3, xf⟩ := Za8 HX.o
      have hzz := HB.o.size
      cases b with
      | false =>
        have HNG := zh (show ¬ t.Good v from fun h => by have := hr.2 h; cases this)
        clear hr
        go_wp2_with fail
        go_ret
        exact ⟨_, rfl, HB.o, _, rfl, ⟨(fun h => by cases h), fun h => absurd h.2.1 HNG.o⟩⟩
      | true =>
        have HGD := zh (hr.1 rfl)
        clear hr
        go_wp2_with fail
        refine (HN.o _ (Keeps.ob HB.o)).mono ?_
        rintro e w2 ⟨r, rfl, hb, rfl⟩
        have HB2 := zh (HB.o.trans (hb.mono HB.o.size))
        clear hb
        by_cases hn : t.nodes ≤ 24
        · have HNN := zh hn
          have hn' : (t.nodes : Int) ≤ 24 := by omega
          clear hn
          go_wp2_with fail
          go_ret
          exact ⟨_, rfl, HB2.o, _, rfl, ⟨fun _ => ⟨HGL.o, HGD.o, HNN.o⟩, fun _ => (by first | rfl | simp [hn'])⟩⟩
        · have HNN := zh hn
          have hn' : ¬ (t.nodes : Int) ≤ 24 := by omega
          clear hn
          go_wp2_with fail
          go_ret
          exact ⟨_, rfl, HB2.o, _, rfl, ⟨(fun h => by first | (cases h; done) | (simp at h; omega)), fun h => absurd h.2.2 HNN.o⟩⟩
  · have HGL := zh hgl
    have hk : (t.kind == 1) = false := by simpa using fun h => hgl (.inl h)
    have hk3 : (t.kind == 3) = false := by simpa using fun h => hgl (.inr h)
    clear hgl
    go_enter Tryd.func51, Tryd.ntmps51
    go_wp2_with fail
    go_ret
    exact ⟨_, rfl, ZaB (zB _ _), _, rfl, ⟨(fun h => by cases h), fun h => absurd h.1 HGL.o⟩⟩
theorem ZeL (l : List Tm) (v : Int) (hnd : Tm.nodesL l ≤ 4194304) (hi : I64 v) (A : Nat → Prop) (w : World) (u : Value) (hu : ZdA A w l u) :
    Calls Tryd.prog 50 #[u, .int .i64 v] w (Pure w (ZcT (Zem l v))) := by
  obtain ⟨a, cap, b, off, rfl, hlc, hcm, hlb, ha, he⟩ := hu.at
  have HE := zh he
  have HA := zh ha
  have HI := zh hi
  have HND := zh hnd
  clear hu he ha hi hnd
  go_enter Tryd.func50, Tryd.ntmps50
  go_upto_region 1 with fail
  go_cut [5] (fun o W => (∃ g, o = .bool g ∧ (g = true ↔ 0 ≤ v ∧ v ≤ 8 ∧ l.length ≤ 5)) ∧ W = w)
  case first =>
    by_cases h1 : 0 ≤ v
    · by_cases h2 : v ≤ 8
      · by_cases h3 : l.length ≤ 5
        · have h3' : decide ((l.length : Int) ≤ 5) = true := by simp; omega
          have h2' : decide (v ≤ 8) = true := by simpa using h2
          have h1' : decide (0 ≤ v) = true := by simpa using h1
          go_wp2_with fail
          go_meet
          exact ⟨⟨_, rfl, by simp [h1, h2, h3]⟩, rfl⟩
        · have h3' : decide ((l.length : Int) ≤ 5) = false := by simp; omega
          have h2' : decide (v ≤ 8) = true := by simpa using h2
          have h1' : decide (0 ≤ v) = true := by simpa using h1
          go_wp2_with fail
          go_meet
          exact ⟨⟨_, rfl, ⟨(fun h => by first | (cases h; done) | (simp at h; omega)), fun h => absurd h.2.2 (by omega)⟩⟩, rfl⟩
      · have h2' : decide (v ≤ 8) = false := by simpa using h2
        have h1' : decide (0 ≤ v) = true := by simpa using h1
        go_wp2_with fail
        go_meet
        exact ⟨⟨_, rfl, ⟨(fun h => by first | (cases h; done) | (simp at h; omega)), fun h => absurd h.2.1 (by omega)⟩⟩, rfl⟩
    · have h1' : decide (0 ≤ v) = false := by simpa using h1
      go_wp2_with fail
      go_meet
      exact ⟨⟨_, rfl, ⟨(fun h => by first | (cases h; done) | (simp at h; omega)), fun h => absurd h.1 (by omega)⟩⟩, rfl⟩
  case rest =>
    obtain ⟨⟨g0, rfl, hg0⟩, hW⟩ := hcut
    have hW := hW.symm
    subst hW
    have HG0 := zh hg0
    clear hg0
    go_wp2_with fail
    go_loopw [21, 5] (fun i o W => ∃ (j : Nat) (g : Bool), j ≤ l.length ∧ i = .int .i64 (j : Int) ∧ o = .bool g ∧ Below w.heap.size w W ∧ (g = true ↔ g0 = true ∧ ∀ q (hq : q < l.length), q < j → Zfs l[q] v)) (fun i _ _ => l.length - (intOf i).toNat)
    case atStart => exact ⟨0, g0, Nat.zero_le _, rfl, rfl, zB _ _, ⟨fun h => ⟨h, fun q _ h => absurd h (Nat.not_lt_zero _)⟩, fun h => h.1⟩⟩
    case round =>
      obtain ⟨j, g, hj, rfl, rfl, hb, hq⟩ := hrel
      have HB := zh hb
      have HQ := zh hq
      have hz := hb.size
      clear hb hq
      by_cases hlt : j < l.length
      · obtain ⟨rfl, hAb⟩ := HA.o (by omega)
        obtain ⟨sa, sc, c0, c1, c2, c3, hr⟩ := ZaW HE.o hAb (Keeps.ob HB.o) hlt
        have hlt' : (j : Int) < (l.length : Int) := by omega
        have HLT := zh hlt
        obtain ⟨t, ht⟩ : ∃ t, t = l[j]'hlt := ⟨_, rfl⟩
        have hmem : t ∈ l := by rw [ht]; exact List.getElem_mem _
        rw [← ht] at c0 c1 c2 c3 hr
        have hn := ZbG hmem
        have hnn := HND.o
        have HT := zh ht
        have HR := zh hr
        have HN := zh (show t.nodes ≤ 4194304 by omega)
        clear hr ht hmem hn hnn
        cases g with
        | false =>
          have HB1 := zh (HB.o.alloc (by omega) (.cells #[.int .i64 t.kind, .int .i64 t.n, .string t.s, .slice sa t.args.length sc] 27))
          go_wp2_with fail
          go_roundw
          case rel =>
            refine ⟨j + 1, false, by omega, by go_num, rfl, HB1.o, ⟨(fun h => by cases h), fun h => ?_⟩⟩
            have := HQ.o.2 ⟨h.1, fun q hq hqj => h.2 q hq (by omega)⟩
            cases this
          case measure => first | (simp [intOf]; done) | (simp [intOf]; omega)
        | true =>
          go_wp2_with fail
          refine (Zee t v HN.o HI.o A _ _ (Tm.rep_lasts.1 _ _ _ _ _ HR.o (Keeps.alloc _ _ _))).mono ?_
          rintro e w1 ⟨r, rfl, hb, g, rfl, hg⟩
          have HB1 := zh ((HB.o.alloc (by omega) (.cells #[.int .i64 t.kind, .int .i64 t.n, .string t.s, .slice sa t.args.length sc] 27)).trans (hb.mono (by simp; omega)))
          have HGG := zh hg
          clear hb c0 c1 c2 c3 hg
          go_wp2_with fail
          go_roundw
          case rel =>
            refine ⟨j + 1, g, by omega, by go_num, rfl, HB1.o, ⟨fun h => ⟨(HQ.o.1 (by first | trivial | rfl)).1, fun q hq hqj => ?_⟩, fun h => HGG.o.2 (by rw [HT.o]; exact h.2 j HLT.o (by omega))⟩⟩
            by_cases e : q = j
            · subst e; rw [← HT.o]; exact HGG.o.1 h
            · exact (HQ.o.1 (by first | trivial | rfl)).2 q hq (by omega)
          case measure => first | (simp [intOf]; done) | (simp [intOf]; omega)
      · have hlt' : ¬ (j : Int) < (l.length : Int) := by omega
        have HFIN := zh (show g = true ↔ Zem l v from by
          rw [HQ.o, HG0.o]
          constructor
          · rintro ⟨⟨h1, h2, h3⟩, h4⟩
            refine ⟨h1, h2, h3, fun x hx => ?_⟩
            obtain ⟨q, hq, rfl⟩ := List.mem_iff_getElem.1 hx
            exact h4 q hq (by omega)
          · rintro ⟨h1, h2, h3, h4⟩
            exact ⟨⟨h1, h2, h3⟩, fun q hq _ => h4 _ (List.getElem_mem hq)⟩)
        go_wp2_with fail
        go_ret
        exact ⟨_, rfl, HB.o, _, rfl, HFIN.o⟩
end Go.Proofs.YtlpmfkpefoegeacDoor
