/-
  queristref.LookAt.
-/
import Derived.Test.YtlpmfkpefoegeaaQLook
import Derived.Test.YtlpmfkpefoegeaaQMap
namespace Go.Proofs.Ytlpmfkpefoegeaa
set_option linter.unusedVariables false
set_option linter.unusedSimpArgs false
open Go.RowKit

theorem tyMapIB : IntMapTy Try.prog 83 4 (.bool false) :=
  ⟨3, Try.underlying83, Try.underlying3, fun _ => by kernel_rfl⟩

/-- the places that were seen, as the map holds them -/
def seenB (s : List Int) : List (Int × Value) := s.map fun x => (x, .bool true)

theorem seenB_get (s : List Int) (b : Int) : mget (seenB s) b = if b ∈ s then some (.bool true) else none := by
  induction s with
  | nil => simp [seenB, mget]
  | cons x r ih =>
    unfold seenB mget at ih ⊢
    rw [List.map_cons, List.find?_cons]
    by_cases h : x = b
    · subst h; simp
    · have h1 : (x == b) = false := by simpa using h
      simp only [h1]
      rw [ih]
      have h2 : ¬ b = x := fun e => h e.symm
      simp [h2]

/-- how many entries a map has -/
def mapLen (w : World) (r : Nat) : Nat := match w.heap[r]? with
  | some (.map es _) => es.size
  | _ => 0

theorem mapLen_is {w : World} {r : Nat} {L : List (Int × Value)} (h : MapIs w r L) : mapLen w r = L.length := by
  obtain ⟨es, n, h1, h2⟩ := h
  unfold mapLen
  rw [h1]
  have := congrArg List.length h2
  simpa using this

/-- the way of LookAt -/
def SeenSt (l : List Ce) (a0 : Int) (w : World) (r : Nat) (s : List Int) (b : Int) : Prop := Way l a0 s b ∧ I64 b ∧ MapIs w r (seenB s)

set_option maxHeartbeats 2000000 in
theorem lookAt_ok (h : Hp) (a : Int) (ha : I64 a) (A : Nat → Prop) (w : World) (vs : List Value) (hh : Hp.rep A w h vs) :
    Calls Try.prog 44 #[.agg vs.toArray, .int .i64 a] w (Pure w (IntIs (look h.cells a))) := by
  obtain ⟨va, cap, vb, tap, cb, coff, tb, toff, rfl, hc1, hc2, hc3, ht1, ht2, ht3, HA, HE, HA', HE'⟩ := HpHid hh
  have HI := hid ha
  clear hh ha
  have hmm := @run_makeMap Try.prog
  go_enter Try.func44, Try.ntmps44
  go_wp2_with fail
  generalize hW : (w.alloc (.cells #[.slice va h.cells.length cap, .slice vb h.trail.length tap] 38)).alloc (.map #[] 0) = W0
  have hB0 : Below w.heap.size w W0 := by subst hW; exact ((Below.refl _ _).alloc (Nat.le_refl _) _).alloc (by simp) _
  have hX0 : W0.heap[w.heap.size]? = some (.cells #[.slice va h.cells.length cap, .slice vb h.trail.length tap] 38 (0, 0)) := by subst hW; exact blk_alloc (blk_new _ _) _
  have hM0 : MapIs W0 (w.heap.size + 1) (seenB []) := by
    subst hW
    have := MapIs.made (w.alloc (.cells #[.slice va h.cells.length cap, .slice vb h.trail.length tap] 38))
    simpa [seenB] using this
  have HB0 := hid hB0
  have HX0 := hid hX0
  have HM0 := hid hM0
  clear hB0 hX0 hM0 hW hmm
  go_loopw [1] (fun x wr => ∃ (s : List Int) (b : Int), x = .int .i64 b ∧ Below w.heap.size w wr ∧ wr.heap[w.heap.size]? = some (.cells #[.slice va h.cells.length cap, .slice vb h.trail.length tap] 38 (0, 0)) ∧ SeenSt h.cells a wr (w.heap.size + 1) s b) (fun _ wr => h.cells.length + 1 - mapLen wr (w.heap.size + 1))
  case atStart => exact ⟨[], a, rfl, HB0.out, HX0.out, Way.start _ _, HI.out, HM0.out⟩
  case round =>
    obtain ⟨s, b, rfl, hb, hx, hway, hbi, hm⟩ := hrel
    have HB := hid hb
    have HX := hid hx
    have HW := hid hway
    have HM := hid hm
    have hsl := hway.len
    have hml := mapLen_is hm
    simp only [seenB, List.length_map] at hml
    have HML := hid hml
    have hmlt := hm.lt
    have hz' : w.heap.size < wr.heap.size := by omega
    obtain ⟨x0, x1, xf⟩ := box2 hx
    have hlk := run_mlookup (n := b) tyMapIB hm
    rw [seenB_get] at hlk
    clear hb hx hway hm hml
    by_cases hin : Inb h.cells b
    · have HIN := hid hin
      obtain ⟨v, rfl, hv, hcv⟩ := cellAt_eq hin
      have HCV := hid hcv
      have hv0 : (0 : Int) ≤ (v : Int) := Int.natCast_nonneg _
      have hv1 : (v : Int) < (h.cells.length : Int) := by omega
      obtain ⟨rfl, hAb⟩ := HA.out (by omega)
      have hk2 : Keeps A w wr := Keeps.of_below HB.out
      clear hin hcv
      by_cases hms : (v : Int) ∈ s
      · rw [if_pos hms] at hlk
        simp only [Option.getD_some] at hlk
        have hres := hid (look_none (fun x hx => HW.out.again hms x hx))
        clear hms hk2
        go_wp2_with fail
        go_ret
        exact ⟨_, rfl, HB.out, by unfold IntIs; rw [hres.out]; rfl⟩
      · rw [if_neg hms] at hlk
        simp only [Option.getD_none] at hlk
        obtain ⟨w2, hput, hm2, hch, hsz2⟩ := run_mput_new tyMapIB HM.out (n := (v : Int)) (by rw [seenB_get, if_neg hms]) (.bool true)
        rw [show seenB s ++ [((v : Int), Value.bool true)] = seenB (s ++ [(v : Int)]) by simp [seenB]] at hm2
        have HM2 := hid hm2
        have hml2 := mapLen_is hm2
        simp only [seenB, List.length_map, List.length_append, List.length_singleton] at hml2
        have HML2 := hid hml2
        have hB2 : Below w.heap.size w w2 := ((Ch.of_below (M := fun _ => False) HB.out).trans hch (fun b hb => .inr (by subst hb; omega))).below (fun _ _ h => h)
        have HB2 := hid hB2
        have HX2 := hid ((hch.block w.heap.size (by omega) (by simp)).trans HX.out)
        obtain ⟨y0, y1, yf⟩ := box2 HX2.out
        obtain ⟨c0, c1, c2, i0, i1, i2⟩ := ce_cells HE.out hAb (Keeps.of_below (A := A) hB2) hv
        have hlb : cb < w2.heap.size := World.block_lt_of_cell? w2 _ c0
        have hzz2 : w.heap.size < w2.heap.size := by omega
        have HSZ2 := hid hsz2
        have HMS := hid hms
        clear hms hm2 hml2 hB2 hch hk2 hsz2
        by_cases hs : Stop h.cells (v : Int)
        · have hres : look h.cells a = (v : Int) := look_of ((HW.out.2.2.1 _).1 (.stop HIN.out hs))
          have HRES := hid hres
          unfold Stop at hs
          rw [HCV.out] at hs
          have HST := hid hs
          clear hres hs
          by_cases hk : h.cells[v].kind = 0
          · have hn : h.cells[v].n = v := HST.out.resolve_left (not_not_intro hk)
            rw [hk] at c0
            rw [hn] at c1
            clear hk hn
            go_wp2_with fail
            go_ret
            exact ⟨_, rfl, HB2.out.alloc (by omega) _, by unfold IntIs; rw [HRES.out]; rfl⟩
          · have hk' : (h.cells[v].kind != 0) = true := by simpa using hk
            clear hk
            go_wp2_with fail
            go_ret
            exact ⟨_, rfl, HB2.out.alloc (by omega) _, by unfold IntIs; rw [HRES.out]; rfl⟩
        · have HNX := hid (show Way h.cells a (s ++ [(v : Int)]) h.cells[v].n by
            have := HW.out.step HMS.out HIN.out hs
            rw [HCV.out] at this
            exact this)
          unfold Stop at hs
          rw [HCV.out] at hs
          have hk : h.cells[v].kind = 0 := Decidable.not_not.1 fun e => hs (.inl e)
          have hn : ¬ h.cells[v].n = v := fun e => hs (.inr e)
          have hn' : (h.cells[v].n == (v : Int)) = false := by simpa using hn
          rw [hk] at c0
          clear hs hk hn
          have hln := HNX.out.len
          simp only [List.length_append, List.length_singleton] at hln
          go_wp2_with fail
          go_roundw
          case rel =>
            exact ⟨s ++ [(v : Int)], h.cells[v].n, rfl, HB2.out.alloc (by omega) _, blk_alloc HX2.out _, HNX.out, i1, HM2.out.keeps (Keeps.alloc (fun _ => True) _ _) trivial⟩
          case measure =>
            have e1 : mapLen (w2.alloc (.cells #[.int .i64 0, .int .i64 h.cells[v].n, .string h.cells[v].s] 73)) (w.heap.size + 1) = s.length + 1 := by
              rw [← HML2.out]
              unfold mapLen
              rw [Below.heap_alloc _ _ _ (by rw [HSZ2.out]; exact hmlt)]
            rw [HML.out]
            first | rw [e1] | (simp only [e1])
            omega
    · have hres := hid (look_none (l := h.cells) (a := a) (fun x hx => hin ((HW.out.2.2.1 x).2 hx).start))
      unfold Inb at hin
      clear hlk
      go_wp2_with fail
      all_goals first
        | (exfalso; omega)
        | (go_ret
           exact ⟨_, rfl, HB.out, by unfold IntIs; rw [hres.out]; rfl⟩)
        | go_ways
end Go.Proofs.Ytlpmfkpefoegeaa
