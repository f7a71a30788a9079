/-
  read.Query.
-/
import Derived.Test.YtlpmfkpefoegeacDoorQRd8
import Derived.Test.YtlpmfkpefoegeacDoorPRead3
namespace Go.Proofs.YtlpmfkpefoegeacDoor
set_option linter.unusedVariables false
set_option linter.unusedSimpArgs false
open Go.RowKit
section
variable {B base g : Nat} {vv v1 : Value} {r r1 r2 : Rd} {w w0 w1 w2 : World}
theorem rd_new (s : Str) (hs : s.length ≤ 2000) (hB : B ≤ w.heap.size) (ht : TabsK B w) :
    RdI B (w.heap.size + 1) w.heap.size (.slice none 0 0) ⟨s, [], false⟩ (w.alloc (.cells #[.string (bs s), .slice none 0 0, .bool false] 53)) :=
  ⟨blk_new _ _, OwnF.nil, ht.below ((Below.refl _ _).alloc (Nat.le_refl _) _), ⟨hB, by omega, by simp⟩, by simpa using hs⟩
theorem RdI.below_of (h : RdI B base g v1 r w1) (hg : w0.heap.size ≤ g) (hb : Below w0.heap.size w0 w1) (hc : Ch (RdM g v1) w1 w2) : Below w0.heap.size w0 w2 :=
  ((Ch.of_below (M := fun b => w0.heap.size ≤ b) hb).trans hc fun b e => by
    rcases e with e | e
    · exact .inl (by omega)
    · exact .inl (by have := (h.vars.lt b e).1; have := h.bg; omega)).below fun k hk => by omega
end
def QryPost (w : World) (q : List Tm × Int × Int) (e : Ending) (w' : World) : Prop :=
  ∃ lv, e = .returned (.tuple #[lv, .int .i64 q.2.1, .int .i64 q.2.2]) ∧ Below w.heap.size w w' ∧ TmsR (fun b => w.heap.size ≤ b) w' q.1 lv
theorem query_long {s : Str} (h : s.length > 2000) : queryR s = ([], 0, 3) := by unfold queryR; rw [if_pos h]
theorem query_bad {s : Str} (h : ¬ s.length > 2000) (hb : (goalsR ⟨s, [], false⟩).2.bad = true ∨ (goalsR ⟨s, [], false⟩).2.space.s ≠ [] ∨ ¬ GoodQ (goalsR ⟨s, [], false⟩).1 ((goalsR ⟨s, [], false⟩).2.vars.length : Nat)) : queryR s = ([], 0, 1) := by
  unfold queryR; rw [if_neg h, if_pos hb]
theorem query_yes {s : Str} (h : ¬ s.length > 2000) (hb : ¬ ((goalsR ⟨s, [], false⟩).2.bad = true ∨ (goalsR ⟨s, [], false⟩).2.space.s ≠ [] ∨ ¬ GoodQ (goalsR ⟨s, [], false⟩).1 ((goalsR ⟨s, [], false⟩).2.vars.length : Nat))) :
    queryR s = ((goalsR ⟨s, [], false⟩).1, (((goalsR ⟨s, [], false⟩).2.vars.length : Nat) : Int), 0) := by
  unfold queryR; rw [if_neg h, if_neg hb]
set_option maxRecDepth 100000 in
set_option maxHeartbeats 8000000 in
theorem rquery_ok (s : Str) (hs : s.length ≤ 1048576) (B : Nat) (w : World) (hB : B ≤ w.heap.size) (ht : TabsK B w) : Calls Tryd.prog 11 #[.string (bs s)] w (QryPost w (queryR s)) := by
  have HT := hid ht
  have hz : (bs s).size ≤ 1048576 := by rw [bs_size]; exact hs
  clear ht hs
  by_cases hl : s.length > 2000
  · have hd : decide (2000 < (bs s).size) = true := by rw [bs_size]; simpa using hl
    have hd' : decide ((2000 : Int) < ((bs s).size : Int)) = true := by rw [bs_size]; simp; omega
    have HQ := hid (query_long hl)
    clear hl
    go_enter Tryd.func11, Tryd.ntmps11
    go_wp2_with fail
    go_ret3
    rw [HQ.out]
    exact ⟨_, rfl, Below.refl _ _, SlR.nil ..⟩
  · have hd : decide (2000 < (bs s).size) = false := by rw [bs_size]; simpa using hl
    have hd' : decide ((2000 : Int) < ((bs s).size : Int)) = false := by rw [bs_size]; simp; omega
    have HL := hid hl
    have HI := hid (rd_new s (by omega) hB HT.out)
    have HB1 := hid (show Below w.heap.size w (w.alloc (.cells #[.string (bs s), .slice none 0 0, .bool false] 53)) from (Below.refl _ _).alloc (Nat.le_refl _) _)
    obtain ⟨G, hG⟩ : ∃ G, G = goalsR ⟨s, [], false⟩ := ⟨_, rfl⟩
    have HG := hid hG
    have HGO := hid (rgoals_ok HI.out)
    rw [← hG] at HGO
    have HND := hid (show Tm.nodesL G.1 ≤ 2001 by rw [hG]; have := goalsR_nodes ⟨s, [], false⟩; have e : (⟨s, [], false⟩ : Rd).s.length = s.length := rfl; omega)
    clear hl hG
    go_enter Tryd.func11, Tryd.ntmps11
    go_wp2_with fail
    refine HGO.out.mono ?_
    rintro e w2 ⟨lv, v2, rfl, k1, k2, k3, k4, k5⟩
    obtain ⟨la, lc, lb, lo, rfl, hl1, hl2, hl3, -⟩ := k4.at
    have HI2 := hid k1
    have HB2 := hid (HI.out.below_of (Nat.le_refl _) HB1.out k2)
    have HR2 := hid k4
    have HSP := hid (rspace_ok k1)
    clear k1 k2 k3 k4 k5
    go_wp2_with fail
    refine HSP.out.mono ?_
    rintro e w3 ⟨rfl, v3, k1, k2, k3⟩
    have HI3 := hid k1
    have HB3 := hid (HI2.out.below_of (Nat.le_refl _) HB2.out k2)
    have HR3 := hid (SlR.mono (A' := fun b => w.heap.size ≤ b) Tm.rep_lasts (by omega) (SlR.keeps Tm.rep_lasts HR2.out (k2.keeps fun b _ hb => hb.2)) fun b _ hb => by have := hb.1; simp only [World.size_alloc] at this; omega)
    obtain ⟨b0, b1, b2, bf⟩ := k1.cells
    have hgl := k1.lt.1
    obtain ⟨va, vc, hv, hvl, hvm⟩ := k1.vars.val
    have hlen := k1.len
    have e0 : G.2.space.s = spaceF G.2.s := rfl
    have e1 : G.2.space.vars = G.2.vars := rfl
    have e2 : G.2.space.bad = G.2.bad := rfl
    rw [e0] at b0 hlen
    rw [e1] at hv hvl hlen
    rw [e2] at b2
    subst hv
    unfold maxLen at hvm
    clear k1 k2 k3 HSP HGO e0 e1 e2
    have HBAD := hid (fun hb => query_bad (s := s) HL.out hb)
    have HOK := hid (fun hb => query_yes (s := s) HL.out hb)
    rw [← HG.out] at HBAD HOK
    cases hbd : G.2.bad with
    | true =>
      rw [hbd] at b2
      have HQ := hid (HBAD.out (.inl hbd))
      clear hbd
      go_wp2_with fail
      go_ret3
      rw [HQ.out]
      exact ⟨_, rfl, HB3.out, SlR.nil ..⟩
    | false =>
      have HBD := hid hbd
      rw [hbd] at b2
      clear hbd
      cases hsp : spaceF G.2.s with
      | cons c rest =>
        rw [hsp] at b0
        obtain ⟨t1, t2, t3⟩ := cons_text c rest
        have HQ := hid (HBAD.out (.inr (.inl (by show spaceF G.2.s ≠ []; rw [hsp]; simp))))
        clear hsp
        go_wp2_with fail
        go_ret3
        rw [HQ.out]
        exact ⟨_, rfl, HB3.out, SlR.nil ..⟩
      | nil =>
        rw [hsp] at b0
        obtain ⟨t1, t2⟩ := nil_text
        have HS := hid (show G.2.space.s = [] from hsp)
        have hv64 : I64 (G.2.vars.length : Int) := by unfold I64; omega
        have HGQ := hid (goodQuery_ok G.1 (G.2.vars.length : Int) (by have := HND.out; omega) hv64 _ w3 _ HR3.out)
        clear hsp hv64
        go_wp2_with fail
        refine HGQ.out.mono ?_
        rintro e w4 ⟨v, rfl, hb4, t, rfl, hgt⟩
        have HB4 := hid (HB3.out.trans (hb4.mono HB3.out.size))
        have HR4 := hid (SlR.keeps Tm.rep_lasts HR3.out (Keeps.of_below hb4))
        obtain ⟨b0, b1, b2, bf⟩ := (HI3.out.below hb4).cells
        have hgl4 := (HI3.out.below hb4).lt.1
        have HGT := hid hgt
        clear hb4 hgt
        cases t with
        | false =>
          have HQ := hid (HBAD.out (.inr (.inr (fun h => by have := HGT.out.2 h; cases this))))
          clear HBAD HOK
          go_wp2_with fail
          go_ret3
          rw [HQ.out]
          exact ⟨_, rfl, HB4.out, SlR.nil ..⟩
        | true =>
          have HQ := hid (HOK.out (by
            rintro (h | h | h)
            · rw [HBD.out] at h; cases h
            · exact h HS.out
            · exact h (HGT.out.1 rfl)))
          have e1 : G.2.space.vars = G.2.vars := rfl
          rw [e1] at *
          clear HBAD HOK e1
          go_wp2_with fail
          go_quiet (fail)
          have HB5 := hid (show Below w.heap.size w (w4.drewN nq) from HB4.out.trans ⟨rfl, rfl, rfl, Nat.le_refl _, fun _ _ => rfl⟩)
          have HR5 := hid (SlR.keeps (w' := w4.drewN nq) Tm.rep_lasts HR4.out ⟨Nat.le_refl _, fun _ _ _ => rfl⟩)
          generalize w4.drewN nq = W5 at *
          go_wp2_with fail
          go_ret3
          rw [HQ.out]
          exact ⟨_, rfl, HB5.out, HR5.out⟩
end Go.Proofs.YtlpmfkpefoegeacDoor
