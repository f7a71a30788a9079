/-
  ReadSpaces: spaces ahead and behind change nothing of what is read.
-/
import Derived.Test.YtlpmfkpefoegeabDoorQReads
import Derived.Test.YtlpmfkpefoegeabDoorQSameKL
namespace Go.Proofs.YtlpmfkpefoegeabDoor
set_option linter.unusedVariables false
set_option linter.unusedSimpArgs false
open Go.RowKit
theorem bs_add (a b : Str) : bs a ++ bs b = bs (a ++ b) := by
  apply ByteArray.ext
  rw [ByteArray.data_append]
  simp [bs]
set_option maxRecDepth 100000 in
set_option maxHeartbeats 16000000 in
theorem readSpaces_walk (p gap : ByteArray) (hp : p.size ≤ 1048576) (hg : gap.size ≤ 1048576) (w : World) (ht : TabsK w.heap.size w) :
    Calls Tryd.prog 8 #[.string p, .string gap] w (Pure w (fun r _ => r = .bool true)) := by
  obtain ⟨P, hP⟩ : ∃ P : Str, p = bs P := ⟨p.data.toList, (bs_of p).symm⟩
  obtain ⟨G, hG⟩ : ∃ G : Str, gap = bs G := ⟨gap.data.toList, (bs_of gap).symm⟩
  subst hP hG
  rw [bs_size] at hp hg
  have HPG := hid (And.intro hp hg)
  have HRS := hid (fun (W : World) (hb : Below w.heap.size w W) => reads_ok w.heap.size W hb.size (ht.below hb))
  have HRD := hid (fun (W : World) (hb : Below w.heap.size w W) (s : Str) (hs : s.length ≤ 1048576) => rprog_ok s hs w.heap.size W hb.size (ht.below hb))
  have hsz : (bs G).size = G.length := bs_size G
  have hszp : (bs P).size = P.length := bs_size P
  clear ht hp hg
  go_enter Tryd.func8, Tryd.ntmps8
  go_wp2_with fail
  go_loopw [13] (fun i wr => ∃ k : Nat, k ≤ G.length ∧ i = .int .i64 (k : Int) ∧ (∀ c ∈ G.take k, spB c = true) ∧ Below w.heap.size w wr) (fun i _ => G.length - (intOf i).toNat)
  case atStart => exact ⟨0, Nat.zero_le _, rfl, by simp, Below.refl _ _⟩
  case round =>
    obtain ⟨k, hk, rfl, hsp, hbl⟩ := hrel
    have HB := hid hbl
    have HSP := hid hsp
    clear hbl hsp
    have hk0 : (0 : Int) ≤ (k : Int) := Int.natCast_nonneg _
    obtain ⟨hp, hg⟩ := HPG.out
    by_cases hlt : k < G.length
    · have hk1 : (k : Int) < ((bs G).size : Int) := by omega
      have hk2 : k < (bs G).size := by omega
      have HLT := hid hlt
      have hget : (bs G)[k] = G[k] := bs_get _ _ _
      obtain ⟨c, hc⟩ : ∃ c, c = G[k] := ⟨_, rfl⟩
      rw [← hc] at hget
      have HG := hid hget
      have HC := hid hc
      clear hget hc
      go_wp2_with fail
      all_goals first
        | (have hs : spB c = true := sp_iff.2 (by rw [← HG.out]; first | omega | (simp only [bne_eq_false_iff_eq] at *; omega))
           refine ⟨⟨k + 1, by omega, by go_num, ?_, HB.out⟩, by simp [intOf]; omega⟩
           intro x hx
           rw [List.take_succ_eq_append_getElem HLT.out, List.mem_append, List.mem_singleton] at hx
           rcases hx with hx | hx
           · exact HSP.out x hx
           · have e : x = c := hx.trans HC.out.symm
             rw [e]; exact hs)
        | skip
      refine (HRS.out wr HB.out).mono ?_
      rintro e w2 ⟨r, rfl, hb2, rfl⟩
      have HB2 := hid (HB.out.trans (hb2.mono HB.out.size))
      clear hb2
      go_wp2_with fail
      go_ret
      exact ⟨_, rfl, HB2.out, rfl⟩
    · have hke : k = G.length := by omega
      subst hke
      have HSA := hid (show ∀ c ∈ G, spB c = true by have := HSP.out; rwa [List.take_length] at this)
      by_cases hlong : 2000 < (P.length : Int) + 2 * (G.length : Int)
      · go_wp2_with fail
        refine (HRS.out wr HB.out).mono ?_
        rintro e w2 ⟨r, rfl, hb2, rfl⟩
        have HB2 := hid (HB.out.trans (hb2.mono HB.out.size))
        clear hb2
        go_wp2_with fail
        go_ret
        exact ⟨_, rfl, HB2.out, rfl⟩
      · have hcat : bs G ++ bs P ++ bs G = bs (G ++ P ++ G) := by rw [bs_add, bs_add]
        have hR := read_spaces (gap := G) (p := P) HSA.out (by omega)
        have HR2 := hid (fun (W : World) (hb : Below w.heap.size w W) => HRD.out W hb (G ++ P ++ G) (by simp only [List.length_append]; omega))
        rw [hR, ← hcat] at HR2
        have HR1 := hid (HRD.out wr HB.out P hp)
        have hs1 : (bs G).size + (bs P).size ≤ maxLen := by unfold maxLen; omega
        have hs2 : (bs G ++ bs P).size + (bs G).size ≤ maxLen := by rw [bs_add, bs_size, bs_size]; unfold maxLen; simp only [List.length_append]; omega
        clear hcat hR
        generalize readR P = rp at *
        obtain ⟨cl, er⟩ := rp
        go_wp2_with fail
        refine HR1.out.mono ?_
        rintro e w1 ⟨pv, rfl, hb1, hl1⟩
        have HB1 := hid (HB.out.trans (hb1.mono HB.out.size))
        have HL1 := hid hl1
        clear hb1 hl1
        go_wp2_with fail
        refine (HR2.out w1 HB1.out).mono ?_
        rintro e w2 ⟨qv, rfl, hb2, hl2⟩
        have HB2 := hid (HB1.out.trans (hb2.mono HB1.out.size))
        have HB12 := hid hb2
        obtain ⟨a, cap, b, off, rfl, hlc, hcm, hlb, ha, he⟩ := SlR.at (SlR.keeps Cl.rep_lasts HL1.out (Keeps.of_below hb2))
        obtain ⟨a', cap', b', off', rfl, hlc', hcm', hlb', ha', he'⟩ := SlR.at hl2
        have HE := hid he
        have HA := hid ha
        have HE' := hid he'
        have HA' := hid ha'
        have dE : (er != er) = false := by simp
        clear hb2 hl2 he ha he' ha'
        go_wp2_with fail
        refine (HRS.out w2 HB2.out).mono ?_
        rintro e w3 ⟨r, rfl, hb3, rfl⟩
        have HB3 := hid (HB2.out.trans (hb3.mono HB2.out.size))
        have HE3 := hid (Elems.keeps Cl.rep_lasts (fun h => (HA.out (List.length_pos_iff.2 h)).2) HE.out (Keeps.of_below hb3))
        have HE3' := hid (Elems.keeps Cl.rep_lasts (fun h => (HA'.out (List.length_pos_iff.2 h)).2) HE'.out (Keeps.of_below hb3))
        clear hb3 HE HE' HR1 HR2
        go_wp2_with fail
        go_loopw [78] (fun i wr => ∃ k : Nat, k ≤ cl.length ∧ i = .int .i64 (k : Int) ∧ Below w3.heap.size w3 wr) (fun i _ => cl.length - (intOf i).toNat)
        case atStart => exact ⟨0, Nat.zero_le _, rfl, Below.refl _ _⟩
        case round =>
          obtain ⟨k, hk, rfl, hb⟩ := hrel
          have HBr := hid hb
          clear hb
          have hk0 : (0 : Int) ≤ (k : Int) := Int.natCast_nonneg _
          by_cases hlt : k < cl.length
          · obtain ⟨rfl, hAb⟩ := HA.out (by omega)
            obtain ⟨rfl, hAb'⟩ := HA'.out (by omega)
            obtain ⟨sa, sc, ba, bc, c0, c1, c2, c3, c4, c5, hr⟩ := cl_cells HE3.out hAb (Keeps.of_below HBr.out) hlt
            obtain ⟨sa', sc', ba', bc', d0, d1, d2, d3, d4, d5, hr'⟩ := cl_cells HE3'.out hAb' (Keeps.of_below HBr.out) hlt
            obtain ⟨x0, x1, x2, x3, ex, hh, hbd, -⟩ := hr
            obtain ⟨y0, y1, y2, y3, ey, hh', hbd', -⟩ := hr'
            simp only [List.cons.injEq, Value.slice.injEq, true_and, and_true] at ex ey
            obtain ⟨⟨rfl, rfl⟩, rfl, rfl⟩ := ex
            obtain ⟨⟨rfl, rfl⟩, rfl, rfl⟩ := ey
            have lb := World.block_lt_of_cell? wr _ c0
            have lb' := World.block_lt_of_cell? wr _ d0
            simp only at lb lb'
            have hk1 : (k : Int) < (cl.length : Int) := by omega
            obtain ⟨c, hc⟩ : ∃ c, c = cl[k] := ⟨_, rfl⟩
            rw [← hc] at c0 c1 c2 c3 c4 c5 d0 d1 d2 d3 d4 d5 hh hh' hbd hbd'
            clear hc
            have HSA1 := hid (fun (W : World) (hb : Below wr.heap.size wr W) => same_keep_ok c.head c.head (fun _ => True) W _ _ (Tm.rep_lasts.1 _ _ _ _ _ (Tm.rep_lasts.2.1 _ _ _ _ _ hh fun _ _ _ => trivial) (Keeps.of_below hb)) (Tm.rep_lasts.1 _ _ _ _ _ (Tm.rep_lasts.2.1 _ _ _ _ _ hh' fun _ _ _ => trivial) (Keeps.of_below hb)))
            have HSA2 := hid (fun (W : World) (hb : Below wr.heap.size wr W) => sames_ok c.body c.body (fun _ => True) W _ _ (SlR.keeps Tm.rep_lasts (SlR.mono Tm.rep_lasts (by omega) hbd fun _ _ _ => trivial) (Keeps.of_below hb)) (SlR.keeps Tm.rep_lasts (SlR.mono Tm.rep_lasts (by omega) hbd' fun _ _ _ => trivial) (Keeps.of_below hb)))
            have HCC := hid (fun (W : World) (hb : Below wr.heap.size wr W) => And.intro ((hb.cell (p := ⟨b, off + k * 6, none⟩) lb).trans c0) (And.intro ((hb.cell (p := ⟨b, off + k * 6 + 1, none⟩) lb).trans c1) (And.intro ((hb.cell (p := ⟨b, off + k * 6 + 2, none⟩) lb).trans c2) (And.intro ((hb.cell (p := ⟨b, off + k * 6 + 3, none⟩) lb).trans c3) (And.intro ((hb.cell (p := ⟨b, off + k * 6 + 4, none⟩) lb).trans c4) ((hb.cell (p := ⟨b, off + k * 6 + 5, none⟩) lb).trans c5))))))
            have HDD := hid (fun (W : World) (hb : Below wr.heap.size wr W) => And.intro ((hb.cell (p := ⟨b', off' + k * 6, none⟩) lb').trans d0) (And.intro ((hb.cell (p := ⟨b', off' + k * 6 + 1, none⟩) lb').trans d1) (And.intro ((hb.cell (p := ⟨b', off' + k * 6 + 2, none⟩) lb').trans d2) (And.intro ((hb.cell (p := ⟨b', off' + k * 6 + 3, none⟩) lb').trans d3) (And.intro ((hb.cell (p := ⟨b', off' + k * 6 + 4, none⟩) lb').trans d4) ((hb.cell (p := ⟨b', off' + k * 6 + 5, none⟩) lb').trans d5))))))
            clear c0 c1 c2 c3 c4 c5 d0 d1 d2 d3 d4 d5 hh hh' hbd hbd' hlt
            unfold maxLen at hcm hcm'
            go_wp2_with fail
            have hF0 : Below wr.heap.size wr wr.drew := (Below.refl _ _).drew
            have hvv : (c.vars != c.vars) = false := by simp
            refine wp_region_F (F := fun _ w' => Below wr.heap.size wr w') (by kernel_rfl) ?_
            have HF := hF0
            refine wpTk (i := 0) (v := ?_) rfl (Or.inl ⟨by rfl, ?_⟩) HF ?_
            rotate_left
            · (intro w' hw; clear hw; go_simp <;> with_reducible rfl)
            try simp only [Act.put, List.setIfInBounds_toArray, List.set_cons_zero, List.set_cons_succ]
            refine wpTk (i := 1) (v := ?_) rfl (Or.inl ⟨by rfl, ?_⟩) HF ?_
            rotate_left
            · (intro w' hw; clear hw; go_simp <;> with_reducible rfl)
            try simp only [Act.put, List.setIfInBounds_toArray, List.set_cons_zero, List.set_cons_succ]
            refine wpTk (i := 2) (v := ?_) rfl (Or.inl ⟨by rfl, ?_⟩) HF ?_
            rotate_left
            · (intro w' hw; clear hw; go_simp <;> with_reducible rfl)
            try simp only [Act.put, List.setIfInBounds_toArray, List.set_cons_zero, List.set_cons_succ]
            refine wpTk (i := 3) (v := ?_) rfl (Or.inl ⟨by rfl, ?_⟩) HF ?_
            rotate_left
            · (intro w' hw; clear hw; go_simp <;> with_reducible rfl)
            try simp only [Act.put, List.setIfInBounds_toArray, List.set_cons_zero, List.set_cons_succ]
            refine wpTk (i := 4) (v := .int .i64 c.vars) rfl (Or.inl ⟨by rfl, ?_⟩) HF ?_
            · (intro w' hw; obtain ⟨f0, f1, f2, f3, f4, f5⟩ := HCC.out w' hw; clear hw; go_simp)
            try simp only [Act.put, List.setIfInBounds_toArray, List.set_cons_zero, List.set_cons_succ]
            refine wpTk (i := 5) (v := ?_) rfl (Or.inl ⟨by rfl, ?_⟩) HF ?_
            rotate_left
            · (intro w' hw; clear hw; go_simp <;> with_reducible rfl)
            try simp only [Act.put, List.setIfInBounds_toArray, List.set_cons_zero, List.set_cons_succ]
            refine wpTk (i := 6) (v := ?_) rfl (Or.inl ⟨by rfl, ?_⟩) HF ?_
            rotate_left
            · (intro w' hw; clear hw; go_simp <;> with_reducible rfl)
            try simp only [Act.put, List.setIfInBounds_toArray, List.set_cons_zero, List.set_cons_succ]
            refine wpTk (i := 7) (v := ?_) rfl (Or.inl ⟨by rfl, ?_⟩) HF ?_
            rotate_left
            · (intro w' hw; clear hw; go_simp <;> with_reducible rfl)
            try simp only [Act.put, List.setIfInBounds_toArray, List.set_cons_zero, List.set_cons_succ]
            refine wpTk (i := 8) (v := ?_) rfl (Or.inl ⟨by rfl, ?_⟩) HF ?_
            rotate_left
            · (intro w' hw; clear hw; go_simp <;> with_reducible rfl)
            try simp only [Act.put, List.setIfInBounds_toArray, List.set_cons_zero, List.set_cons_succ]
            refine wpTk (i := 9) (v := .int .i64 c.vars) rfl (Or.inl ⟨by rfl, ?_⟩) HF ?_
            · (intro w' hw; obtain ⟨g0, g1, g2, g3, g4, g5⟩ := HDD.out w' hw; clear hw; go_simp)
            try simp only [Act.put, List.setIfInBounds_toArray, List.set_cons_zero, List.set_cons_succ]
            refine wpTk (i := 10) (v := .bool false) rfl (Or.inl ⟨by rfl, ?_⟩) HF ?_
            · (intro w' hw; clear hw; go_simp)
            try simp only [Act.put, List.setIfInBounds_toArray, List.set_cons_zero, List.set_cons_succ]
            refine wpTk (i := 11) (v := ?_) rfl (Or.inl ⟨by rfl, ?_⟩) HF ?_
            rotate_left
            · (intro w' hw; clear hw; go_simp <;> with_reducible rfl)
            try simp only [Act.put, List.setIfInBounds_toArray, List.set_cons_zero, List.set_cons_succ]
            refine wpTk (i := 12) (v := ?_) rfl (Or.inl ⟨by rfl, ?_⟩) HF ?_
            rotate_left
            · (intro w' hw; clear hw; go_simp <;> with_reducible rfl)
            try simp only [Act.put, List.setIfInBounds_toArray, List.set_cons_zero, List.set_cons_succ]
            refine wpTk (i := 13) (v := ?_) rfl (Or.inl ⟨by rfl, ?_⟩) HF ?_
            rotate_left
            · (intro w' hw; clear hw; go_simp <;> with_reducible rfl)
            try simp only [Act.put, List.setIfInBounds_toArray, List.set_cons_zero, List.set_cons_succ]
            refine wpTk (i := 14) (v := ?_) rfl (Or.inl ⟨by rfl, ?_⟩) HF ?_
            rotate_left
            · (intro w' hw; clear hw; go_simp <;> with_reducible rfl)
            try simp only [Act.put, List.setIfInBounds_toArray, List.set_cons_zero, List.set_cons_succ]
            refine wpTk (i := 15) (v := ?_) rfl (Or.inl ⟨by rfl, ?_⟩) HF ?_
            rotate_left
            · (intro w' hw; clear hw; go_simp <;> with_reducible rfl)
            try simp only [Act.put, List.setIfInBounds_toArray, List.set_cons_zero, List.set_cons_succ]
            refine wpTk (i := 16) (v := .agg #[.int .i64 c.head.kind, .int .i64 c.head.n, .string c.head.s, .slice sa c.head.args.length sc]) rfl (Or.inl ⟨by rfl, ?_⟩) HF ?_
            · (intro w' hw; obtain ⟨f0, f1, f2, f3, f4, f5⟩ := HCC.out w' hw; clear hw; go_simp)
            try simp only [Act.put, List.setIfInBounds_toArray, List.set_cons_zero, List.set_cons_succ]
            refine wpTk (i := 17) (v := ?_) rfl (Or.inl ⟨by rfl, ?_⟩) HF ?_
            rotate_left
            · (intro w' hw; clear hw; go_simp <;> with_reducible rfl)
            try simp only [Act.put, List.setIfInBounds_toArray, List.set_cons_zero, List.set_cons_succ]
            refine wpTk (i := 18) (v := ?_) rfl (Or.inl ⟨by rfl, ?_⟩) HF ?_
            rotate_left
            · (intro w' hw; clear hw; go_simp <;> with_reducible rfl)
            try simp only [Act.put, List.setIfInBounds_toArray, List.set_cons_zero, List.set_cons_succ]
            refine wpTk (i := 19) (v := ?_) rfl (Or.inl ⟨by rfl, ?_⟩) HF ?_
            rotate_left
            · (intro w' hw; clear hw; go_simp <;> with_reducible rfl)
            try simp only [Act.put, List.setIfInBounds_toArray, List.set_cons_zero, List.set_cons_succ]
            refine wpTk (i := 20) (v := ?_) rfl (Or.inl ⟨by rfl, ?_⟩) HF ?_
            rotate_left
            · (intro w' hw; clear hw; go_simp <;> with_reducible rfl)
            try simp only [Act.put, List.setIfInBounds_toArray, List.set_cons_zero, List.set_cons_succ]
            refine wpTk (i := 21) (v := .agg #[.int .i64 c.head.kind, .int .i64 c.head.n, .string c.head.s, .slice sa' c.head.args.length sc']) rfl (Or.inl ⟨by rfl, ?_⟩) HF ?_
            · (intro w' hw; obtain ⟨g0, g1, g2, g3, g4, g5⟩ := HDD.out w' hw; clear hw; go_simp)
            try simp only [Act.put, List.setIfInBounds_toArray, List.set_cons_zero, List.set_cons_succ]
            refine wpAnyF_one (i := 22) (by kernel_rfl) (wpOp_run rfl (by rfl) ?_)
            go_simp
            refine (HSA1.out _ HF).mono ?_
            rintro e w4 ⟨v, rfl, hb4, r, rfl, hr⟩
            obtain rfl : r = true := hr.2 (by first | rfl | trivial)
            have HF4 : Below wr.heap.size wr w4 := HF.trans (hb4.mono HF.size)
            clear hb4 hr
            refine ⟨fun _ _ _ => HF4, ?_⟩
            refine wpTk (i := 23) (v := ?_) rfl (Or.inl ⟨by rfl, ?_⟩) HF4 ?_
            rotate_left
            · (intro w' hw; clear hw; go_simp <;> with_reducible rfl)
            try simp only [Act.put, List.setIfInBounds_toArray, List.set_cons_zero, List.set_cons_succ]
            refine wpTk (i := 24) (v := ?_) rfl (Or.inl ⟨by rfl, ?_⟩) HF4 ?_
            rotate_left
            · (intro w' hw; clear hw; go_simp <;> with_reducible rfl)
            try simp only [Act.put, List.setIfInBounds_toArray, List.set_cons_zero, List.set_cons_succ]
            refine wpTk (i := 25) (v := ?_) rfl (Or.inl ⟨by rfl, ?_⟩) HF4 ?_
            rotate_left
            · (intro w' hw; clear hw; go_simp <;> with_reducible rfl)
            try simp only [Act.put, List.setIfInBounds_toArray, List.set_cons_zero, List.set_cons_succ]
            refine wpTk (i := 26) (v := ?_) rfl (Or.inl ⟨by rfl, ?_⟩) HF4 ?_
            rotate_left
            · (intro w' hw; clear hw; go_simp <;> with_reducible rfl)
            try simp only [Act.put, List.setIfInBounds_toArray, List.set_cons_zero, List.set_cons_succ]
            refine wpTk (i := 27) (v := ?_) rfl (Or.inl ⟨by rfl, ?_⟩) HF4 ?_
            rotate_left
            · (intro w' hw; clear hw; go_simp <;> with_reducible rfl)
            try simp only [Act.put, List.setIfInBounds_toArray, List.set_cons_zero, List.set_cons_succ]
            refine wpTk (i := 28) (v := ?_) rfl (Or.inl ⟨by rfl, ?_⟩) HF4 ?_
            rotate_left
            · (intro w' hw; clear hw; go_simp <;> with_reducible rfl)
            try simp only [Act.put, List.setIfInBounds_toArray, List.set_cons_zero, List.set_cons_succ]
            refine wpTk (i := 29) (v := ?_) rfl (Or.inl ⟨by rfl, ?_⟩) HF4 ?_
            rotate_left
            · (intro w' hw; clear hw; go_simp <;> with_reducible rfl)
            try simp only [Act.put, List.setIfInBounds_toArray, List.set_cons_zero, List.set_cons_succ]
            refine wpTk (i := 30) (v := .slice ba c.body.length bc) rfl (Or.inl ⟨by rfl, ?_⟩) HF4 ?_
            · (intro w' hw; obtain ⟨f0, f1, f2, f3, f4, f5⟩ := HCC.out w' hw; clear hw; go_simp)
            try simp only [Act.put, List.setIfInBounds_toArray, List.set_cons_zero, List.set_cons_succ]
            refine wpTk (i := 31) (v := ?_) rfl (Or.inl ⟨by rfl, ?_⟩) HF4 ?_
            rotate_left
            · (intro w' hw; clear hw; go_simp <;> with_reducible rfl)
            try simp only [Act.put, List.setIfInBounds_toArray, List.set_cons_zero, List.set_cons_succ]
            refine wpTk (i := 32) (v := ?_) rfl (Or.inl ⟨by rfl, ?_⟩) HF4 ?_
            rotate_left
            · (intro w' hw; clear hw; go_simp <;> with_reducible rfl)
            try simp only [Act.put, List.setIfInBounds_toArray, List.set_cons_zero, List.set_cons_succ]
            refine wpTk (i := 33) (v := ?_) rfl (Or.inl ⟨by rfl, ?_⟩) HF4 ?_
            rotate_left
            · (intro w' hw; clear hw; go_simp <;> with_reducible rfl)
            try simp only [Act.put, List.setIfInBounds_toArray, List.set_cons_zero, List.set_cons_succ]
            refine wpTk (i := 34) (v := ?_) rfl (Or.inl ⟨by rfl, ?_⟩) HF4 ?_
            rotate_left
            · (intro w' hw; clear hw; go_simp <;> with_reducible rfl)
            try simp only [Act.put, List.setIfInBounds_toArray, List.set_cons_zero, List.set_cons_succ]
            refine wpTk (i := 35) (v := .slice ba' c.body.length bc') rfl (Or.inl ⟨by rfl, ?_⟩) HF4 ?_
            · (intro w' hw; obtain ⟨g0, g1, g2, g3, g4, g5⟩ := HDD.out w' hw; clear hw; go_simp)
            try simp only [Act.put, List.setIfInBounds_toArray, List.set_cons_zero, List.set_cons_succ]
            refine wpAnyF_one (i := 36) (by kernel_rfl) (wpOp_run rfl (by rfl) ?_)
            go_simp
            refine (HSA2.out _ HF4).mono ?_
            rintro e w5 ⟨v, rfl, hb5, r, rfl, hr⟩
            obtain rfl : r = true := hr.2 (by first | rfl | trivial)
            have HF5 : Below wr.heap.size wr w5 := HF4.trans (hb5.mono HF4.size)
            clear hb5 hr
            refine ⟨fun _ _ _ => HF5, ?_⟩
            refine wpTk (i := 37) (v := ?_) rfl (Or.inl ⟨by rfl, ?_⟩) HF5 ?_
            rotate_left
            · (intro w' hw; clear hw; go_simp <;> with_reducible rfl)
            try simp only [Act.put, List.setIfInBounds_toArray, List.set_cons_zero, List.set_cons_succ]
            refine wpAnyF_one (i := 38) (by kernel_rfl) (wpOp_run rfl (by rfl) ?_)
            go_simp
            refine ⟨fun _ _ h => h, wpAnyF_done (by kernel_rfl) ?_ _⟩
            have HBf := hid (HBr.out.trans (HF5.mono HBr.out.size))
            clear HF HF4 hF0 HF5
            go_wp2_with fail
            exact ⟨⟨k + 1, by omega, by go_num, HBf.out⟩, by simp [intOf]; omega⟩
          · have hke : k = cl.length := by omega
            subst hke
            go_wp2_with fail
            go_ret
            exact ⟨_, rfl, HB3.out.trans (HBr.out.mono HB3.out.size), rfl⟩
end Go.Proofs.YtlpmfkpefoegeabDoor
