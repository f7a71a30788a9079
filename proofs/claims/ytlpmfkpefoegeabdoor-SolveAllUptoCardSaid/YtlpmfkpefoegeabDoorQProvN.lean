/-
  The document's prover: one: does the variable stand in the term? The loop alone.
-/
import Derived.Test.YtlpmfkpefoegeabDoorQProvM
import Derived.Deep.CutRange
namespace Go.Proofs.YtlpmfkpefoegeabDoor
set_option linter.unusedVariables false
set_option linter.unusedSimpArgs false
open Go.RowKit
set_option maxRecDepth 1000000 in
set_option maxHeartbeats 80000000 in
theorem one_seen {E E1 : Env} {N : Int} {A : Nat → Prop} {w wo W6 : World} {X Z : Tm} {Xa Za : Option Addr} {Xc Zc k lb b7 b8 : Nat} {eq : Option Addr} {U R : US} {K : Act → World → Prop} {Q3 : Exit → Act → World → Prop} {c1 c2 c3 c4 c5 c6 c7 c8 c10 c11 c15 c16 c17 c18 c19 c20 c21 c22 c23 c24 c25 c26 c27 c28 c29 c30 c31 c32 c33 c34 c35 c36 c37 c38 c39 c40 c41 c42 c43 c44 c45 c46 c47 c48 c49 c50 c51 c52 c53 c54 c55 c56 c57 c58 c59 c60 c61 c62 c63 c64 c65 c66 c67 c68 c69 c70 c71 c72 c73 c74 c75 c76 c77 c78 c79 c80 c81 c82 c83 c84 c85 c86 c87 c88 c89 c90 c91 c92 c93 c94 c95 c96 c97 c98 c99 c100 c101 c102 c103 c104 c105 c106 c107 c108 c109 c110 c111 c112 c113 c114 c115 c116 c117 c118 c119 c120 c121 c122 c123 c124 c125 c126 c127 c128 c129 c130 c131 c132 c133 c134 c135 c136 c137 c138 c139 c140 c141 c142 c143 c144 c145 c146 c147 c148 c149 c150 c151 c152 c153 c154 c155 c156 c157 c158 c159 c160 c161 c162 c163 c164 c165 c166 c167 c168 c169 c170 c171 c172 c173 c174 c175 c176 c177 c178 c179 c180 c181 c182 c183 c184 c185 c186 c187 c188 c189 c190 c191 c192 c193 c194 c195 c196 c197 : Value}
    (HEOK : Hid (EnvOk N E1)) (HEB : Hid (EnvQ (fun b => (A b ∨ w.heap.size ≤ b) ∧ b ≠ lb ∧ b < wo.heap.size) wo E1.reverse (.pointer eq))) (HBW : Hid (Below w.heap.size w wo)) (HBo6 : Hid (Below wo.heap.size wo W6)) (HX76 : Hid (W6.heap[b7]? = some (.cells #[.int .i64 X.kind, .int .i64 X.n, .string X.s, .slice Xa X.args.length Xc] 31 (0, 0)))) (HZ6 : Hid (Tm.rep (fun b => (A b ∨ w.heap.size ≤ b) ∧ b ≠ lb ∧ b < wo.heap.size) W6 Z [.int .i64 Z.kind, .int .i64 Z.n, .string Z.s, .slice Za Z.args.length Zc])) (HZL6 : Hid (Z.In N)) (hkk4 : (k : Int) ≤ 399)
    (HUU : Hid (U = (if (inS E1 X.n k [Z]).1 = true ∨ (inS E1 X.n k [Z]).2 < 0 then ⟨false, E1, (inS E1 X.n k [Z]).2⟩ else R)))
    (HK : Hid (∀ (m : Nat) (wx : World) (u6 u7 u8 u14 u15 u16 u87 u88 u89 u90 u91 u92 u93 u94 u95 u96 u97 u98 u99 u100 u101 u102 u103 u104 u105 u106 u107 u108 u109 u110 u111 u112 u113 u114 u115 u116 u117 u118 u119 u120 u121 u122 u123 u124 u125 u126 u127 u128 u129 u130 u131 u132 u133 u134 u135 u136 u137 : Value), m ≤ k → Below W6.heap.size W6 wx → inS E1 X.n k [Z] = (false, (m : Int)) → K ⟨List.toArray ((.pointer eq) :: c1 :: c2 :: c3 :: c4 :: c5 :: u6 :: u7 :: u8 :: (.int .i64 (m : Int)) :: c10 :: c11 :: (.pointer (some ⟨b7, 0, none⟩)) :: (.pointer (some ⟨b8, 0, none⟩)) :: u14 :: u15 :: u16 :: c17 :: c18 :: c19 :: c20 :: c21 :: c22 :: c23 :: c24 :: c25 :: c26 :: c27 :: c28 :: c29 :: c30 :: c31 :: c32 :: c33 :: c34 :: c35 :: c36 :: c37 :: c38 :: c39 :: c40 :: c41 :: c42 :: c43 :: c44 :: c45 :: c46 :: c47 :: c48 :: c49 :: c50 :: c51 :: c52 :: c53 :: c54 :: c55 :: c56 :: c57 :: c58 :: c59 :: c60 :: c61 :: c62 :: c63 :: c64 :: c65 :: c66 :: c67 :: c68 :: c69 :: c70 :: c71 :: c72 :: c73 :: c74 :: c75 :: c76 :: c77 :: c78 :: c79 :: c80 :: c81 :: c82 :: c83 :: c84 :: c85 :: c86 :: u87 :: u88 :: u89 :: u90 :: u91 :: u92 :: u93 :: u94 :: u95 :: u96 :: u97 :: u98 :: u99 :: u100 :: u101 :: u102 :: u103 :: u104 :: u105 :: u106 :: u107 :: u108 :: u109 :: u110 :: u111 :: u112 :: u113 :: u114 :: u115 :: u116 :: u117 :: u118 :: u119 :: u120 :: u121 :: u122 :: u123 :: u124 :: u125 :: u126 :: u127 :: u128 :: u129 :: u130 :: u131 :: u132 :: u133 :: u134 :: u135 :: u136 :: u137 :: c138 :: c139 :: c140 :: c141 :: c142 :: c143 :: c144 :: c145 :: c146 :: c147 :: c148 :: c149 :: c150 :: c151 :: c152 :: c153 :: c154 :: c155 :: c156 :: c157 :: c158 :: c159 :: c160 :: c161 :: c162 :: c163 :: c164 :: c165 :: c166 :: c167 :: c168 :: c169 :: c170 :: c171 :: c172 :: c173 :: c174 :: c175 :: c176 :: c177 :: c178 :: c179 :: c180 :: c181 :: c182 :: c183 :: c184 :: c185 :: c186 :: c187 :: c188 :: c189 :: c190 :: c191 :: c192 :: c193 :: c194 :: c195 :: c196 :: c197 :: []), []⟩ wx))
    (HR : Hid (∀ a' w', bodyPost Tryd.prog Tryd.f96 (OnePost A w U) .ret a' w' → Q3 .ret a' w')) :
    Code.wp Tryd.prog (Code.loop seenBody) (Exit.inBlock 2 (Exit.then K Q3)) ⟨List.toArray ((.pointer eq) :: c1 :: c2 :: c3 :: c4 :: c5 :: c6 :: c7 :: c8 :: (.int .i64 (k : Int)) :: c10 :: c11 :: (.pointer (some ⟨b7, 0, none⟩)) :: (.pointer (some ⟨b8, 0, none⟩)) :: (.slice (some ⟨W6.heap.size, 0, none⟩) 1 1) :: c15 :: c16 :: c17 :: c18 :: c19 :: c20 :: c21 :: c22 :: c23 :: c24 :: c25 :: c26 :: c27 :: c28 :: c29 :: c30 :: c31 :: c32 :: c33 :: c34 :: c35 :: c36 :: c37 :: c38 :: c39 :: c40 :: c41 :: c42 :: c43 :: c44 :: c45 :: c46 :: c47 :: c48 :: c49 :: c50 :: c51 :: c52 :: c53 :: c54 :: c55 :: c56 :: c57 :: c58 :: c59 :: c60 :: c61 :: c62 :: c63 :: c64 :: c65 :: c66 :: c67 :: c68 :: c69 :: c70 :: c71 :: c72 :: c73 :: c74 :: c75 :: c76 :: c77 :: c78 :: c79 :: c80 :: c81 :: c82 :: c83 :: c84 :: c85 :: c86 :: c87 :: c88 :: c89 :: c90 :: c91 :: c92 :: c93 :: c94 :: c95 :: c96 :: c97 :: c98 :: c99 :: c100 :: c101 :: c102 :: c103 :: c104 :: c105 :: c106 :: c107 :: c108 :: c109 :: c110 :: c111 :: c112 :: c113 :: c114 :: c115 :: c116 :: c117 :: c118 :: c119 :: c120 :: c121 :: c122 :: c123 :: c124 :: c125 :: c126 :: c127 :: c128 :: c129 :: c130 :: c131 :: c132 :: c133 :: c134 :: c135 :: c136 :: c137 :: c138 :: c139 :: c140 :: c141 :: c142 :: c143 :: c144 :: c145 :: c146 :: c147 :: c148 :: c149 :: c150 :: c151 :: c152 :: c153 :: c154 :: c155 :: c156 :: c157 :: c158 :: c159 :: c160 :: c161 :: c162 :: c163 :: c164 :: c165 :: c166 :: c167 :: c168 :: c169 :: c170 :: c171 :: c172 :: c173 :: c174 :: c175 :: c176 :: c177 :: c178 :: c179 :: c180 :: c181 :: c182 :: c183 :: c184 :: c185 :: c186 :: c187 :: c188 :: c189 :: c190 :: c191 :: c192 :: c193 :: c194 :: c195 :: c196 :: c197 :: []), []⟩ (W6.alloc (.cells #[.int .i64 Z.kind, .int .i64 Z.n, .string Z.s, .slice Za Z.args.length Zc] 31)) := by
  have hcs := cell_set
  have hzo := HBW.out.size
  have hz6o := HBo6.out.size
  have HBw6 := hid (HBW.out.trans (HBo6.out.mono hzo))
  have hz6 := HBw6.out.size
  have hb7s := blk_lt HX76.out
  have hkk0 : (0 : Int) ≤ (k : Int) := Int.natCast_nonneg _
  obtain ⟨_, _, zze, -, hzn, -⟩ := Tm.rep4 HZ6.out
  clear zze hzn
  have HOS := hid (own_oneP (E := 31) (size := 4) (A := (fun b => (A b ∨ w.heap.size ≤ b) ∧ b ≠ lb ∧ b < wo.heap.size)) (w := W6) (x := Z) (us := [.int .i64 Z.kind, .int .i64 Z.n, .string Z.s, .slice Za Z.args.length Zc]) Tm.rep_lasts (Tm.rep_lasts.2.1 _ _ _ _ _ HZ6.out (fun b hb h => ⟨h, by omega⟩)) rfl W6.heap.size (Nat.le_refl _))
  have HBa6 := hid (show Below W6.heap.size W6 (W6.alloc (.cells #[.int .i64 Z.kind, .int .i64 Z.n, .string Z.s, .slice Za Z.args.length Zc] 31)) from (Below.refl _ _).alloc (Nat.le_refl _) _)
  conv => arg 2; arg 1; whnf
  go_loopw [14, 9] (fun sv kv wr => ∃ (m : Nat) (st : List Tm), kv = .int .i64 (m : Int) ∧ m ≤ k ∧ Below W6.heap.size W6 wr ∧ OwnR wr W6.heap.size 31 4 Tm.rep (fun b => (A b ∨ w.heap.size ≤ b) ∧ b ≠ lb ∧ b < wo.heap.size) st.reverse sv ∧ (∀ z ∈ st, z.In N) ∧ st.length + 4 * m ≤ 4 * k + 1 ∧ inS E1 X.n k [Z] = inS E1 X.n m st) (fun _ kv _ => (intOf kv).toNat)
  case atStart => exact ⟨k, [Z], rfl, Nat.le_refl _, HBa6.out, HOS.out, by intro z hz; simp only [List.mem_singleton] at hz; subst hz; exact HZL6.out, by simp; omega, rfl⟩
  case round =>
    obtain ⟨wm, rfl⟩ : ∃ wm : World, wm = wr := ⟨_, rfl⟩
    obtain ⟨m, st, rfl, hmk, hbm, hownm, hstin, hstl, hins⟩ := hrel
    have HBM := hid hbm
    have HOM := hid hownm
    have HSTI := hid hstin
    have HINS := hid hins
    have hzm := hbm.size
    obtain ⟨sa, sc, rfl, hsc, hsm⟩ := OwnR.val' hownm
    have hm0 : (0 : Int) ≤ (m : Int) := Int.natCast_nonneg _
    have hm4 : (m : Int) ≤ 399 := by omega
    unfold maxLen at hsm
    simp only [List.length_reverse] at hsc
    have HX7m := hid (blk_below HX76.out hbm)
    have HBom := hid (HBo6.out.trans (hbm.mono hz6o))
    have HBwm := hid (HBW.out.trans (HBom.out.mono hzo))
    have HEBm := hid (HEB.out.keeps (Keeps.of_below HBom.out))
    have hb7m := blk_lt HX7m.out
    have hwm := HBwm.out.size
    have hwom := HBom.out.size
    clear hbm hownm hstin hins
    cases st with
    | nil =>
      have hin := hid (show inS E1 X.n k [Z] = (false, (m : Int)) by rw [HINS.out, inS_nil])
      rw [List.reverse_nil, List.length_nil]
      go_wp2_with fail
      exact HK.out m _ _ _ _ _ _ _ _ _ _ _ _ _ _ _ _ _ _ _ _ _ _ _ _ _ _ _ _ _ _ _ _ _ _ _ _ _ _ _ _ _ _ _ _ _ _ _ _ _ _ _ _ _ _ _ _ _ _ hmk HBM.out hin.out
    | cons z1 st1 =>
      have hOM' : OwnR wm W6.heap.size 31 4 Tm.rep (fun b => (A b ∨ w.heap.size ≤ b) ∧ b ≠ lb ∧ b < wo.heap.size) (st1.reverse ++ [z1]) (.slice sa (st1.reverse ++ [z1]).length sc) := by simpa using HOM.out
      obtain ⟨sb, ws, rfl, hwl, hzr, hrow, hsbl, hscap, hsob⟩ := hOM'.row (by omega) (i := st1.length) (by simp)
      have hidx : (st1.reverse ++ [z1])[st1.length]'(by simp) = z1 := by
        rw [List.getElem_append_right (by simp)]; simp
      rw [hidx] at hzr
      obtain ⟨z1a, z1c, rfl, -⟩ := Tm.rep4 hzr
      have c0 := hrow 0 _ rfl
      have c1 := hrow 1 _ rfl
      have c2 := hrow 2 _ rfl
      have c3 := hrow 3 _ rfl
      simp only [Nat.add_zero] at c0 c1 c2 c3
      have HZR := hid (Tm.rep_lasts.2.1 _ (fun b => (A b ∨ w.heap.size ≤ b) ∧ b ≠ lb ∧ b < wo.heap.size) _ _ _ hzr (fun b _ h => h.1))
      have HTS := hid (show OwnR wm W6.heap.size 31 4 Tm.rep (fun b => (A b ∨ w.heap.size ≤ b) ∧ b ≠ lb ∧ b < wo.heap.size) st1.reverse (.slice (some ⟨sb, 0, none⟩) st1.length sc) by
        have := hOM'.take (k := st1.length) (by simp)
        rwa [List.take_left' (by simp)] at this)
      have hl1 : (st1.reverse ++ [z1]).length = st1.length + 1 := by simp
      have hl2 : (z1 :: st1).reverse.length = st1.length + 1 := by simp
      rw [hl2]
      have hs0' : (0 : Int) ≤ (st1.length : Int) := Int.natCast_nonneg _
      have hs1' : (st1.length : Int) < ((st1.length + 1 : Nat) : Int) := by omega
      have hs2' : ((st1.length + 1 : Nat) : Int) - 1 = (st1.length : Int) := by omega
      have hs3' : (st1.length : Int) ≤ (sc : Int) := by rw [hl1] at hscap; omega
      have hslb' : st1.length ≤ 1700 := by simp only [List.length_cons] at hstl; omega
      have hsgt' : (0 : Int) < ((st1.length + 1 : Nat) : Int) := by omega
      have hsb2 := World.block_lt_of_cell? wm _ c0
      simp only at hsb2
      clear hOM' hrow hwl hsob hidx hzr
      cases m with
      | zero =>
        have hin := hid (show inS E1 X.n k [Z] = (false, -1) by rw [HINS.out, inS_zero])
        have hres := hid (show U = ⟨false, E1, -1⟩ by rw [HUU.out, hin.out, if_pos (by simp)])
        rw [show ((0 : Nat) : Int) = 0 from rfl]
        go_wp2_with fail
        refine HR.out _ _ ?_
        go_ret3
        rw [hres.out]
        exact ⟨_, rfl, HBwm.out.alloc (by omega) _, (HEBm.out.mono (fun b _ h => h.1)).keeps (Keeps.alloc _ _ _)⟩
      | succ m =>
        rw [show ((m + 1 : Nat) : Int) = (m : Int) + 1 by omega]
        have hmm0 : (0 : Int) ≤ (m : Int) := Int.natCast_nonneg _
        have hmm4 : (m : Int) ≤ 398 := by omega
        have HI1 := hid (HSTI.out z1 (by simp))
        have HSI1 := hid (fun z hz => HSTI.out z (List.mem_cons_of_mem _ hz))
        have hstl1 : st1.length + 4 * m ≤ 4 * k - 4 := by simp only [List.length_cons] at hstl; omega
        have HIN2 := hid (HINS.out.trans (inS_succ E1 X.n m z1 st1))
        go_wp2_with fail
        obtain ⟨W7, hW7⟩ : ∃ W7, W7 = wm.alloc (.cells #[.int .i64 z1.kind, .int .i64 z1.n, .string z1.s, .slice z1a z1.args.length z1c] 31) := ⟨_, rfl⟩
        have HB7 := hid (show Below wm.heap.size wm W7 by rw [hW7]; exact (Below.refl _ _).alloc (Nat.le_refl _) _)
        have hx7 : W7.heap[wm.heap.size]? = some (.cells #[.int .i64 z1.kind, .int .i64 z1.n, .string z1.s, .slice z1a z1.args.length z1c] 31 (0, 0)) := by rw [hW7]; exact blk_new _ _
        obtain ⟨zb, hzb⟩ : ∃ zb, zb = wm.heap.size := ⟨_, rfl⟩
        rw [← hzb] at hx7
        rw [← hW7]
        try rw [← hzb]
        have hzbw : wm.heap.size ≤ zb := by omega
        have HXZ := hid hx7
        have HBo7 := hid (HBom.out.trans (HB7.out.mono hwom))
        have hz7 := HB7.out.size
        clear hW7 hzb hx7 c0 c1 c2 c3
        refine (elook_ok HEOK.out z1 HI1.out _ W7 _ [_, _, _, _] (HEB.out.keeps (Keeps.of_below HBo7.out)) (Tm.rep_lasts.1 _ _ _ _ _ HZR.out (Keeps.of_below HB7.out))).mono ?_
        rintro e w8 ⟨v, rfl, hb8, us8, rfl, hr8⟩
        have HB8 := hid (HB7.out.trans (hb8.mono hz7))
        have HXZ8 := hid (blk_below HXZ.out hb8)
        have HR8 := hid hr8
        have HZI := hid (slook_in HEOK.out HI1.out)
        generalize slook E1 z1 = z2 at *
        obtain ⟨z2a, z2c, rfl, -, -, -, hz2c, hz2m, -, hz2s⟩ := Tm.rep4 hr8
        have HZS := hid hz2s
        unfold maxLen at hz2m
        have hz8 := HB8.out.size
        have hzbl := blk_lt HXZ8.out
        have HX78 := hid (blk_below HX7m.out HB8.out)
        obtain ⟨q0, q1, q2, q3, qf⟩ := blk4 HXZ8.out
        obtain ⟨m0, m1, m2, m3, mf⟩ := blk4 HX78.out
        have hb78 := blk_lt HX78.out
        have hzne : zb ≠ b7 := by omega
        have hzne' : b7 ≠ zb := by omega
        clear hb8 hr8 hz2s
        have HXZ9 := hid (set4 (v0 := .int .i64 z2.kind) (v1 := .int .i64 z2.n) (v2 := .string z2.s) (v3 := .slice z2a z2.args.length z2c) HXZ8.out)
        have HK9 := hid (keeps_set4 (fun b => b ≠ zb) w8 (g := zb) (fun h => h rfl) (.int .i64 z2.kind) (.int .i64 z2.n) (.string z2.s) (.slice z2a z2.args.length z2c))
        have HB9 := hid (below_set4 HB8.out hzbw (.int .i64 z2.kind) (.int .i64 z2.n) (.string z2.s) (.slice z2a z2.args.length z2c))
        by_cases hz0 : z2.kind = 0
        · by_cases hzn : z2.n = X.n
          · have hin := hid (show inS E1 X.n k [Z] = (true, (m : Int)) by rw [HIN2.out, if_pos hz0, if_pos hzn])
            have hres := hid (show U = ⟨false, E1, (m : Int)⟩ by rw [HUU.out, hin.out, if_pos (.inl rfl)])
            have hzq : (z2.n == X.n) = true := by simpa using hzn
            have HEB9 := hid (((HEBm.out.mono (fun b _ h => h)).keeps (Keeps.of_below HB8.out)).keeps (HK9.out.mono fun b _ hb => by have := hb.2.2; omega))
            have HBw9 := hid (HBwm.out.trans (HB9.out.mono hwm))
            have HZ0 := hid hz0
            rw [hz0] at HEB9 HBw9 ⊢
            clear hz0 hzn
            go_wp2_with fail
            refine HR.out _ _ ?_
            go_ret3
            rw [hres.out]
            exact ⟨_, rfl, HBw9.out, HEB9.out.mono (fun b _ h => h.1)⟩
          · have HARG := hid (show z2.args = [] by
              have h9 := HZI.out
              cases h9 with
              | var => rfl
              | atom => simp [Tm.kind] at hz0
              | int => simp [Tm.kind] at hz0
              | comp => simp [Tm.kind] at hz0)
            have HIN3 := hid (show inS E1 X.n k [Z] = inS E1 X.n m (z2.args ++ st1) by rw [HIN2.out, if_pos hz0, if_neg hzn, HARG.out]; rfl)
            have hzq : (z2.n == X.n) = false := by simpa using hzn
            have hzk : (z2.kind == 0) = true := by simpa using hz0
            clear hz0 hzn
            -- a variable has no arguments: nothing is put
            have hl0 : z2.args.length = 0 := by rw [HARG.out]; rfl
            have HIN4 := hid (show inS E1 X.n k [Z] = inS E1 X.n m st1 by rw [HIN3.out, HARG.out]; rfl)
            have HTS9 := hid (((HTS.out.below Tm.rep_lasts HB8.out)).keeps Tm.rep_lasts HK9.out (fun b hb => by have := hb.2.2; omega) (fun b hb => by have := (HTS.out.lt b hb).2; omega))
            have HB96 := hid (HBM.out.trans (HB9.out.mono hzm))
            rw [hl0] at HTS9 HB96 ⊢
            clear HK9 HB9 HXZ9
            go_wp2_with fail
            generalize ((((w8.setCell ⟨zb, 0, none⟩ _).setCell ⟨zb, 1, none⟩ _).setCell ⟨zb, 2, none⟩ _).setCell ⟨zb, 3, none⟩ _) = W9 at *
            go_loopw [16, 14] (fun iv sv wr => iv = .int .i64 (-1) ∧ sv = .slice (some ⟨sb, 0, none⟩) st1.length sc ∧ wr = W9) (fun _ _ _ => 0)
            case atStart => exact ⟨by go_num, rfl, rfl⟩
            case round =>
              obtain ⟨rfl, rfl, rfl⟩ := hrel
              go_wp2_with fail
              go_roundw
              case rel => exact ⟨m, st1, by go_num, by omega, HB96.out, HTS9.out, HSI1.out, by omega, HIN4.out⟩
              case measure => simp [intOf]
        · have HIN3 := hid (show inS E1 X.n k [Z] = inS E1 X.n m (z2.args ++ st1) by rw [HIN2.out, if_neg hz0])
          have hzk : (z2.kind == 0) = false := by simpa using hz0
          clear hz0
          -- the arguments are put on the pile
          obtain ⟨_, _, ab, ao, e9, -, -, -, hza, hze⟩ := SlR.at HZS.out
          simp only [Value.slice.injEq, true_and] at e9
          obtain ⟨rfl, rfl⟩ := e9
          have HZA := hid hza
          have HZE := hid (hze.keeps Tm.rep_lasts (fun hne => (hza (List.length_pos_iff.2 hne)).2) (HK9.out.mono fun b _ hb => by have := hb.2.2; omega))
          clear hza hze
          have HTS9 := hid (((HTS.out.below Tm.rep_lasts HB8.out)).keeps Tm.rep_lasts HK9.out (fun b hb => by have := hb.2.2; omega) (fun b hb => by have := (HTS.out.lt b hb).2; omega))
          have HB96 := hid (HBM.out.trans (HB9.out.mono hzm))
          have hz9s : (((((w8.setCell ⟨zb, 0, none⟩ (.int .i64 z2.kind)).setCell ⟨zb, 1, none⟩ (.int .i64 z2.n)).setCell ⟨zb, 2, none⟩ (.string z2.s)).setCell ⟨zb, 3, none⟩ (.slice z2a z2.args.length z2c))).heap.size = w8.heap.size := by simp
          go_wp2_with fail
          generalize ((((w8.setCell ⟨zb, 0, none⟩ _).setCell ⟨zb, 1, none⟩ _).setCell ⟨zb, 2, none⟩ _).setCell ⟨zb, 3, none⟩ _) = W9 at *
          have hargs4 : z2.args.length ≤ 4 := HZI.out.args4
          have hsbz : ownB (.slice (some ⟨sb, 0, none⟩) st1.length sc) ≠ some zb := fun e => by have := (HTS.out.lt zb e).2; omega
          go_loopw [16, 14] (fun iv sv wr => ∃ (j : Nat), j ≤ z2.args.length ∧ iv = .int .i64 ((j : Int) - 1) ∧ Below W6.heap.size W6 wr ∧ Keeps (fun b => b < W6.heap.size) W9 wr ∧ wr.heap[zb]? = some (.cells #[.int .i64 z2.kind, .int .i64 z2.n, .string z2.s, .slice z2a z2.args.length z2c] 31 (0, 0)) ∧ OwnR wr W6.heap.size 31 4 Tm.rep (fun b => (A b ∨ w.heap.size ≤ b) ∧ b ≠ lb ∧ b < wo.heap.size) (z2.args.drop j ++ st1).reverse sv ∧ ownB sv ≠ some zb) (fun iv _ _ => (intOf iv + 1).toNat)
          case atStart => exact ⟨z2.args.length, Nat.le_refl _, rfl, HB96.out, Keeps.refl _ _, HXZ9.out, by rw [List.drop_length, List.nil_append]; exact HTS9.out, hsbz⟩
          case round =>
            obtain ⟨j, hj, rfl, hbj, hkj, hxj, hoj, hsz⟩ := hrel
            have HBJ := hid hbj
            have HKJ := hid hkj
            have HXJ := hid hxj
            have HOJ := hid hoj
            have HSZ := hid hsz
            obtain ⟨ja, jc, rfl, hjc, hjm⟩ := OwnR.val' hoj
            have hzj := hbj.size
            have hzbj := blk_lt hxj
            unfold maxLen at hjm
            cases j with
            | zero =>
              clear hbj hkj hxj hoj hsz
              rw [show ((0 : Nat) : Int) - 1 = -1 by omega]
              go_wp2_with fail
              go_roundw
              case rel =>
                refine ⟨m, z2.args ++ st1, by go_num, by omega, HBJ.out, by have := HOJ.out; simpa using this, fun z hz => ?_, by simp; omega, HIN3.out⟩
                rcases List.mem_append.1 hz with hz | hz
                · exact HZI.out.arg hz
                · exact HSI1.out z hz
              case measure => simp [intOf]
            | succ j =>
              obtain ⟨q0, q1, q2, q3, qf⟩ := blk4 hxj
              rw [show ((j + 1 : Nat) : Int) - 1 = (j : Int) by omega]
              have hj0 : (0 : Int) ≤ (j : Int) := Int.natCast_nonneg _
              have hjl : j < z2.args.length := by omega
              have hj1 : (j : Int) < (z2.args.length : Int) := by omega
              obtain ⟨rfl, hAb⟩ := HZA.out (by omega)
              obtain ⟨ga, gc, d0, d1, d2, d3, hgr⟩ := tm_cells HZE.out hAb (hkj.mono fun b _ hb => by have := hb.2.2; omega) hjl
              have habl := World.block_lt_of_cell? wr _ d0
              simp only at habl
              have hlen9 : (z2.args.drop (j + 1) ++ st1).reverse.length ≤ 1800 := by simp; omega
              have HGR := hid (Tm.rep_lasts.2.1 _ (fun b => (fun b => (A b ∨ w.heap.size ≤ b) ∧ b ≠ lb ∧ b < wo.heap.size) b ∧ ownB (.slice ja (z2.args.drop (j + 1) ++ st1).reverse.length jc) ≠ some b) _ _ _ hgr (fun b _ h => ⟨h, fun e => by have h1 := (hoj.lt b e).1; have := h.2.2; omega⟩))
              have HJC := hid hjc
              clear hbj hkj hxj hoj hsz hgr hjc
              generalize hxs : (z2.args.drop (j + 1) ++ st1).reverse = xs at *
              go_wp2_with (at_builtin; go_must (refine wpList_app1 rfl (.tmp 130) (.tmp 136) 29 rfl W6.heap.size 31 4 56 tyTerm Tm.rep_lasts (A := (fun b => (A b ∨ w.heap.size ≤ b) ∧ b ≠ lb ∧ b < wo.heap.size)) _ _ rfl HOJ.out (z2.args[j]'hjl) [_, _, _, _] rfl rfl HGR.out ⟨by omega, by omega⟩ ?_); go_must (intro v2 w10 hown2 hgrew; have HO2 := hid hown2; have HG2 := hid hgrew; clear hown2 hgrew))
              have hlt9 := HOJ.out.lt
              have hkk := (Keeps.alloc (fun b => ownB (.slice ja xs.length jc) ≠ some b) wr (.cells #[.int .i64 (z2.args[j]'hjl).kind, .int .i64 (z2.args[j]'hjl).n, .string (z2.args[j]'hjl).s, .slice ga (z2.args[j]'hjl).args.length gc] 31)).trans (HG2.out.keeps (A := fun b => ownB (.slice ja xs.length jc) ≠ some b) (fun _ h => h))
              go_roundw
              case rel =>
                refine ⟨j, by omega, rfl, HG2.out.below (HBJ.out.alloc hzj _) (by simp; omega) (fun k hk => (hlt9 k hk).1), HKJ.out.trans (hkk.mono fun b _ hb e => by have := (hlt9 b e).1; omega), blk_keeps HXJ.out hkk HSZ.out, ?_, HG2.out.new (by simp; omega) HSZ.out⟩
                have := HO2.out
                rw [← hxs] at this
                rw [List.drop_eq_getElem_cons hjl, List.cons_append, List.reverse_cons]
                exact this
              case measure => simp [intOf]
end Go.Proofs.YtlpmfkpefoegeabDoor
