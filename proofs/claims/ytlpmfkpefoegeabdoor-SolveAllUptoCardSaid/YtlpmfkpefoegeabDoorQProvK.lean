/-
  The document's prover: one: the two terms' arguments are put on the list, pair by pair. The loop alone.
-/
import Derived.Test.YtlpmfkpefoegeabDoorQProvM
import Derived.Deep.CutRange
namespace Go.Proofs.YtlpmfkpefoegeabDoor
set_option linter.unusedVariables false
set_option linter.unusedSimpArgs false
open Go.RowKit
set_option maxRecDepth 1000000 in
set_option maxHeartbeats 80000000 in
theorem one_args {E E1 : Env} {N : Int} {A : Nat → Prop} {w wo W6 : World} {X Z : Tm} {Xa Za : Option Addr} {Xc Zc k lb b7 b8 : Nat} {eq : Option Addr} {s1 : List (Tm × Tm)} {lc : Nat} {Q3 : Exit → Act → World → Prop} {c0 c1 c2 c3 c4 c5 c6 c7 c8 c9 c11 c14 c15 c16 c18 c19 c20 c21 c22 c23 c24 c25 c26 c27 c28 c29 c30 c31 c32 c33 c34 c35 c36 c37 c38 c39 c40 c41 c42 c43 c44 c45 c46 c47 c48 c49 c50 c51 c52 c53 c54 c55 c56 c57 c58 c59 c60 c61 c62 c63 c64 c65 c66 c67 c68 c69 c70 c71 c72 c73 c74 c75 c76 c77 c78 c79 c80 c81 c82 c83 c84 c85 c86 c87 c88 c89 c90 c91 c92 c93 c94 c95 c96 c97 c98 c99 c100 c101 c102 c103 c104 c105 c106 c107 c108 c109 c110 c111 c112 c113 c114 c115 c116 c117 c118 c119 c120 c121 c122 c123 c124 c125 c126 c127 c128 c129 c130 c131 c132 c133 c134 c135 c136 c137 c138 c139 c140 c141 c142 c143 c144 c145 c146 c147 c148 c149 c150 c151 c152 c153 c154 c155 c156 c157 c158 c159 c160 c161 c162 c163 c164 c165 c166 c167 c168 c169 c170 c171 c172 c173 c174 c175 c176 c177 c178 c179 c180 c181 c182 c183 c184 c185 c186 c187 c188 c189 c190 c191 c192 c193 c194 c195 c196 c197 : Value}
    (HBw5 : Hid (Below w.heap.size w W6)) (HBo5 : Hid (Below wo.heap.size wo W6)) (hzo : w.heap.size ≤ wo.heap.size) (HX7' : Hid (W6.heap[b7]? = some (.cells #[.int .i64 X.kind, .int .i64 X.n, .string X.s, .slice Xa X.args.length Xc] 31 (0, 0)))) (HX8' : Hid (W6.heap[b8]? = some (.cells #[.int .i64 Z.kind, .int .i64 Z.n, .string Z.s, .slice Za Z.args.length Zc] 31 (0, 0))))
    (HR3' : Hid (Tm.rep (fun b => (A b ∨ w.heap.size ≤ b) ∧ b ≠ lb ∧ b < wo.heap.size) W6 X [.int .i64 X.kind, .int .i64 X.n, .string X.s, .slice Xa X.args.length Xc])) (HR7' : Hid (Tm.rep (fun b => (A b ∨ w.heap.size ≤ b) ∧ b ≠ lb ∧ b < wo.heap.size) W6 Z [.int .i64 Z.kind, .int .i64 Z.n, .string Z.s, .slice Za Z.args.length Zc])) (HXL : Hid (X.In N)) (HYL : Hid (Z.In N)) (E4 : Hid (X.args.length = Z.args.length)) (hslb : s1.length ≤ 1700)
    (HLB : Hid (w.heap.size ≤ lb ∧ lb < wo.heap.size)) (hb7w : wo.heap.size ≤ b7) (hb8w : wo.heap.size ≤ b8)
    (HTK5 : Hid (OwnR W6 w.heap.size 180 8 pairT (fun b => A b ∨ w.heap.size ≤ b) s1.reverse (.slice (some ⟨lb, 0, none⟩) s1.length lc)))
    (HP : Hid (∀ c (a1 a2 : Act) w1, a1.defers = a2.defers → Q3 (.panic c) a1 w1 → Q3 (.panic c) a2 w1))
    (HK : Hid (∀ (lv : Value) (wx : World) (u17 u178 u179 u180 u181 u182 u183 u184 u185 u186 u187 u188 u189 u190 u191 u192 u193 u194 u195 : Value), Below w.heap.size w wx → Keeps (fun b => (fun b => (A b ∨ w.heap.size ≤ b) ∧ b ≠ lb ∧ b < wo.heap.size) b ∨ b = b7 ∨ b = b8) W6 wx → OwnR wx w.heap.size 180 8 pairT (fun b => A b ∨ w.heap.size ≤ b) (X.args.zip Z.args ++ s1).reverse lv → (∀ b, ownB lv = some b → b = lb ∨ W6.heap.size ≤ b) → Q3 .normal ⟨List.toArray (c0 :: c1 :: c2 :: c3 :: c4 :: c5 :: c6 :: c7 :: c8 :: c9 :: lv :: c11 :: (.pointer (some ⟨b7, 0, none⟩)) :: (.pointer (some ⟨b8, 0, none⟩)) :: c14 :: c15 :: c16 :: u17 :: c18 :: c19 :: c20 :: c21 :: c22 :: c23 :: c24 :: c25 :: c26 :: c27 :: c28 :: c29 :: c30 :: c31 :: c32 :: c33 :: c34 :: c35 :: c36 :: c37 :: c38 :: c39 :: c40 :: c41 :: c42 :: c43 :: c44 :: c45 :: c46 :: c47 :: c48 :: c49 :: c50 :: c51 :: c52 :: c53 :: c54 :: c55 :: c56 :: c57 :: c58 :: c59 :: c60 :: c61 :: c62 :: c63 :: c64 :: c65 :: c66 :: c67 :: c68 :: c69 :: c70 :: c71 :: c72 :: c73 :: c74 :: c75 :: c76 :: c77 :: c78 :: c79 :: c80 :: c81 :: c82 :: c83 :: c84 :: c85 :: c86 :: c87 :: c88 :: c89 :: c90 :: c91 :: c92 :: c93 :: c94 :: c95 :: c96 :: c97 :: c98 :: c99 :: c100 :: c101 :: c102 :: c103 :: c104 :: c105 :: c106 :: c107 :: c108 :: c109 :: c110 :: c111 :: c112 :: c113 :: c114 :: c115 :: c116 :: c117 :: c118 :: c119 :: c120 :: c121 :: c122 :: c123 :: c124 :: c125 :: c126 :: c127 :: c128 :: c129 :: c130 :: c131 :: c132 :: c133 :: c134 :: c135 :: c136 :: c137 :: c138 :: c139 :: c140 :: c141 :: c142 :: c143 :: c144 :: c145 :: c146 :: c147 :: c148 :: c149 :: c150 :: c151 :: c152 :: c153 :: c154 :: c155 :: c156 :: c157 :: c158 :: c159 :: c160 :: c161 :: c162 :: c163 :: c164 :: c165 :: c166 :: c167 :: c168 :: c169 :: c170 :: c171 :: c172 :: c173 :: c174 :: c175 :: c176 :: c177 :: u178 :: u179 :: u180 :: u181 :: u182 :: u183 :: u184 :: u185 :: u186 :: u187 :: u188 :: u189 :: u190 :: u191 :: u192 :: u193 :: u194 :: u195 :: c196 :: c197 :: []), []⟩ wx)) :
    Code.wp Tryd.prog (Code.loop argsBody) (Exit.inBlock 6 Q3) ⟨List.toArray (c0 :: c1 :: c2 :: c3 :: c4 :: c5 :: c6 :: c7 :: c8 :: c9 :: (.slice (some ⟨lb, 0, none⟩) s1.length lc) :: c11 :: (.pointer (some ⟨b7, 0, none⟩)) :: (.pointer (some ⟨b8, 0, none⟩)) :: c14 :: c15 :: c16 :: (.int .i64 ((X.args.length : Int) - 1)) :: c18 :: c19 :: c20 :: c21 :: c22 :: c23 :: c24 :: c25 :: c26 :: c27 :: c28 :: c29 :: c30 :: c31 :: c32 :: c33 :: c34 :: c35 :: c36 :: c37 :: c38 :: c39 :: c40 :: c41 :: c42 :: c43 :: c44 :: c45 :: c46 :: c47 :: c48 :: c49 :: c50 :: c51 :: c52 :: c53 :: c54 :: c55 :: c56 :: c57 :: c58 :: c59 :: c60 :: c61 :: c62 :: c63 :: c64 :: c65 :: c66 :: c67 :: c68 :: c69 :: c70 :: c71 :: c72 :: c73 :: c74 :: c75 :: c76 :: c77 :: c78 :: c79 :: c80 :: c81 :: c82 :: c83 :: c84 :: c85 :: c86 :: c87 :: c88 :: c89 :: c90 :: c91 :: c92 :: c93 :: c94 :: c95 :: c96 :: c97 :: c98 :: c99 :: c100 :: c101 :: c102 :: c103 :: c104 :: c105 :: c106 :: c107 :: c108 :: c109 :: c110 :: c111 :: c112 :: c113 :: c114 :: c115 :: c116 :: c117 :: c118 :: c119 :: c120 :: c121 :: c122 :: c123 :: c124 :: c125 :: c126 :: c127 :: c128 :: c129 :: c130 :: c131 :: c132 :: c133 :: c134 :: c135 :: c136 :: c137 :: c138 :: c139 :: c140 :: c141 :: c142 :: c143 :: c144 :: c145 :: c146 :: c147 :: c148 :: c149 :: c150 :: c151 :: c152 :: c153 :: c154 :: c155 :: c156 :: c157 :: c158 :: c159 :: c160 :: c161 :: c162 :: c163 :: c164 :: c165 :: c166 :: c167 :: c168 :: c169 :: c170 :: c171 :: c172 :: c173 :: c174 :: c175 :: c176 :: c177 :: c178 :: c179 :: c180 :: c181 :: c182 :: c183 :: c184 :: c185 :: c186 :: c187 :: c188 :: c189 :: c190 :: c191 :: c192 :: c193 :: c194 :: c195 :: c196 :: c197 :: []), []⟩ W6 := by
  have hcs := cell_set
  have hz5 := HBo5.out.size
  have hb7s := blk_lt HX7'.out
  have hb8s := blk_lt HX8'.out
  have e4 := E4.out
  have hargs4 : X.args.length ≤ 4 := HXL.out.args4
  have hargs4y : Z.args.length ≤ 4 := HYL.out.args4
  obtain ⟨_, _, ab, ao, e9, -, -, -, hxa, hxe⟩ := SlR.at (Tm.rep_args HR3'.out)
  simp only [Value.slice.injEq, true_and] at e9
  obtain ⟨rfl, rfl⟩ := e9
  obtain ⟨_, _, bb, bo, e9, -, -, -, hya, hye⟩ := SlR.at (Tm.rep_args HR7'.out)
  simp only [Value.slice.injEq, true_and] at e9
  obtain ⟨rfl, rfl⟩ := e9
  have HXA := hid hxa
  have HXE := hid hxe
  have HYA := hid hya
  have HYE := hid hye
  have hxl0 : (0 : Int) ≤ (X.args.length : Int) := Int.natCast_nonneg _
  have hzl : (X.args.zip Z.args).length = X.args.length := by rw [List.length_zip, ← e4]; exact Nat.min_self _
  have HZL := hid hzl
  clear e4 hxa hxe hya hye hzl
  conv => arg 2; arg 1; whnf
  go_loopw [17, 10] (fun iv lv wr => ∃ (j : Nat), j ≤ X.args.length ∧ iv = .int .i64 ((j : Int) - 1) ∧ Below w.heap.size w wr ∧ Keeps (fun b => (fun b => (A b ∨ w.heap.size ≤ b) ∧ b ≠ lb ∧ b < wo.heap.size) b ∨ b = b7 ∨ b = b8) W6 wr ∧ OwnR wr w.heap.size 180 8 pairT (fun b => A b ∨ w.heap.size ≤ b) ((X.args.zip Z.args).drop j ++ s1).reverse lv ∧ (∀ b, ownB lv = some b → b = lb ∨ W6.heap.size ≤ b)) (fun iv _ _ => (intOf iv + 1).toNat)
  case atStart => exact ⟨X.args.length, Nat.le_refl _, rfl, HBw5.out, Keeps.refl _ _, by rw [List.drop_of_length_le (by rw [HZL.out]; exact Nat.le_refl _), List.nil_append]; exact HTK5.out, fun b hb => by
    simp only [ownB] at hb
    split at hb
    · cases hb
    · simp only [Option.some.injEq] at hb; exact .inl hb.symm⟩
  case round =>
    obtain ⟨j, hj, rfl, hbj, hkj, hoj, hob⟩ := hrel
    have HBJ := hid hbj
    have HKJ := hid hkj
    have HOJ := hid hoj
    have HOB := hid hob
    obtain ⟨ja, jc, rfl, hjc, hjm⟩ := OwnR.val' hoj
    have hzj := hbj.size
    have hkz := hkj.size
    have HX7j := hid (blk_keeps HX7'.out hkj (.inr (.inl rfl)))
    have HX8j := hid (blk_keeps HX8'.out hkj (.inr (.inr rfl)))
    have hl7j := blk_lt HX7j.out
    have hl8j := blk_lt HX8j.out
    unfold maxLen at hjm
    cases j with
    | zero =>
      clear hbj hkj hoj hob
      rw [show ((0 : Nat) : Int) - 1 = -1 by omega]
      generalize Value.slice ja _ jc = lv at *
      go_wp2_with fail
      exact HK.out _ _ _ _ _ _ _ _ _ _ _ _ _ _ _ _ _ _ _ _ _ HBJ.out HKJ.out (by have := HOJ.out; rwa [List.drop_zero] at this) HOB.out
    | succ j =>
      rw [show ((j + 1 : Nat) : Int) - 1 = (j : Int) by omega]
      have hj0 : (0 : Int) ≤ (j : Int) := Int.natCast_nonneg _
      have hjl : j < X.args.length := by omega
      have hjly : j < Z.args.length := by have := E4.out; omega
      have hj1 : (j : Int) < (X.args.length : Int) := by omega
      have hjz : j < (X.args.zip Z.args).length := by rw [HZL.out]; exact hjl
      have hgz : (X.args.zip Z.args)[j]'hjz = (X.args[j]'hjl, Z.args[j]'hjly) := List.getElem_zip
      have HGZ := hid hgz
      obtain ⟨rfl, hAb⟩ := HXA.out (by omega)
      obtain ⟨rfl, hBb⟩ := HYA.out (by omega)
      obtain ⟨ga, gc, d0, d1, d2, d3, hgr⟩ := tm_cells HXE.out hAb (hkj.mono fun b _ hb => .inl hb) hjl
      obtain ⟨gya, gyc, f0, f1, f2, f3, hgyr⟩ := tm_cells HYE.out hBb (hkj.mono fun b _ hb => .inl hb) hjly
      have habl := World.block_lt_of_cell? wr _ d0
      have hbbl := World.block_lt_of_cell? wr _ f0
      simp only at habl hbbl
      obtain ⟨tx, htx⟩ : ∃ tx, tx = X.args[j]'hjl := ⟨_, rfl⟩
      obtain ⟨ty, hty⟩ : ∃ ty, ty = Z.args[j]'hjly := ⟨_, rfl⟩
      rw [← htx] at d0 d1 d2 d3 hgr HGZ
      rw [← hty] at f0 f1 f2 f3 hgyr HGZ
      have hlen9 : ((X.args.zip Z.args).drop (j + 1) ++ s1).reverse.length ≤ 1800 := by simp; omega
      have hown9 : ∀ b, ownB (.slice ja ((X.args.zip Z.args).drop (j + 1) ++ s1).reverse.length jc) = some b → ¬ ((fun b => (A b ∨ w.heap.size ≤ b) ∧ b ≠ lb ∧ b < wo.heap.size) b ∨ b = b7 ∨ b = b8) := fun b hb h => by
        rcases hob b hb with h9 | h9
        · rcases h with h | h | h
          · exact h.2.1 h9
          · have := HLB.out.2; omega
          · have := HLB.out.2; omega
        · rcases h with h | h | h
          · have := h.2.2; omega
          · omega
          · omega
      have HOW9 := hid hown9
      have HPR := hid (show pairT (fun b => (A b ∨ w.heap.size ≤ b) ∧ ownB (.slice ja ((X.args.zip Z.args).drop (j + 1) ++ s1).reverse.length jc) ≠ some b) wr (tx, ty) [.int .i64 tx.kind, .int .i64 tx.n, .string tx.s, .slice ga tx.args.length gc, .int .i64 ty.kind, .int .i64 ty.n, .string ty.s, .slice gya ty.args.length gyc] from
        ⟨[.int .i64 tx.kind, .int .i64 tx.n, .string tx.s, .slice ga tx.args.length gc], [.int .i64 ty.kind, .int .i64 ty.n, .string ty.s, .slice gya ty.args.length gyc], rfl, Tm.rep_lasts.2.1 _ _ _ _ _ hgr (fun b _ h => ⟨h.1, fun e => hown9 b e (.inl h)⟩), Tm.rep_lasts.2.1 _ _ _ _ _ hgyr (fun b _ h => ⟨h.1, fun e => hown9 b e (.inl h)⟩)⟩)
      have hbl9 := hoj.lt
      have HBL9 := hid hbl9
      obtain ⟨m0, m1, m2, m3, mf⟩ := blk4 HX7j.out
      obtain ⟨n0, n1, n2, n3, nf⟩ := blk4 HX8j.out
      rw [← E4.out] at n3
      clear hbj hkj hoj hob hgr hgyr htx hty hgz hown9 hbl9
      generalize hxs : ((X.args.zip Z.args).drop (j + 1) ++ s1).reverse = xs at *
      have hF0 : Keeps (fun b => (fun b => (A b ∨ w.heap.size ≤ b) ∧ b ≠ lb ∧ b < wo.heap.size) b ∨ b = b7 ∨ b = b8) wr wr.drew := Keeps.drew _ _
      go_wp2_with fail
      refine wp_region_F (F := fun _ w' => Keeps (fun b => (fun b => (A b ∨ w.heap.size ≤ b) ∧ b ≠ lb ∧ b < wo.heap.size) b ∨ b = b7 ∨ b = b8) wr w') (by kernel_rfl) ?_
      have HF := hF0
      refine wpAnyF_take (i := 0) (v := ?_) rfl (by kernel_rfl) (by kernel_rfl) (by kernel_rfl) (fun c a w1 h => HP.out c _ a w1 (by rfl) h) (Or.inl ⟨by rfl, ?_⟩) HF ?_
      rotate_left
      · (intro w' hw; clear hw; go_simp <;> with_reducible rfl)
      try simp only [Act.put, List.setIfInBounds_toArray, List.set_cons_zero, List.set_cons_succ]
      refine wpAnyF_take (i := 1) (v := ?_) rfl (by kernel_rfl) (by kernel_rfl) (by kernel_rfl) (fun c a w1 h => HP.out c _ a w1 (by rfl) h) (Or.inl ⟨by rfl, ?_⟩) HF ?_
      rotate_left
      · (intro w' hw; clear hw; go_simp <;> with_reducible rfl)
      try simp only [Act.put, List.setIfInBounds_toArray, List.set_cons_zero, List.set_cons_succ]
      refine wpAnyF_take (i := 2) (v := ?_) rfl (by kernel_rfl) (by kernel_rfl) (by kernel_rfl) (fun c a w1 h => HP.out c _ a w1 (by rfl) h) (Or.inl ⟨by rfl, ?_⟩) HF ?_
      rotate_left
      · (intro w' hw; have g3 := hw.cell (.inr (.inl rfl)) m3; clear hw; go_simp <;> with_reducible rfl)
      try simp only [Act.put, List.setIfInBounds_toArray, List.set_cons_zero, List.set_cons_succ]
      refine wpAnyF_take (i := 3) (v := ?_) rfl (by kernel_rfl) (by kernel_rfl) (by kernel_rfl) (fun c a w1 h => HP.out c _ a w1 (by rfl) h) (Or.inl ⟨by rfl, ?_⟩) HF ?_
      rotate_left
      · (intro w' hw; clear hw; go_simp <;> with_reducible rfl)
      try simp only [Act.put, List.setIfInBounds_toArray, List.set_cons_zero, List.set_cons_succ]
      refine wpAnyF_take (i := 4) (v := .pointer (some ⟨ab, ao + j * 4, none⟩)) rfl (by kernel_rfl) (by kernel_rfl) (by kernel_rfl) (fun c a w1 h => HP.out c _ a w1 (by rfl) h) (Or.inl ⟨by rfl, ?_⟩) HF ?_
      · (intro w' hw; clear hw; go_simp <;> omega)
      try simp only [Act.put, List.setIfInBounds_toArray, List.set_cons_zero, List.set_cons_succ]
      refine wpAnyF_take (i := 5) (v := .agg #[.int .i64 tx.kind, .int .i64 tx.n, .string tx.s, .slice ga tx.args.length gc]) rfl (by kernel_rfl) (by kernel_rfl) (by kernel_rfl) (fun c a w1 h => HP.out c _ a w1 (by rfl) h) (Or.inl ⟨by rfl, ?_⟩) HF ?_
      · (intro w' hw; have g0 := hw.cell (.inl hAb) d0; have g1 := hw.cell (.inl hAb) d1; have g2 := hw.cell (.inl hAb) d2; have g3 := hw.cell (.inl hAb) d3; clear hw; go_simp)
      try simp only [Act.put, List.setIfInBounds_toArray, List.set_cons_zero, List.set_cons_succ]
      refine wpAnyF_take (i := 6) (v := ?_) rfl (by kernel_rfl) (by kernel_rfl) (by kernel_rfl) (fun c a w1 h => HP.out c _ a w1 (by rfl) h) (Or.inl ⟨by rfl, ?_⟩) HF ?_
      rotate_left
      · (intro w' hw; clear hw; go_simp <;> with_reducible rfl)
      try simp only [Act.put, List.setIfInBounds_toArray, List.set_cons_zero, List.set_cons_succ]
      refine wpAnyF_take (i := 7) (v := ?_) rfl (by kernel_rfl) (by kernel_rfl) (by kernel_rfl) (fun c a w1 h => HP.out c _ a w1 (by rfl) h) (Or.inl ⟨by rfl, ?_⟩) HF ?_
      rotate_left
      · (intro w' hw; have g3 := hw.cell (.inr (.inr rfl)) n3; clear hw; go_simp <;> with_reducible rfl)
      try simp only [Act.put, List.setIfInBounds_toArray, List.set_cons_zero, List.set_cons_succ]
      refine wpAnyF_take (i := 8) (v := ?_) rfl (by kernel_rfl) (by kernel_rfl) (by kernel_rfl) (fun c a w1 h => HP.out c _ a w1 (by rfl) h) (Or.inl ⟨by rfl, ?_⟩) HF ?_
      rotate_left
      · (intro w' hw; clear hw; go_simp <;> with_reducible rfl)
      try simp only [Act.put, List.setIfInBounds_toArray, List.set_cons_zero, List.set_cons_succ]
      refine wpAnyF_take (i := 9) (v := .pointer (some ⟨bb, bo + j * 4, none⟩)) rfl (by kernel_rfl) (by kernel_rfl) (by kernel_rfl) (fun c a w1 h => HP.out c _ a w1 (by rfl) h) (Or.inl ⟨by rfl, ?_⟩) HF ?_
      · (intro w' hw; clear hw; go_simp <;> omega)
      try simp only [Act.put, List.setIfInBounds_toArray, List.set_cons_zero, List.set_cons_succ]
      refine wpAnyF_take (i := 10) (v := .agg #[.int .i64 ty.kind, .int .i64 ty.n, .string ty.s, .slice gya ty.args.length gyc]) rfl (by kernel_rfl) (by kernel_rfl) (by kernel_rfl) (fun c a w1 h => HP.out c _ a w1 (by rfl) h) (Or.inl ⟨by rfl, ?_⟩) HF ?_
      · (intro w' hw; have g0 := hw.cell (.inl hBb) f0; have g1 := hw.cell (.inl hBb) f1; have g2 := hw.cell (.inl hBb) f2; have g3 := hw.cell (.inl hBb) f3; clear hw; go_simp)
      try simp only [Act.put, List.setIfInBounds_toArray, List.set_cons_zero, List.set_cons_succ]
      refine wpAnyF_take (i := 11) (v := ?_) rfl (by kernel_rfl) (by kernel_rfl) (by kernel_rfl) (fun c a w1 h => HP.out c _ a w1 (by rfl) h) (Or.inl ⟨by rfl, ?_⟩) HF ?_
      rotate_left
      · (intro w' hw; clear hw; go_simp <;> with_reducible rfl)
      try simp only [Act.put, List.setIfInBounds_toArray, List.set_cons_zero, List.set_cons_succ]
      have HPD := hid (pairT_lasts.1 _ _ wr.drew _ _ HPR.out (Keeps.drew _ _))
      have HOD := hid (HOJ.out.below pairT_lasts ((Below.refl _ wr).drew))
      have hzd : wr.drew.heap.size = wr.heap.size := rfl
      have HBJd := hid (show Below w.heap.size w wr.drew from HBJ.out.drew)
      clear HF
      generalize wr.drew = Wd at *
      have HZD := hid hzd
      clear hzd
      refine wpAnyF_one (i := 12) (by kernel_rfl) (wpOp_run rfl (by rfl) ?_)
      go_simp
      refine ⟨fun _ _ _ => hF0.trans (Keeps.alloc _ _ _), ?_⟩
      refine wpAnyF_one (i := 13) (by kernel_rfl) (wpOp_run rfl (by rfl) ?_)
      refine wp_app1 (.tmp 182) (.tmp 194) 181 rfl w.heap.size 180 8 112 tyPairT pairT_lasts (A := fun b => A b ∨ w.heap.size ≤ b) (.slice ja xs.length jc) xs rfl HOD.out (tx, ty) [.int .i64 tx.kind, .int .i64 tx.n, .string tx.s, .slice ga tx.args.length gc, .int .i64 ty.kind, .int .i64 ty.n, .string ty.s, .slice gya ty.args.length gyc] rfl rfl HPD.out ⟨by omega, by have := HZD.out; omega⟩ ?_
      intro v2 w6 hown2 hgrew
      have hk6 : Keeps (fun b => (fun b => (A b ∨ w.heap.size ≤ b) ∧ b ≠ lb ∧ b < wo.heap.size) b ∨ b = b7 ∨ b = b8) wr w6 := (hF0.trans (Keeps.alloc _ _ _)).trans (hgrew.keeps (fun b h e => HOW9.out b e h))
      have HK6 := hid hk6
      have HO2 := hid hown2
      have HB6' := hid (hgrew.below (HBJd.out.alloc (by have := HZD.out; omega) _) (by have := HZD.out; simp; omega) (fun k hk => (HBL9.out k hk).1))
      have HOB2 := hid (show ∀ b, ownB v2 = some b → b = lb ∨ W6.heap.size ≤ b from fun b hb => by
        rcases hgrew.block with e | e
        · exact HOB.out b (e ▸ hb)
        · have h9 := e b hb; have := HZD.out; simp only [World.size_alloc] at h9; omega)
      refine ⟨fun _ _ _ => hk6, ?_⟩
      clear hown2 hgrew
      try simp only [Act.put, List.setIfInBounds_toArray, List.set_cons_zero, List.set_cons_succ]
      refine wpAnyF_one (i := 14) (by kernel_rfl) (wpOp_run rfl (by rfl) ?_)
      go_simp
      refine ⟨fun _ _ h => h, wpAnyF_done (by kernel_rfl) ?_ _⟩
      go_wp2_with fail
      go_roundw
      case rel =>
        refine ⟨j, by omega, rfl, HB6'.out, HKJ.out.trans HK6.out, ?_, HOB2.out⟩
        have := HO2.out
        rw [← hxs] at this
        rw [List.drop_eq_getElem_cons hjz, List.cons_append, List.reverse_cons, HGZ.out]
        exact this
      case measure => simp [intOf]
end Go.Proofs.YtlpmfkpefoegeabDoor
