/-
  ReadBack: what is printed of a query is read as it, but for which numbers its variables had.
-/
import Derived.Test.YtlpmfkpefoegeacDoorQReads
import Derived.Test.YtlpmfkpefoegeacDoorQRd9
import Derived.Test.YtlpmfkpefoegeacDoorQPrint
import Derived.Test.YtlpmfkpefoegeacDoorQTidy
import Derived.Test.YtlpmfkpefoegeacDoorQSameKL
import Derived.Test.YtlpmfkpefoegeacDoorPSolveM
import Derived.Test.YtlpmfkpefoegeacDoorPBack
namespace Go.Proofs.YtlpmfkpefoegeacDoor
set_option linter.unusedVariables false
set_option linter.unusedSimpArgs false
open Go.RowKit
theorem printQ_snoc (l : List Tm) (t : Tm) : printQ (l ++ [t]) = printQ l ++ (if l = [] then [] else [44]) ++ printF t := by
  cases l with
  | nil => simp [printQ, printA]
  | cons x r =>
    rw [if_neg (by simp), List.cons_append, printQ, printQ, printA_snoc]
    cases r with
    | nil => simp
    | cons y r => rw [if_neg (by simp)]; simp
theorem query_back_take {l : List Tm} {v : Int} (hg : GoodQ l v) (j : Nat) : (printQ (l.take j)).length ≤ 1800 ∧ ∀ (hj : j < l.length), (printF l[j]).length ≤ 360 := by
  obtain ⟨g1, g2, g3, g4⟩ := hg
  have h8 : ∀ t ∈ l, t.Good 8 ∧ t.nodes ≤ 24 := fun t h => ⟨Good.more g2 (g4 t h).2.1, (g4 t h).2.2⟩
  constructor
  · have h1 := printQ_len (l := l.take j) fun t h => h8 t (List.mem_of_mem_take h)
    have h2 : (l.take j).length ≤ 5 := by rw [List.length_take]; omega
    omega
  · intro hj
    have h1 := print_len _ (h8 _ (List.getElem_mem hj)).1
    have h2 := (h8 _ (List.getElem_mem hj)).2
    omega
set_option maxRecDepth 100000 in
set_option maxHeartbeats 16000000 in
theorem readBack_walk (l : List Tm) (hnd : Tm.nodesL l ≤ 4194303) (A : Nat → Prop) (w : World) (v : Value) (hv : TmsR A w l v) (ht : TabsK w.heap.size w) :
    Calls Tryd.prog 3 #[v] w (Pure w (fun r _ => r = .bool true)) := by
  have HTD := hid (tidy_ok l hnd A w v hv)
  have HRS := hid (fun (W : World) (hb : Below w.heap.size w W) => reads_ok w.heap.size W hb.size (ht.below hb))
  have HRD := hid (fun (W : World) (hb : Below w.heap.size w W) (s : Str) (hs : s.length ≤ 1048576) => rquery_ok s hs w.heap.size W hb.size (ht.below hb))
  have HPR := hid (fun (t : Tm) (W : World) (us : List Value) (B : Nat → Prop) (hb : Below w.heap.size w W) (hn : t.nodes ≤ 4194304) (hr : Tm.rep B W t us) => print_ok t w.heap.size B W us hb.size (ht.below hb) hn hr)
  have HND := hid hnd
  clear ht hv hnd
  go_enter Tryd.func3, Tryd.ntmps3
  go_wp2_with fail
  refine HTD.out.mono ?_
  rintro e w1 ⟨v1, rfl, hb1, hT1⟩
  have HB1 := hid hb1
  have hNT : Tm.nodesL (Tm.renSL seenF [] l).1 ≤ 4194303 := by rw [Tm.renSL_nodes]; exact HND.out
  have HTT := hid (show tidy (Tm.renSL seenF [] l).1 = (Tm.renSL seenF [] l).1 from tidy_tidy l)
  generalize (Tm.renSL seenF [] l).1 = T at *
  have HNT := hid hNT
  have HT1 := hid hT1
  obtain ⟨a, cap, b, off, rfl, hlc, hcm, hlb, ha, he⟩ := SlR.at hT1
  have HE := hid he
  have HA := hid ha
  have HGQ := hid (fun (k : Nat) (hk : k ≤ 9) (W : World) (hb : Below w1.heap.size w1 W) => goodQuery_ok T (k : Int) (Nat.le_trans hNT (by omega)) ⟨by omega, by omega⟩ _ W _ (HT1.out.below hb))
  have hTl : T.length ≤ 4194303 := Nat.le_trans (nodesL_len T) hNT
  clear hb1 hT1 hNT he ha
  go_wp2_with fail
  go_loopw [3] (fun i wr => ∃ k : Nat, k ≤ 9 ∧ i = .int .i64 (k : Int) ∧ (∀ j : Nat, j < k → ¬ GoodQ T (j : Int)) ∧ Below w1.heap.size w1 wr) (fun i _ => 9 - (intOf i).toNat)
  case atStart => exact ⟨0, by omega, rfl, fun j hj => absurd hj (by omega), Below.refl _ _⟩
  case round =>
    obtain ⟨k, hk, rfl, hno, hbl⟩ := hrel
    have HB := hid hbl
    have HNO := hid hno
    have HW := hid (HB1.out.trans (hbl.mono HB1.out.size))
    clear hbl hno
    have hk0 : (0 : Int) ≤ (k : Int) := Int.natCast_nonneg _
    by_cases hk8 : k ≤ 8
    · have hk8' : (k : Int) ≤ 8 := by omega
      have hk9 : ¬ 8 < (k : Int) := by omega
      go_wp2_with fail
      refine (HGQ.out k hk wr HB.out).mono ?_
      rintro e w2 ⟨r, rfl, hb2, q, rfl, hq⟩
      have HB2 := hid (HB.out.trans (hb2.mono HB.out.size))
      have HW2 := hid (HB1.out.trans (HB2.out.mono HB1.out.size))
      clear hb2
      cases q with
      | false =>
        have HQ := hid (show ¬ GoodQ T (k : Int) from fun h => by have := hq.2 h; cases this)
        clear hq
        go_wp2_with fail
        go_roundw
        case rel =>
          refine ⟨k + 1, by omega, by go_num, fun j hj => ?_, HB2.out⟩
          by_cases e : j = k
          · subst e; exact HQ.out
          · exact HNO.out j (by omega)
        case measure => simp [intOf]; omega
      | true =>
        have HQ := hid (show GoodQ T (k : Int) from hq.1 rfl)
        clear hq
        have hk9 : ¬ 8 < (k : Int) := by omega
        by_cases hnil : T = []
        · have hd : ((T.length : Int) == 0) = true := by rw [hnil]; rfl
          have hd2 : T.length = 0 := by rw [hnil]; rfl
          clear hnil
          go_wp2_with fail
          refine (HRS.out w2 HW2.out).mono ?_
          rintro e w3 ⟨r, rfl, hb3, rfl⟩
          have HW3 := hid (HW2.out.trans (hb3.mono HW2.out.size))
          clear hb3
          go_wp2_with fail
          go_ret
          exact ⟨_, rfl, HW3.out, rfl⟩
        · have hpos : 0 < T.length := List.length_pos_iff.2 hnil
          have hd : ((T.length : Int) == 0) = false := by rw [beq_eq_false_iff_ne]; omega
          have HQB := hid (query_back HTT.out hnil HQ.out fun u h0 h1 => by
            obtain ⟨j, rfl⟩ : ∃ j : Nat, u = j := ⟨u.toNat, by omega⟩
            exact HNO.out j (by omega))
          clear hnil
          go_wp2_with fail
          go_loopw [4, 32] (fun u4 u32 wr => ∃ (j : Nat) (S : ByteArray), j ≤ T.length ∧ u32 = .int .i64 (j : Int) ∧ u4 = .string S ∧ S = bs (printQ (T.take j)) ∧ Below w1.heap.size w1 wr) (fun _ u32 _ => T.length - (intOf u32).toNat)
          case atStart => exact ⟨0, ⟨#[]⟩, Nat.zero_le _, rfl, rfl, by simp [printQ, bs], HB2.out⟩
          case round =>
            obtain ⟨j, S, hj, rfl, rfl, hS, hb⟩ := hrel
            have HS := hid hS
            have HB3 := hid hb
            have HW3 := hid (HB1.out.trans (hb.mono HB1.out.size))
            have hj0 : (0 : Int) ≤ (j : Int) := Int.natCast_nonneg _
            have hz1 : w1.heap.size ≤ wr.heap.size := hb.size
            have hsz : S.size ≤ 1800 := by rw [hS, bs_size]; exact (query_back_take HQ.out j).1
            clear hS hb
            by_cases hlt : j < T.length
            · obtain ⟨rfl, hAb⟩ := HA.out (by omega)
              have hlt' : (j : Int) < (T.length : Int) := by omega
              obtain ⟨sa, sc, c0, c1, c2, c3, hr⟩ := tm_cells HE.out hAb (Keeps.of_below HB3.out) hlt
              have HR := hid hr
              have lb : b < wr.heap.size := World.block_lt_of_cell? wr _ c0
              have hpx := (query_back_take HQ.out j).2 hlt
              have HAX := hid ((Below.refl wr.heap.size wr).alloc (Nat.le_refl _) (.cells #[.int .i64 T[j].kind, .int .i64 T[j].n, .string T[j].s, .slice sa T[j].args.length sc] 27))
              have HB4 := hid (HB3.out.trans (HAX.out.mono HB3.out.size))
              have HW4 := hid (HB1.out.trans (HB4.out.mono HB1.out.size))
              have HCALL := hid (HPR.out T[j] (wr.alloc (.cells #[.int .i64 T[j].kind, .int .i64 T[j].n, .string T[j].s, .slice sa T[j].args.length sc] 27)) _ _ HW4.out (by have := nodesL_mem (List.getElem_mem hlt); have := HNT.out; omega) (Tm.rep_lasts.1 _ _ _ _ _ HR.out (Keeps.of_below HAX.out)))
              have hzz : (bs (printF T[j])).size = (printF T[j]).length := bs_size _
              have hpb2 : (bs (printF T[j])).size ≤ 360 := by omega
              clear hr hzz
              by_cases hj1 : j = 0
              · subst hj1
                simp only [Nat.zero_mul, Nat.add_zero] at c0 c1 c2 c3
                go_wp2_with fail
                refine HCALL.out.mono ?_
                rintro e w5 ⟨v, rfl, hb5, rfl⟩
                have HB5 := hid (HB4.out.trans (hb5.mono HB4.out.size))
                clear hb5
                go_wp2_with fail
                go_roundw
                case rel =>
                  have hsn : T.take (0 + 1) = T.take 0 ++ [T[0]] := List.take_succ_eq_append_getElem hlt
                  refine ⟨0 + 1, _, by omega, by go_num, rfl, ?_, HB5.out⟩
                  rw [hsn, printQ_snoc, HS.out]
                  rw [if_pos (show T.take 0 = [] from rfl), bs_app]
                  simp
                case measure => simp [intOf]; omega
              · have f9 : 0 < (j : Int) := by omega
                have HJ := hid hj1
                clear hj1
                go_wp2_with fail
                refine HCALL.out.mono ?_
                rintro e w5 ⟨v, rfl, hb5, rfl⟩
                have HB5 := hid (HB4.out.trans (hb5.mono HB4.out.size))
                clear hb5
                go_wp2_with fail
                go_roundw
                case rel =>
                  have hsn : T.take (j + 1) = T.take j ++ [T[j]] := List.take_succ_eq_append_getElem hlt
                  refine ⟨j + 1, _, by omega, by go_num, rfl, ?_, HB5.out⟩
                  rw [hsn, printQ_snoc, HS.out]
                  rw [if_neg (fun h => by have := congrArg List.length h; rw [List.length_take] at this; simp only [List.length_nil] at this; have := HJ.out; omega), show (⟨#[44]⟩ : ByteArray) = bs [44] from rfl, bs_app, bs_app]
                case measure => simp [intOf]; omega
            · have hje : j = T.length := by omega
              subst hje
              have hcat : S ++ ⟨#[46]⟩ = bs (printQ T ++ [46]) := by
                rw [HS.out, List.take_length]; exact bs_app _ [46]
              have HQY := hid (HRD.out wr HW3.out (printQ T ++ [46]) (by have := HQB.out.2; simp only [List.length_append, List.length_singleton]; omega))
              rw [HQB.out.1, ← hcat] at HQY
              clear hcat
              go_wp2_with fail
              refine HQY.out.mono ?_
              rintro e w5 ⟨lv, rfl, hb5, hl5⟩
              have HB5 := hid (HB3.out.trans (hb5.mono HB3.out.size))
              have HW5 := hid (HB1.out.trans (HB5.out.mono HB1.out.size))
              have HSM := hid (sames_ok T T (fun _ => True) w5 _ _ (SlR.mono Tm.rep_lasts (by omega) (HT1.out.below HB5.out) fun _ _ _ => trivial) (SlR.mono Tm.rep_lasts (by omega) hl5 fun _ _ _ => trivial))
              obtain ⟨a', cap', b', off', rfl, -⟩ := SlR.at hl5
              clear hb5 hl5
              go_wp2_with fail
              refine HSM.out.mono ?_
              rintro e w6 ⟨v, rfl, hb6, q6, rfl, hq6⟩
              obtain rfl : q6 = true := hq6.2 (by first | rfl | trivial)
              have HW6 := hid (HW5.out.trans (hb6.mono HW5.out.size))
              clear hb6 hq6
              go_wp2_with fail
              refine (HRS.out w6 HW6.out).mono ?_
              rintro e w7 ⟨r, rfl, hb7, rfl⟩
              have HW7 := hid (HW6.out.trans (hb7.mono HW6.out.size))
              clear hb7
              go_wp2_with fail
              go_ret
              exact ⟨_, rfl, HW7.out, rfl⟩
    · have hke : k = 9 := by omega
      subst hke
      go_wp2_with fail
      refine (HRS.out wr HW.out).mono ?_
      rintro e w3 ⟨r, rfl, hb3, rfl⟩
      have HW3 := hid (HW.out.trans (hb3.mono HW.out.size))
      clear hb3
      go_wp2_with fail
      go_ret
      exact ⟨_, rfl, HW3.out, rfl⟩
end Go.Proofs.YtlpmfkpefoegeacDoor
