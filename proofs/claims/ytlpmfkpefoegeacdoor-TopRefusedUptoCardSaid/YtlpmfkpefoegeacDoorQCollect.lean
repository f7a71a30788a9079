import Derived.Test.YtlpmfkpefoegeacDoorQMarks
import Derived.Test.YtlpmfkpefoegeacDoorQMach5
import Derived.Test.YtlpmfkpefoegeacDoorQSolve1
import Derived.Test.YtlpmfkpefoegeacDoorQIsHeap
import Derived.Test.YtlpmfkpefoegeacDoorQOwn
namespace Go.Proofs.YtlpmfkpefoegeacDoor
set_option maxRecDepth 100000
set_option maxHeartbeats 16000000
set_option linter.all false
open Go.RowKit
def ZoO(A:Nat->Prop)(x:Coll)(r:Value)(w':World):Prop:=∃us a b c,r= .tuple #[.agg us.toArray,a,b,c,.int .i64 x.err]/\Hp.rep A w' x.heap us/\ZbB A w' x.roots a/\ZbB A w' x.tops b/\ZbB A w' x.mks c
def Zbw(m:List Bool)(n j:Nat):List Int:=(List.range (n+1)).map fun i=>if i<=j then(cnt m i:Int)else 0
theorem Zbt(m:List Bool)(n j:Nat):(Zbw m n j).length=n+1:=by simp[Zbw]
theorem ZbZ(m:List Bool)(n j i:Nat)(h:i<(Zbw m n j).length):(Zbw m n j)[i]=if i<=j then(cnt m i:Int)else 0:=by simp[Zbw]
theorem Zhf(m:List Bool)(n:Nat):Zbw m n 0=List.replicate (n+1) 0:=by
 apply List.ext_getElem (by simp[Zbw]);intro i h1 h2;rw[ZbZ,List.getElem_replicate];split;·rename_i h;rw[show i=0 by omega];rfl
 ·rfl
theorem ZnP(m:List Bool){j:Nat}(h:j<m.length):cnt m (j+1)=cnt m j+(if m[j]=true then 1 else 0):=by rw[cnt,List.getElem?_eq_getElem h];cases m[j]<;>simp
theorem Zhg(m:List Bool)(n j:Nat)(h:j<n):Zbw m n (j+1)=(Zbw m n j).set (j+1) (cnt m (j+1):Int):=by
 apply List.ext_getElem (by simp[Zbw]);intro i h1 h2;rw[ZbZ,List.getElem_set];by_cases e:j+1=i;·subst e;rw[if_pos (zL _),if_pos rfl]
 ·rw[if_neg e,ZbZ];by_cases e2:i<=j;·rw[if_pos (by omega),if_pos e2]
  ·rw[if_neg (by omega),if_neg e2]
theorem Zhh(m:List Bool)(n:Nat)(hm:m.length=n)(x:Int):ZeR (Zbw m n n) x=ahead m x:=by
 unfold ZeR ahead;rw[Zbt];have h1:(max 0 (min x (((n+1:Nat):Int) - 1))).toNat=min x.toNat n:=by omega
 rw[h1,List.getElem?_eq_getElem (by rw[Zbt];omega),Option.getD_some,ZbZ,if_pos (by omega),<-hm,Zok]
theorem OwnN.fresh(w:World)(n:Nat)(hn:n<=maxLen):OwnN (w.alloc (.cells (Array.replicate n (.int .i64 0)) 3)) w.heap.size (List.replicate n 0) (.slice (some ⟨w.heap.size,0,none⟩) n n):=by
 refine⟨⟨by rw[Zc2 Zat],?_⟩,fun x hx=>by rw[List.eq_of_mem_replicate hx];unfold I64;omega⟩;rw[List.length_replicate];by_cases h0:n=0;·subst h0;exact .inl ⟨rfl,_,rfl⟩
 ·refine .inr ⟨w.heap.size,n,_,rfl,by omega,zL _,Zar _ _,zL _,hn,by simp,?_⟩;rw[Nat.mul_one,Array.toList_replicate,List.take_of_length_le (by simp)];clear h0 hn;induction n with|zero=>rfl|succ n ih=>rw[List.replicate_succ,List.replicate_succ,List.flatMap_cons,<-ih];rfl
theorem OwnN.cell{w:World}{base g n cap:Nat}{l:List Int}(h:OwnN w base l (.slice (some ⟨g,0,none⟩) n cap)){i:Nat}(hi:i<l.length):w.cell? ⟨g,i,none⟩=some (.int .i64 l[i])/\I64 l[i]/\(∀o,w.frozen? ⟨g,o,none⟩=false)/\Zai (.slice (some ⟨g,0,none⟩) n cap)=some g/\base<=g/\g<w.heap.size:=by obtain⟨g',cap',e,h0,h1,h2,h3,h4,h5,h6,hc⟩:=OwnF.at Zat h (by omega);simp only[Value.slice.injEq,Option.some.injEq,Addr.mk.injEq,and_true]at e;obtain⟨rfl,rfl,rfl⟩:=e;exact⟨by simpa using hc i hi 0 _ rfl,h.2 _ (List.getElem_mem hi),h4,h3,h6,h5⟩
theorem Zlf (h : Hp) (roots tops mks : List Int) (A : Nat → Prop) (w : World) (vs : List Value) (v1 v2 v3 : Value) (hh : Hp.rep A w h vs) (hv1 : ZbB A w roots v1) (hv2 : ZbB A w tops v2) (hv3 : ZbB A w mks v3) :
    Calls Tryd.prog 78 #[.agg vs.toArray, v1, v2, v3] w (Pure w (ZoO (fun b => A b ∨ New w b) (Za3 h roots tops mks))) := by
  obtain ⟨va, cap, vb, tap, rfl, hc1, hc2, hc3, ht1, ht2, ht3, hc, ht⟩ := Hp.rep2 hh
  obtain ⟨_, _, cb, coff, e, -, -, -, hca, hce⟩ := hc.at
  simp only [Value.slice.injEq, true_and] at e
  obtain ⟨rfl, rfl⟩ := e
  obtain ⟨_, _, tb, toff, e, -, -, -, hta, hte⟩ := ht.at
  simp only [Value.slice.injEq, true_and] at e
  obtain ⟨rfl, rfl⟩ := e
  obtain ⟨r1a, r1c, r1b, r1o, rfl, hr11, hr12, hr13, hr1a, hr1e⟩ := hv1.at
  obtain ⟨r2a, r2c, -, -, rfl, -, -, hv2l, -⟩ := hv2.at
  obtain ⟨r3a, r3c, -, -, rfl, -, -, hv3l, -⟩ := hv3.at
  have HH := zh hh
  have HL2 := zh hv2l
  have HL3 := zh hv3l
  have HV1 := zh hv1
  have HV2 := zh hv2
  have HV3 := zh hv3
  have HCA := zh hca
  have HCE := zh hce
  have HTA := zh hta
  have HTE := zh hte
  have HRA := zh hr1a
  have HRE := zh hr1e
  clear hh hv1 hv2 hv3 hca hce hta hte hc ht hr1a hr1e
  go_enter Tryd.func78, Tryd.ntmps78
  go_wp2_with fail
  refine (Zny h roots A _ [_, _] _ (Hp.rep.keeps HH.o ((Keeps.alloc _ _ _).trans (Keeps.alloc _ _ _))) (SlR.keeps Zab HV1.o ((Keeps.alloc _ _ _).trans (Keeps.alloc _ _ _)))).mono ?_
  rintro e w1 ⟨v, rfl, hb1, mv, rfl, hmk⟩
  have h2 := Zdc w (.cells #[.slice va h.cells.length cap, .slice vb h.trail.length tap] 82) (.cells #[.slice none 0 0, .slice none 0 0] 82)
  have HX1 := zh (Zad h2.1 hb1)
  have HX2 := zh (Zad h2.2 hb1)
  have HB := zh (show Below w.heap.size w w1 from ZaA (ZaA (hb1.mono (by simp))))
  have hz : w.heap.size + 2 ≤ w1.heap.size := by have := hb1.size; simp at this; omega
  have hz' : w.heap.size < w1.heap.size := by omega
  have hz1 : w.heap.size + 1 < w1.heap.size := by omega
  have HMK := zh (show OwnB w1 (w.heap.size + 2) (Zfs h roots).1 mv by simpa using hmk)
  have hcs := Zap
  clear h2 hb1 hmk
  obtain ⟨x0, x1, xf⟩ := Zcj HX1.o
  obtain ⟨y0, y1, yf⟩ := Zcj HX2.o
  by_cases hg : h.Good
  case neg =>
    have HG := zh hg
    rw [show (Zfs h roots).2 = 1 by rw [Zfs, if_neg hg]]
    clear hg
    go_wp2_with fail
    refine bodyPost_ret (v := .tuple #[.agg #[.slice va h.cells.length cap, .slice vb h.trail.length tap], .slice none 0 0, .slice none 0 0, .slice none 0 0, .int .i64 1]) (by simp [results, Tryd.results78, go_sem, hcs, x0, x1, y0, y1]) rfl ?_
    have hb : Below w.heap.size w ((w1.setCell ⟨w.heap.size + 1, 0, none⟩ (.slice va h.cells.length cap)).setCell ⟨w.heap.size + 1, 1, none⟩ (.slice vb h.trail.length tap)) := Below.setCell (Below.setCell HB.o (by simp) _) (by simp) _
    rw [Za3, if_pos HG.o]
    exact Pure.mk hb ⟨_, _, _, _, rfl, Hp.rep.mono (Hp.rep.keeps HH.o (Keeps.ob hb)) (fun _ _ h => .inl h), SlR.nil .., SlR.nil .., SlR.nil ..⟩
  case pos =>
    have HG := zh hg
    have hL1 : h.cells.length ≤ 65536 := hg.2.2.1
    have hL2 : h.trail.length ≤ 65536 := hg.2.2.2
    have em : Zfs h roots = (marks h.cells roots, 0) := by rw [Zfs, if_pos hg]
    rw [em] at HMK ⊢
    obtain ⟨m, hm⟩ : ∃ m, m = marks h.cells roots := ⟨_, rfl⟩
    rw [← hm] at HMK
    have HM := zh hm
    have hml : m.length = h.cells.length := by rw [hm, ZfT]
    clear hg em hm
    go_wp2_with fail
    go_loopw [38] (fun i wr => ∃ j : Nat, j ≤ roots.length ∧ i = .int .i64 (j : Int) ∧ wr = w1 ∧ ∀ q (hq : q < roots.length), q < j → Inb h.cells roots[q]) (fun i _ => roots.length - (intOf i).toNat)
    case atStart => exact ⟨0, Nat.zero_le _, rfl, rfl, fun q _ hq => absurd hq (Nat.not_lt_zero _)⟩
    case round =>
      obtain ⟨j, hj, rfl, hwe, hin⟩ := hrel
      subst hwe
      have HIN := zh hin
      clear hin
      by_cases hlt : j < roots.length
      · obtain ⟨rfl, hAr⟩ := HRA.o (by omega)
        obtain ⟨c0, ci⟩ := ZcH HRE.o hAr (Keeps.ob HB.o) hlt
        have hlt' : (j : Int) < (roots.length : Int) := by omega
        have HLT := zh hlt
        obtain ⟨q, hq⟩ : ∃ q : Int, q = roots[j]'hlt := ⟨_, rfl⟩
        rw [← hq] at c0 ci
        have HQ := zh hq
        clear hq
        by_cases hq1 : 0 ≤ q ∧ q < (h.cells.length : Int)
        · have HQ1 := zh hq1
          obtain ⟨k1, k2⟩ := hq1
          go_wp2_with fail
          go_roundw
          case rel =>
            refine ⟨j + 1, by omega, by go_num, (by first | rfl | trivial), fun i hi hij => ?_⟩
            by_cases e : i = j
            · subst e; rw [← HQ.o]; exact HQ1.o
            · exact HIN.o i hi (by omega)
          case measure => first | (simp [intOf]; done) | (simp [intOf]; omega)
        · have HNE := zh (show ¬ (∀ r ∈ roots, Inb h.cells r) from fun hall => hq1 (by have := hall (roots[j]'HLT.o) (List.getElem_mem _); rw [← HQ.o] at this; exact this))
          have hq1' : ¬ (0 ≤ q ∧ q < (h.cells.length : Int)) := hq1
          clear hq1
          by_cases hq0 : q < 0
          all_goals
            go_wp2_with fail
            all_goals first
              | (exfalso; omega)
              | (refine bodyPost_ret (v := .tuple #[.agg #[.slice va h.cells.length cap, .slice vb h.trail.length tap], .slice none 0 0, .slice none 0 0, .slice none 0 0, .int .i64 4]) (by simp [results, Tryd.results78, go_sem, hcs, x0, x1, y0, y1]) rfl ?_
                 have hb : Below w.heap.size w ((wr.setCell ⟨w.heap.size + 1, 0, none⟩ (.slice va h.cells.length cap)).setCell ⟨w.heap.size + 1, 1, none⟩ (.slice vb h.trail.length tap)) := Below.setCell (Below.setCell HB.o (by simp) _) (by simp) _
                 rw [Za3, if_neg (not_not_intro HG.o), if_pos HNE.o]
                 exact Pure.mk hb ⟨_, _, _, _, rfl, Hp.rep.mono (Hp.rep.keeps HH.o (Keeps.ob hb)) (fun _ _ h => .inl h), SlR.nil .., SlR.nil .., SlR.nil ..⟩)
              | go_ways
      · have HALL := zh (show ∀ r ∈ roots, Inb h.cells r from fun r hr => by
          obtain ⟨i, hi, rfl⟩ := List.mem_iff_getElem.1 hr
          exact HIN.o i hi (by omega))
        have hlt' : ¬ (j : Int) < (roots.length : Int) := by omega
        clear hlt
        have qM : ∀ W : World, (Instr.makeSlice 43 (.int .i64 ((h.cells.length : Int) + 1)) (.int .i64 ((h.cells.length : Int) + 1))).run Tryd.prog W = .ok (.slice (some ⟨W.heap.size, 0, none⟩) (h.cells.length + 1) (h.cells.length + 1)) (W.alloc (.cells (Array.replicate (h.cells.length + 1) (.int .i64 0)) 3)) := fun W => by
          have := ZeQ (bytes := 8) (z := .int .i64 0) W Tryd.underlying43 (by kernel_rfl) rfl (h.cells.length + 1) (by omega) (by omega)
          simpa using this
        have qT : ∀ W : World, (Instr.makeSlice 43 (.int .i64 ((h.trail.length : Int) + 1)) (.int .i64 ((h.trail.length : Int) + 1))).run Tryd.prog W = .ok (.slice (some ⟨W.heap.size, 0, none⟩) (h.trail.length + 1) (h.trail.length + 1)) (W.alloc (.cells (Array.replicate (h.trail.length + 1) (.int .i64 0)) 3)) := fun W => by
          have := ZeQ (bytes := 8) (z := .int .i64 0) W Tryd.underlying43 (by kernel_rfl) rfl (h.trail.length + 1) (by omega) (by omega)
          simpa using this
        obtain ⟨ma, mc, rfl, hma, hmc⟩ := OwnF.val HMK.o
        rw [hml] at hma
        rw [hml] at HMK
        rw [hml]
        have HT0 := zh (OwnN.fresh wr (h.cells.length + 1) (by simp [maxLen]; omega))
        rw [← Zhf m] at HT0
        obtain ⟨ga, hga⟩ : ∃ g, g = wr.heap.size := ⟨_, rfl⟩
        have HGA := zh hga
        rw [← hga] at HT0
        have hga1 : w.heap.size + 2 ≤ ga := by omega
        have HB2 := zh (HB.o.alloc (by omega) (.cells (Array.replicate (h.cells.length + 1) (.int .i64 0)) 3))
        have HX12 := zh (Zag HX1.o (.cells (Array.replicate (h.cells.length + 1) (.int .i64 0)) 3))
        have HX22 := zh (Zag HX2.o (.cells (Array.replicate (h.cells.length + 1) (.int .i64 0)) 3))
        have HM2 := zh (OwnF.below HMK.o ((zB _ _).alloc (zL _) (.cells (Array.replicate (h.cells.length + 1) (.int .i64 0)) 3)))
        have hs2 : (wr.alloc (.cells (Array.replicate (h.cells.length + 1) (.int .i64 0)) 3)).heap.size = ga + 1 := by rw [hga]; simp
        go_wp2_with fail
        rw [← HGA.o]
        clear hga x0 x1 xf y0 y1 yf
        go_loopw [60] (fun i wr => ∃ j : Nat, j ≤ h.cells.length ∧ i = .int .i64 (j : Int) ∧ Below w.heap.size w wr ∧ wr.heap[w.heap.size]? = some (.cells #[.slice va h.cells.length cap, .slice vb h.trail.length tap] 82 (0, 0)) ∧ wr.heap[w.heap.size + 1]? = some (.cells #[.slice none 0 0, .slice none 0 0] 82 (0, 0)) ∧ OwnB wr (w.heap.size + 2) m (.slice ma h.cells.length mc) ∧ OwnN wr ga (Zbw m h.cells.length j) (.slice (some ⟨ga, 0, none⟩) (h.cells.length + 1) (h.cells.length + 1)) ∧ ga + 1 ≤ wr.heap.size) (fun i _ => h.cells.length - (intOf i).toNat)
        case atStart => exact ⟨0, Nat.zero_le _, rfl, HB2.o, HX12.o, HX22.o, HM2.o, HT0.o, by omega⟩
        case round =>
          obtain ⟨j, hj, rfl, jb, j1, j2, jm, jt, jz⟩ := hrel
          have JB := zh jb
          have J1 := zh j1
          have J2 := zh j2
          have JM := zh jm
          have JT := zh jt
          have hjz0 := Zah j1
          have hjz1 := Zah j2
          by_cases hlt : j < h.cells.length
          · obtain ⟨gb, gcap, e, -, -, -, hgb, -, hgbl, -, hcell⟩ := OwnF.at ZbS jm (by omega)
            simp only [Value.slice.injEq] at e
            obtain ⟨rfl, -, rfl⟩ := e
            have hjm : j < m.length := by omega
            have b0 : wr.cell? ⟨gb, j, none⟩ = some (.bool m[j]) := by simpa using hcell j hjm 0 _ rfl
            have htl := Zbt m h.cells.length j
            obtain ⟨t0, -, tf, hot, -, -⟩ := OwnN.cell jt (i := j) (by omega)
            obtain ⟨t1, -, -, -, -, -⟩ := OwnN.cell jt (i := j + 1) (by omega)
            rw [ZbZ, if_pos (zL _)] at t0
            have HOT := zh hot
            have hcnt := ZcA m j
            have hgab : ¬ ga = gb := fun e => Za0 (by decide) jm jt gb hgb (hot.trans (congrArg some e))
            have hlt' : (j : Int) < (h.cells.length : Int) := by omega
            have hj0 : (0 : Int) ≤ (j : Int) := zN _
            have hc0 : (0 : Int) ≤ (cnt m j : Int) := zN _
            have HW1 := zh (Below.setCell JB.out (p := ⟨ga, j + 1, none⟩) (by simp only; omega) (.int .i64 (cnt m j : Int)))
            have HW2 := zh (Below.setCell HW1.o (p := ⟨ga, j + 1, none⟩) (by simp only; omega) (.int .i64 ((cnt m j : Int) + 1)))
            have HO1 := zh (show OwnN (wr.setCell ⟨ga, j + 1, none⟩ (.int .i64 (cnt m j : Int))) ga ((Zbw m h.cells.length j).set (j + 1) (cnt m j : Int)) (.slice (some ⟨ga, 0, none⟩) (h.cells.length + 1) (h.cells.length + 1)) by
              have := OwnF.set (y := (cnt m j : Int)) (u := .int .i64 (cnt m j : Int)) Zat JT.out HOT.o (i := j + 1) (j := 0) (by omega) (by omega) rfl (by unfold I64; omega)
              simpa using this)
            have HO2 := zh (show OwnN ((wr.setCell ⟨ga, j + 1, none⟩ (.int .i64 (cnt m j : Int))).setCell ⟨ga, j + 1, none⟩ (.int .i64 ((cnt m j : Int) + 1))) ga ((Zbw m h.cells.length j).set (j + 1) ((cnt m j : Int) + 1)) (.slice (some ⟨ga, 0, none⟩) (h.cells.length + 1) (h.cells.length + 1)) by
              have := OwnF.set (y := (cnt m j : Int) + 1) (u := .int .i64 ((cnt m j : Int) + 1)) Zat HO1.o HOT.o (i := j + 1) (j := 0) (by rw [List.length_set]; omega) (by omega) rfl (by unfold I64; omega)
              rw [List.set_set] at this
              simpa using this)
            have HM1 := zh (OwnF.kept JM.out (w' := wr.setCell ⟨ga, j + 1, none⟩ (.int .i64 (cnt m j : Int))) (fun b hb => Below.heap_setCell _ _ _ _ (fun e => by have := zI (hgb.symm.trans hb); simp only at e; omega)))
            have HM2' := zh (OwnF.kept HM1.o (w' := (wr.setCell ⟨ga, j + 1, none⟩ (.int .i64 (cnt m j : Int))).setCell ⟨ga, j + 1, none⟩ (.int .i64 ((cnt m j : Int) + 1))) (fun b hb => Below.heap_setCell _ _ _ _ (fun e => by have := zI (hgb.symm.trans hb); simp only at e; omega)))
            have HNX := zh (Zhg m h.cells.length j hlt)
            have hcs1 := ZnP m hjm
            cases hmj : m[j] with
            | false =>
              rw [hmj] at b0 hcs1
              have HCN := zh (show cnt m (j + 1) = cnt m j by simpa using hcs1)
              clear jb j1 j2 jm jt hcell hcs1 hgb hot
              go_wp2_with fail
              go_roundw
              case rel =>
                refine ⟨j + 1, by omega, by go_num, HW1.o, ?_, ?_, HM1.o, by rw [HNX.o, HCN.o]; exact HO1.o, by simp; omega⟩
                · rw [Below.heap_setCell _ _ _ _ (by simp; omega)]; exact J1.out
                · rw [Below.heap_setCell _ _ _ _ (by simp; omega)]; exact J2.out
              case measure => first | (simp [intOf]; done) | (simp [intOf]; omega)
            | true =>
              rw [hmj] at b0 hcs1
              have HCN := zh (show ((cnt m (j + 1) : Nat) : Int) = (cnt m j : Int) + 1 by rw [hcs1]; simp)
              clear jb j1 j2 jm jt hcell hcs1 hgb hot
              go_wp2_with fail
              go_roundw
              case rel =>
                refine ⟨j + 1, by omega, by go_num, HW2.o, ?_, ?_, HM2'.o, by rw [HNX.o, HCN.o]; exact HO2.o, by simp; omega⟩
                · rw [Below.heap_setCell _ _ _ _ (by simp; omega), Below.heap_setCell _ _ _ _ (by simp; omega)]; exact J1.out
                · rw [Below.heap_setCell _ _ _ _ (by simp; omega), Below.heap_setCell _ _ _ _ (by simp; omega)]; exact J2.out
              case measure => first | (simp [intOf]; done) | (simp [intOf]; omega)
          · have hje : j = h.cells.length := by omega
            subst hje
            obtain ⟨x0, x1, xf⟩ := Zcj j1
            obtain ⟨y0, y1, yf⟩ := Zcj j2
            have hlt' : ¬ ((h.cells.length : Int) < (h.cells.length : Int)) := by omega
            clear jb j1 j2 jm jt hlt
            obtain ⟨go, hgo⟩ : ∃ g, g = wr.heap.size := ⟨_, rfl⟩
            have HGO := zh hgo
            have hgo1 : ga + 1 ≤ go := by omega
            have KB0 := zh (JB.out.alloc (by have := JB.out.size; omega) (.cells #[.slice none 0 0, .slice none 0 0] 82))
            have K10 := zh (Zag J1.out (.cells #[.slice none 0 0, .slice none 0 0] 82))
            have K20 := zh (Zag J2.out (.cells #[.slice none 0 0, .slice none 0 0] 82))
            have KM0 := zh (OwnF.below JM.out ((zB _ _).alloc (zL _) (.cells #[.slice none 0 0, .slice none 0 0] 82)))
            have KT0 := zh (OwnF.below JT.out ((zB _ _).alloc (zL _) (.cells #[.slice none 0 0, .slice none 0 0] 82)))
            have KG0 := zh (Zar wr (.cells #[.slice none 0 0, .slice none 0 0] 82))
            rw [← hgo] at KG0
            have hs3 : (wr.alloc (.cells #[.slice none 0 0, .slice none 0 0] 82)).heap.size = go + 1 := by rw [hgo]; simp
            go_wp2_with fail
            rw [← HGO.o]
            clear hgo x0 x1 xf y0 y1 yf
            go_loopw [85] (fun i wr => ∃ (j : Nat) (cv : Value), j ≤ h.cells.length ∧ i = .int .i64 (j : Int) ∧ Below w.heap.size w wr ∧ wr.heap[w.heap.size]? = some (.cells #[.slice va h.cells.length cap, .slice vb h.trail.length tap] 82 (0, 0)) ∧ wr.heap[w.heap.size + 1]? = some (.cells #[.slice none 0 0, .slice none 0 0] 82 (0, 0)) ∧ OwnB wr (w.heap.size + 2) m (.slice ma h.cells.length mc) ∧ OwnN wr ga (Zbw m h.cells.length h.cells.length) (.slice (some ⟨ga, 0, none⟩) (h.cells.length + 1) (h.cells.length + 1)) ∧ wr.heap[go]? = some (.cells #[cv, .slice none 0 0] 82 (0, 0)) ∧ OwnC wr ga (Zfo h.cells m j) cv ∧ go + 1 ≤ wr.heap.size) (fun i _ => h.cells.length - (intOf i).toNat)
            case atStart => exact ⟨0, _, Nat.zero_le _, rfl, KB0.out, K10.out, K20.out, KM0.out, KT0.out, KG0.out, OwnF.nil, by omega⟩
            case round =>
              obtain ⟨j, cv, hj, rfl, jb, j1, j2, jm, jt, jg, jo, jz⟩ := hrel
              have KB := zh jb
              have K1 := zh j1
              have K2 := zh j2
              have KM := zh jm
              have KT := zh jt
              have KG := zh jg
              have hzr0 := Zah j1
              have hzr1 := Zah j2
              have hzrg := Zah jg
              obtain ⟨ya, yc, rfl, hyl, hym⟩ := OwnF.val jo
              rw [Zbh] at hyl jo jg KG
              have KO := zh jo
              obtain ⟨x0, x1, xf⟩ := Zcj j1
              obtain ⟨g0, g1, gf⟩ := Zcj jg
              have hcntj := ZcA m j
              by_cases hlt : j < h.cells.length
              · obtain ⟨rfl, hAb⟩ := HCA.o (by omega)
                obtain ⟨c0, c1, c2, i0, i1, i2⟩ := ZbP HCE.o hAb (Keeps.ob jb) hlt
                have hok := HG.o.1 j hlt
                obtain ⟨c, hc⟩ : ∃ c : Ce, c = h.cells[j]'hlt := ⟨_, rfl⟩
                rw [← hc] at c0 c1 c2 i0 i1 i2 hok
                have HCA' := zh (show Zaa h.cells (j : Int) = c by rw [hc]; exact ZaC hlt)
                have HOKC := zh (show c.Ok from ⟨i0, i1, i2⟩)
                obtain ⟨gb, gcap, e, -, -, -, hgb, -, hgbl, -, hcell⟩ := OwnF.at ZbS jm (by omega)
                simp only [Value.slice.injEq] at e
                obtain ⟨rfl, -, rfl⟩ := e
                have hjm : j < m.length := by omega
                have b0 : wr.cell? ⟨gb, j, none⟩ = some (.bool m[j]) := by simpa using hcell j hjm 0 _ rfl
                have hcbl : cb < wr.heap.size := World.block_lt_of_cell? wr _ c0
                have hlt' : (j : Int) < (h.cells.length : Int) := by omega
                have hj0 : (0 : Int) ≤ (j : Int) := zN _
                have hmg : m[j]? = some m[j] := List.getElem?_eq_getElem hjm
                cases hmj : m[j] with
                | false =>
                  rw [hmj] at b0 hmg
                  have HCOL := zh (show Zfo h.cells m (j + 1) = Zfo h.cells m j by rw [Zfo, if_neg (by rw [hmg]; simp)])
                  have KM2 := zh (OwnF.below KM.out ((zB _ _).alloc (zL _) (.cells #[.int .i64 c.kind, .int .i64 c.n, .string c.s] 112)))
                  have KT2 := zh (OwnF.below KT.out ((zB _ _).alloc (zL _) (.cells #[.int .i64 c.kind, .int .i64 c.n, .string c.s] 112)))
                  have KO2 := zh (OwnF.below KO.out ((zB _ _).alloc (zL _) (.cells #[.int .i64 c.kind, .int .i64 c.n, .string c.s] 112)))
                  clear jb j1 j2 jm jt jg jo hcell hgb hok hmg i0 i1 i2 hc
                  go_wp2_with fail
                  go_roundw
                  case rel => exact ⟨j + 1, _, by omega, by go_num, KB.out.alloc KB.out.size _, Zag K1.out _, Zag K2.out _, KM2.out, KT2.out, Zag KG.out _, (by rw [HCOL.o]; exact KO2.out), by simp; omega⟩
                  case measure => first | (simp [intOf]; done) | (simp [intOf]; omega)
                | true =>
                  rw [hmj] at b0 hmg
                  have HCOL := zh (show Zfo h.cells m (j + 1) = Zfo h.cells m j ++ [adj m c] by rw [Zfo, if_pos hmg, HCA'.o])
                  have HOR := zh (OwnF.ownR Ce.vals_len (OwnF.below (OwnF.below KO.out ((zB _ _).alloc (zL _) (.cells #[.int .i64 (adj m c).kind, .int .i64 (adj m c).n, .string c.s] 112))) (zB _ _)) (fun _ => True))
                  have hgab : ¬ gb = go := fun e => OwnF.ne_box jm jg (by decide) (hgb.trans (congrArg some e))
                  clear jb j1 j2 jm jo hcell hgb hmg i0 i1 i2 hc
                  by_cases hk : c.kind = 0
                  · have hn : ∃ n : Nat, c.n = (n : Int) ∧ n < h.cells.length := by
                      unfold Ce.OkAt at hok
                      obtain ⟨n, hn⟩ := Int.eq_ofNat_of_zero_le (show 0 ≤ c.n by omega)
                      exact ⟨n, hn, by omega⟩
                    obtain ⟨n, hn, hnl⟩ := hn
                    have hadj : adj m c = ⟨0, (cnt m n : Int), c.s⟩ := by rw [adj, if_pos hk, hn, ahead, Int.toNat_natCast, hk]
                    obtain ⟨t0, -, -, hot, -, htz⟩ := OwnN.cell jt (i := n) (by rw [Zbt]; omega)
                    rw [ZbZ, if_pos (by omega)] at t0
                    have hcn := ZcA m n
                    have hn0 : (0 : Int) ≤ (n : Int) := zN _
                    have hn1 : (n : Int) < (h.cells.length : Int) + 1 := by omega
                    have HADJ := zh (show Ce.rep (fun b => True ∧ Zai (.slice ya (cnt m j) yc) ≠ some b) (wr.alloc (.cells #[.int .i64 (adj m c).kind, .int .i64 (adj m c).n, .string c.s] 112)) (adj m c) [.int .i64 (0 : Int), .int .i64 (cnt m n : Int), .string c.s] from by
                      rw [hadj]
                      exact ⟨⟨by unfold I64; simp only; omega, by unfold I64; simp only; omega, HOKC.o.2.2⟩, rfl⟩)
                    rw [hadj] at HOR HADJ
                    simp only at HOR HADJ
                    rw [hk] at c0
                    rw [hn] at c1
                    have HHAD := zh hadj
                    clear jt jg hok hk hn hot
                    go_wp2_with (at_builtin; go_must (refine Zas rfl (.tmp 105) (.tmp 107) 80 rfl ga 112 3 32 Zdn Ce.rep_lasts (A := fun _ => True) (.slice ya (cnt m j) yc) (Zfo h.cells m j) rfl HOR.o (⟨0, (cnt m n : Int), c.s⟩) [.int .i64 (0), .int .i64 ((cnt m n : Int)), .string c.s] (by simp only [World.size_alloc]; rfl) rfl HADJ.o ⟨by rw [Zbh]; omega, by simp; omega⟩ ?_); go_must (intro v2 w4 hown2 hgrew; have hno : (∀ b, b < ga → Zai (.slice ya (cnt m j) yc) ≠ some b) := (fun b hb e => by have := (KO.out.lt b e).1; omega); have hka := ((Keeps.alloc (fun b => Zai (.slice ya (cnt m j) yc) ≠ some b) _ _).trans (Keeps.alloc _ _ _)).trans (hgrew.keeps (A := fun b => Zai (.slice ya (cnt m j) yc) ≠ some b) (fun _ h => h)); have HO4 := zh (OwnF.of_ownR hown2); have hz4 := hgrew.size; simp only [World.size_alloc] at hz4; have L1 := zh (Zaj K1.out hka (hno _ (by omega))); have L2 := zh (Zaj K2.out hka (hno _ (by omega))); have LM := zh (OwnF.kept KM.out (w' := w4) (fun b hb => hka.block b (KM.out.lt b hb).2 (fun e => Za0 (by decide) KO.out KM.out b e hb))); have LT := zh (OwnF.kept KT.out (w' := w4) (fun b hb => hka.block b (KT.out.lt b hb).2 (fun e => Za0 (by decide) KO.out KT.out b e hb))); have LG := zh (Zaj KG.out hka (OwnF.ne_box KO.out KG.out (by decide))); have LB := zh (hgrew.below ((KB.out.alloc (by have := KB.out.size; omega) _).alloc (by have := KB.out.size; simp; omega) _) (by simp; omega) (fun b hb => by have := (KO.out.lt b hb).1; omega)); obtain ⟨g0, g1, gf⟩ := Zcj LG.out; have hgl := Zah LG.out; obtain ⟨va4, vc4, hv4, -, -⟩ := OwnF.val HO4.o; rw [List.length_append, Zbh, List.length_singleton] at hv4; subst hv4; clear hgrew hown2 hka))
                    have hgne : Zai (.slice va4 (cnt m j + 1) vc4) ≠ some go := OwnF.ne_box HO4.o LG.out (by decide)
                    go_roundw
                    case rel =>
                      refine ⟨j + 1, _, by omega, by go_num, LB.out.setCell (by simp only; omega) _, ?_, ?_, ?_, ?_, (Zal LG.out 0 _).trans rfl, ?_, by simp; omega⟩
                      · rw [Below.heap_setCell _ _ _ _ (by simp only; omega)]; exact L1.out
                      · rw [Below.heap_setCell _ _ _ _ (by simp only; omega)]; exact L2.out
                      · exact OwnF.kept LM.out (fun b hb => Below.heap_setCell _ _ _ _ (fun e => OwnF.ne_box LM.out LG.out (by decide) (hb.trans (congrArg some e))))
                      · exact OwnF.kept LT.out (fun b hb => Below.heap_setCell _ _ _ _ (fun e => OwnF.ne_box LT.out LG.out (by decide) (hb.trans (congrArg some e))))
                      · rw [HCOL.o, HHAD.o]
                        exact OwnF.kept HO4.o (fun b hb => Below.heap_setCell _ ⟨go, 0, none⟩ _ _ (fun e => hgne (hb.trans (congrArg some e))))
                    case measure => first | (simp [intOf]; done) | (simp [intOf]; omega)
                  · have hadj : adj m c = c := by rw [adj, if_neg hk]
                    have hk' : (c.kind == 0) = false := by simpa using hk
                    have HADJ := zh (show Ce.rep (fun b => True ∧ Zai (.slice ya (cnt m j) yc) ≠ some b) (wr.alloc (.cells #[.int .i64 (adj m c).kind, .int .i64 (adj m c).n, .string c.s] 112)) c [.int .i64 c.kind, .int .i64 c.n, .string c.s] from ⟨HOKC.o, rfl⟩)
                    rw [hadj] at HOR HADJ
                    have HHAD := zh hadj
                    clear jt jg hok hk
                    go_wp2_with (at_builtin; go_must (refine Zas rfl (.tmp 105) (.tmp 107) 80 rfl ga 112 3 32 Zdn Ce.rep_lasts (A := fun _ => True) (.slice ya (cnt m j) yc) (Zfo h.cells m j) rfl HOR.o c [.int .i64 c.kind, .int .i64 c.n, .string c.s] (by simp only [World.size_alloc]; rfl) rfl HADJ.o ⟨by rw [Zbh]; omega, by simp; omega⟩ ?_); go_must (intro v2 w4 hown2 hgrew; have hno : (∀ b, b < ga → Zai (.slice ya (cnt m j) yc) ≠ some b) := (fun b hb e => by have := (KO.out.lt b e).1; omega); have hka := ((Keeps.alloc (fun b => Zai (.slice ya (cnt m j) yc) ≠ some b) _ _).trans (Keeps.alloc _ _ _)).trans (hgrew.keeps (A := fun b => Zai (.slice ya (cnt m j) yc) ≠ some b) (fun _ h => h)); have HO4 := zh (OwnF.of_ownR hown2); have hz4 := hgrew.size; simp only [World.size_alloc] at hz4; have L1 := zh (Zaj K1.out hka (hno _ (by omega))); have L2 := zh (Zaj K2.out hka (hno _ (by omega))); have LM := zh (OwnF.kept KM.out (w' := w4) (fun b hb => hka.block b (KM.out.lt b hb).2 (fun e => Za0 (by decide) KO.out KM.out b e hb))); have LT := zh (OwnF.kept KT.out (w' := w4) (fun b hb => hka.block b (KT.out.lt b hb).2 (fun e => Za0 (by decide) KO.out KT.out b e hb))); have LG := zh (Zaj KG.out hka (OwnF.ne_box KO.out KG.out (by decide))); have LB := zh (hgrew.below ((KB.out.alloc (by have := KB.out.size; omega) _).alloc (by have := KB.out.size; simp; omega) _) (by simp; omega) (fun b hb => by have := (KO.out.lt b hb).1; omega)); obtain ⟨g0, g1, gf⟩ := Zcj LG.out; have hgl := Zah LG.out; obtain ⟨va4, vc4, hv4, -, -⟩ := OwnF.val HO4.o; rw [List.length_append, Zbh, List.length_singleton] at hv4; subst hv4; clear hgrew hown2 hka))
                    have hgne : Zai (.slice va4 (cnt m j + 1) vc4) ≠ some go := OwnF.ne_box HO4.o LG.out (by decide)
                    go_roundw
                    case rel =>
                      refine ⟨j + 1, _, by omega, by go_num, LB.out.setCell (by simp only; omega) _, ?_, ?_, ?_, ?_, (Zal LG.out 0 _).trans rfl, ?_, by simp; omega⟩
                      · rw [Below.heap_setCell _ _ _ _ (by simp only; omega)]; exact L1.out
                      · rw [Below.heap_setCell _ _ _ _ (by simp only; omega)]; exact L2.out
                      · exact OwnF.kept LM.out (fun b hb => Below.heap_setCell _ _ _ _ (fun e => OwnF.ne_box LM.out LG.out (by decide) (hb.trans (congrArg some e))))
                      · exact OwnF.kept LT.out (fun b hb => Below.heap_setCell _ _ _ _ (fun e => OwnF.ne_box LT.out LG.out (by decide) (hb.trans (congrArg some e))))
                      · rw [HCOL.o, HHAD.o]
                        exact OwnF.kept HO4.o (fun b hb => Below.heap_setCell _ ⟨go, 0, none⟩ _ _ (fun e => hgne (hb.trans (congrArg some e))))
                    case measure => first | (simp [intOf]; done) | (simp [intOf]; omega)
              · have hje : j = h.cells.length := by omega
                subst hje
                have HM0 := zh (show (Zan m h.trail).length = h.trail.length by simp [Zan])
                have HT0 := zh (OwnN.fresh wr (h.trail.length + 1) (by simp [maxLen]; omega))
                rw [← Zhf (Zan m h.trail)] at HT0
                obtain ⟨gk, hgk⟩ : ∃ g, g = wr.heap.size := ⟨_, rfl⟩
                have HGK := zh hgk
                rw [← hgk] at HT0
                have hgk1 : go + 1 ≤ gk := by omega
                have LB0 := zh (KB.out.alloc KB.out.size (.cells (Array.replicate (h.trail.length + 1) (.int .i64 0)) 3))
                have L10 := zh (Zag K1.out (.cells (Array.replicate (h.trail.length + 1) (.int .i64 0)) 3))
                have L20 := zh (Zag K2.out (.cells (Array.replicate (h.trail.length + 1) (.int .i64 0)) 3))
                have LM0 := zh (OwnF.below KM.out ((zB _ _).alloc (zL _) (.cells (Array.replicate (h.trail.length + 1) (.int .i64 0)) 3)))
                have LT0 := zh (OwnF.below KT.out ((zB _ _).alloc (zL _) (.cells (Array.replicate (h.trail.length + 1) (.int .i64 0)) 3)))
                have LO0 := zh (OwnF.below KO.out ((zB _ _).alloc (zL _) (.cells (Array.replicate (h.trail.length + 1) (.int .i64 0)) 3)))
                have LG0 := zh (Zag KG.out (.cells (Array.replicate (h.trail.length + 1) (.int .i64 0)) 3))
                have HYA := zh (fun b (hb : Zai (.slice ya (cnt m h.cells.length) yc) = some b) => (KO.out.lt b hb).2)
                have HMA := zh (fun b (hb : Zai (.slice ma h.cells.length mc) = some b) => (KM.out.lt b hb).2)
                rw [← hgk] at HYA HMA
                have hs4 : (wr.alloc (.cells (Array.replicate (h.trail.length + 1) (.int .i64 0)) 3)).heap.size = gk + 1 := by rw [hgk]; simp
                clear jb j1 j2 jm jt jg jo
                go_wp2_with fail
                rw [← HGK.o]
                clear hgk x0 x1 xf g0 g1 gf
                go_loopw [119] (fun i wr => ∃ (j : Nat) (tv : Value), j ≤ h.trail.length ∧ i = .int .i64 (j : Int) ∧ Below w.heap.size w wr ∧ wr.heap[w.heap.size]? = some (.cells #[.slice va h.cells.length cap, .slice vb h.trail.length tap] 82 (0, 0)) ∧ wr.heap[w.heap.size + 1]? = some (.cells #[.slice none 0 0, .slice none 0 0] 82 (0, 0)) ∧ OwnB wr (w.heap.size + 2) m (.slice ma h.cells.length mc) ∧ OwnN wr ga (Zbw m h.cells.length h.cells.length) (.slice (some ⟨ga, 0, none⟩) (h.cells.length + 1) (h.cells.length + 1)) ∧ OwnN wr gk (Zbw (Zan m h.trail) h.trail.length j) (.slice (some ⟨gk, 0, none⟩) (h.trail.length + 1) (h.trail.length + 1)) ∧ wr.heap[go]? = some (.cells #[.slice ya (cnt m h.cells.length) yc, tv] 82 (0, 0)) ∧ OwnC wr ga (Zfo h.cells m h.cells.length) (.slice ya (cnt m h.cells.length) yc) ∧ OwnN wr (gk + 1) (Zfx m h.trail j) tv ∧ gk + 1 ≤ wr.heap.size) (fun i _ => h.trail.length - (intOf i).toNat)
                case atStart => exact ⟨0, _, Nat.zero_le _, rfl, LB0.out, L10.out, L20.out, LM0.out, LT0.out, HT0.o, LG0.out, LO0.out, OwnF.nil, by omega⟩
                case round =>
                  obtain ⟨j, tv, hj, rfl, jb, j1, j2, jm, jt, jk, jg, jo, jn, jz⟩ := hrel
                  have KB := zh jb
                  have K1 := zh j1
                  have K2 := zh j2
                  have KM := zh jm
                  have KT := zh jt
                  have KK := zh jk
                  have KG := zh jg
                  have KO := zh jo
                  have hzr0 := Zah j1
                  have hzr1 := Zah j2
                  have hzrg := Zah jg
                  obtain ⟨za, zc, rfl, hzl, hzm⟩ := OwnF.val jn
                  rw [ZbC] at hzl jn jg KG
                  have KN := zh jn
                  obtain ⟨x0, x1, xf⟩ := Zcj j1
                  obtain ⟨g0, g1, gf⟩ := Zcj jg
                  have hcntj := ZcA (Zan m h.trail) j
                  by_cases hlt : j < h.trail.length
                  · obtain ⟨rfl, hAt⟩ := HTA.o (by omega)
                    obtain ⟨c0, ci⟩ := ZcH HTE.o hAt (Keeps.ob jb) hlt
                    obtain ⟨v, hv, hvl, hvk⟩ := HG.o.2.1 j hlt
                    have hvm : v < m.length := by omega
                    have HTM := zh (show (Zan m h.trail)[j]? = some m[v] by
                      rw [Zan, List.getElem?_map, List.getElem?_eq_getElem hlt, hv]
                      simp [List.getElem?_eq_getElem hvm])
                    rw [hv] at c0
                    obtain ⟨gb, gcap, e, -, -, -, hgb, -, hgbl, -, hcell⟩ := OwnF.at ZbS jm (by omega)
                    simp only [Value.slice.injEq] at e
                    obtain ⟨rfl, -, rfl⟩ := e
                    have b0 : wr.cell? ⟨gb, v, none⟩ = some (.bool m[v]) := by simpa using hcell v hvm 0 _ rfl
                    have htl := Zbt (Zan m h.trail) h.trail.length j
                    obtain ⟨t0, -, tf, hot, -, -⟩ := OwnN.cell jk (i := j) (by omega)
                    obtain ⟨t1, -, -, -, -, -⟩ := OwnN.cell jk (i := j + 1) (by omega)
                    rw [ZbZ, if_pos (zL _)] at t0
                    obtain ⟨a0, -, -, hoa, -, haz⟩ := OwnN.cell jt (i := v) (by rw [Zbt]; omega)
                    rw [ZbZ, if_pos (by omega)] at a0
                    have HOT := zh hot
                    have HVV := zh hv
                    have hgkb : ¬ gk = gb := fun e => Za0 (by decide) jm jk gb hgb (hot.trans (congrArg some e))
                    have hgbk : ¬ gb = gk := fun e => hgkb e.symm
                    have hgbl' : gb < wr.heap.size := hgbl
                    have hcv := ZcA m v
                    have hlt' : (j : Int) < (h.trail.length : Int) := by omega
                    have hj0 : (0 : Int) ≤ (j : Int) := zN _
                    have hv0 : (0 : Int) ≤ (v : Int) := zN _
                    have hv1 : (v : Int) < (h.cells.length : Int) := by omega
                    have hv2 : (v : Int) < (h.cells.length : Int) + 1 := by omega
                    have hc0 : (0 : Int) ≤ (cnt (Zan m h.trail) j : Int) := zN _
                    -- behind the first store
                    have HW1 := zh (Below.setCell KB.out (p := ⟨gk, j + 1, none⟩) (by simp only; omega) (.int .i64 (cnt (Zan m h.trail) j : Int)))
                    have HK1 := zh (show OwnN (wr.setCell ⟨gk, j + 1, none⟩ (.int .i64 (cnt (Zan m h.trail) j : Int))) gk ((Zbw (Zan m h.trail) h.trail.length j).set (j + 1) (cnt (Zan m h.trail) j : Int)) (.slice (some ⟨gk, 0, none⟩) (h.trail.length + 1) (h.trail.length + 1)) by
                      have := OwnF.set (y := (cnt (Zan m h.trail) j : Int)) (u := .int .i64 (cnt (Zan m h.trail) j : Int)) Zat KK.out HOT.o (i := j + 1) (j := 0) (by omega) (by omega) rfl (by unfold I64; omega)
                      simpa using this)
                    have hkp : ∀ b, b ≠ gk → (wr.setCell ⟨gk, j + 1, none⟩ (.int .i64 (cnt (Zan m h.trail) j : Int))).heap[b]? = wr.heap[b]? := fun b hb => Below.heap_setCell _ _ _ _ hb
                    have M1 := zh ((hkp _ (by omega)).trans j1)
                    have M2 := zh ((hkp _ (by omega)).trans j2)
                    have MG := zh ((hkp _ (by omega)).trans jg)
                    have MM := zh (OwnF.kept KM.out (w' := wr.setCell ⟨gk, j + 1, none⟩ (.int .i64 (cnt (Zan m h.trail) j : Int))) (fun b hb => hkp b (by have := HMA.o b hb; omega)))
                    have MT := zh (OwnF.kept KT.out (w' := wr.setCell ⟨gk, j + 1, none⟩ (.int .i64 (cnt (Zan m h.trail) j : Int))) (fun b hb => hkp b (fun e => by have := zI (hoa.symm.trans hb); omega)))
                    have MO := zh (OwnF.kept KO.out (w' := wr.setCell ⟨gk, j + 1, none⟩ (.int .i64 (cnt (Zan m h.trail) j : Int))) (fun b hb => hkp b (by have := HYA.o b hb; omega)))
                    have MN := zh (OwnF.kept KN.out (w' := wr.setCell ⟨gk, j + 1, none⟩ (.int .i64 (cnt (Zan m h.trail) j : Int))) (fun b hb => hkp b (by have := (KN.out.lt b hb).1; omega)))
                    have HNX := zh (Zhg (Zan m h.trail) h.trail.length j hlt)
                    have HGT := zh (show ((h.trail[j]?).getD 0) = (v : Int) by rw [List.getElem?_eq_getElem hlt]; exact hv)
                    have hws : (wr.setCell ⟨gk, j + 1, none⟩ (.int .i64 (cnt (Zan m h.trail) j : Int))).heap.size = wr.heap.size := by simp
                    cases hmv : m[v] with
                    | false =>
                      rw [hmv] at b0 HTM
                      have HCN := zh (show cnt (Zan m h.trail) (j + 1) = cnt (Zan m h.trail) j by rw [cnt, if_neg (by rw [HTM.o]; simp)])
                      have HCL := zh (show Zfx m h.trail (j + 1) = Zfx m h.trail j by rw [Zfx, if_neg (by rw [HTM.o]; simp)])
                      clear jb j1 j2 jm jt jk jg jo jn hcell hgb hot hoa hkp hv
                      go_wp2_with fail
                      go_roundw
                      case rel => exact ⟨j + 1, _, by omega, by go_num, HW1.o, M1.out, M2.out, MM.out, MT.out, (by rw [HNX.o, HCN.o]; exact HK1.o), MG.out, MO.out, (by rw [HCL.o]; exact MN.out), by omega⟩
                      case measure => first | (simp [intOf]; done) | (simp [intOf]; omega)
                    | true =>
                      rw [hmv] at b0 HTM
                      have HCN := zh (show ((cnt (Zan m h.trail) (j + 1) : Nat) : Int) = (cnt (Zan m h.trail) j : Int) + 1 by rw [cnt, if_pos HTM.o]; simp)
                      have HCL := zh (show Zfx m h.trail (j + 1) = Zfx m h.trail j ++ [(cnt m v : Int)] by rw [Zfx, if_pos HTM.o, HGT.o, ahead, Int.toNat_natCast])
                      clear jb j1 j2 jm jt jk jg jo jn hcell hgb hot hkp hv
                      go_wp2_with fail
                      generalize hWS : wr.setCell ⟨gk, j + 1, none⟩ (.int .i64 (cnt (Zan m h.trail) j : Int)) = WS at HW1 HK1 M1 M2 MG MM MT MO MN hws ⊢
                      obtain ⟨a9, -, -, -, -, -⟩ := OwnN.cell MT.out (i := v) (by rw [Zbt]; omega)
                      rw [ZbZ, if_pos (by omega)] at a9
                      obtain ⟨u0, u1, uf⟩ := Zcj MG.out
                      have hW1 : WS.drew.cell? ⟨go, 1, none⟩ = some (.slice za (cnt (Zan m h.trail) j) zc) := (Keeps.drew (fun _ => True) WS).cell trivial u1
                      have hW2 : WS.drew.cell? ⟨ga, v, none⟩ = some (.int .i64 (cnt m v : Int)) := (Keeps.drew (fun _ => True) WS).cell trivial a9
                      have HOR := zh (OwnF.ownR Zat (OwnF.below MN.out (zB _ _).drew) (fun _ => True))
                      have hgkz : gk + 1 ≤ WS.heap.size := by omega
                      clear hws
                      refine ZaF (F := fun k w' => (k = 1 ∨ k = 5) → w'.cell? ⟨go, 1, none⟩ = some (.slice za (cnt (Zan m h.trail) j) zc) ∧ w'.cell? ⟨ga, v, none⟩ = some (.int .i64 (cnt m v : Int))) (by kernel_rfl) ?_
                      refine ZaO (i := 0) (v := ?_) rfl (Or.inl ⟨by rfl, ?_⟩) (fun _ => ⟨hW1, hW2⟩) ?_
                      rotate_left
                      · (intro w' hw; clear hw; go_simp <;> with_reducible rfl)
                      simp only [zP]
                      refine ZaO (i := 1) (v := ?_) rfl (Or.inl ⟨by rfl, ?_⟩) (fun _ => ⟨hW1, hW2⟩) ?_
                      rotate_left
                      · (intro w' hw; obtain ⟨q0, q1⟩ := hw (by omega); go_simp <;> with_reducible rfl)
                      simp only [zP]
                      refine ZaO (i := 2) (v := ?_) rfl (Or.inl ⟨by rfl, ?_⟩) (fun _ => ⟨hW1, hW2⟩) ?_
                      rotate_left
                      · (intro w' hw; clear hw; go_simp <;> with_reducible rfl)
                      simp only [zP]
                      refine ZaO (i := 3) (v := ?_) rfl (Or.inl ⟨by rfl, ?_⟩) (fun _ => ⟨hW1, hW2⟩) ?_
                      rotate_left
                      · (intro w' hw; clear hw; go_simp <;> with_reducible rfl)
                      simp only [zP]
                      refine ZaO (i := 4) (v := ?_) rfl (Or.inl ⟨by rfl, ?_⟩) (fun _ => ⟨hW1, hW2⟩) ?_
                      rotate_left
                      · (intro w' hw; clear hw; go_simp <;> with_reducible rfl)
                      simp only [zP]
                      refine ZaO (i := 5) (v := ?_) rfl (Or.inl ⟨by rfl, ?_⟩) (fun _ => ⟨hW1, hW2⟩) ?_
                      rotate_left
                      · (intro w' hw; obtain ⟨q0, q1⟩ := hw (by omega); go_simp <;> with_reducible rfl)
                      simp only [zP]
                      refine Zac (i := 6) (by kernel_rfl) (Zae rfl (by rfl) ?_)
                      go_simp
                      have hF1 : (WS.drew.alloc (.cells #[(.int .i64 (cnt m v : Int))] 3)).cell? ⟨go, 1, none⟩ = some (.slice za (cnt (Zan m h.trail) j) zc) ∧ (WS.drew.alloc (.cells #[(.int .i64 (cnt m v : Int))] 3)).cell? ⟨ga, v, none⟩ = some (.int .i64 (cnt m v : Int)) := ⟨(Keeps.alloc (fun _ => True) WS.drew _).cell trivial hW1, (Keeps.alloc (fun _ => True) WS.drew _).cell trivial hW2⟩
                      refine ⟨fun _ _ _ _ => hF1, ?_⟩
                      refine Zac (i := 7) (by kernel_rfl) (Zae rfl (by rfl) ?_)
                      refine Zce (.tmp 137) (.tmp 142) 43 rfl (gk + 1) 3 1 8 Zbd Zab (.slice za (cnt (Zan m h.trail) j) zc) (Zfx m h.trail j) rfl HOR.o (cnt m v : Int) [(.int .i64 (cnt m v : Int))] rfl rfl ⟨by unfold I64; omega, rfl⟩ ⟨by rw [ZbC]; omega, by first | omega | (simp only [World.size_drew]; omega) | (show gk + 1 ≤ WS.heap.size; omega)⟩ ?_
                      intro v2 w4 hown2 hgrew
                      have hno : ∀ b, b < gk + 1 → Zai (.slice za (cnt (Zan m h.trail) j) zc) ≠ some b := fun b hb e => by have := (MN.out.lt b e).1; omega
                      have hka := ((Keeps.drew (fun b => Zai (.slice za (cnt (Zan m h.trail) j) zc) ≠ some b) WS).trans (Keeps.alloc _ _ _)).trans (hgrew.keeps (A := fun b => Zai (.slice za (cnt (Zan m h.trail) j) zc) ≠ some b) (fun _ h => h))
                      have HO4 := zh (OwnF.of_ownR hown2)
                      have hz4 := hgrew.size
                      simp only [World.size_alloc, World.size_drew] at hz4
                      have N1 := zh (Zaj M1.out hka (hno _ (by omega)))
                      have N2 := zh (Zaj M2.out hka (hno _ (by omega)))
                      have NG := zh (Zaj MG.out hka (hno _ (by omega)))
                      have NM := zh (OwnF.kept MM.out (w' := w4) (fun b hb => hka.block b (MM.out.lt b hb).2 (hno _ (by have := HMA.o b hb; omega))))
                      have NT := zh (OwnF.kept MT.out (w' := w4) (fun b hb => hka.block b (MT.out.lt b hb).2 (hno _ (by have := zI (hoa.symm.trans hb); omega))))
                      have NK := zh (OwnF.kept HK1.o (w' := w4) (fun b hb => hka.block b (HK1.o.lt b hb).2 (hno _ (by have := zI (HOT.o.symm.trans hb); omega))))
                      have NO := zh (OwnF.kept MO.out (w' := w4) (fun b hb => hka.block b (MO.out.lt b hb).2 (hno _ (by have := HYA.o b hb; omega))))
                      have NB := zh (hgrew.below ((HW1.o.drew).alloc (by have := HW1.o.size; simp only [World.size_drew]; omega) _) (by simp; omega) (fun b hb => by have := (MN.out.lt b hb).1; omega))
                      have hF2 : w4.cell? ⟨go, 1, none⟩ = some (.slice za (cnt (Zan m h.trail) j) zc) ∧ w4.cell? ⟨ga, v, none⟩ = some (.int .i64 (cnt m v : Int)) := ⟨(hgrew.keeps (A := fun b => Zai (.slice za (cnt (Zan m h.trail) j) zc) ≠ some b) (fun _ h => h)).cell (hno _ (by omega)) hF1.1, (hgrew.keeps (A := fun b => Zai (.slice za (cnt (Zan m h.trail) j) zc) ≠ some b) (fun _ h => h)).cell (hno _ (by omega)) hF1.2⟩
                      obtain ⟨va2, vc2, hv2, -, -⟩ := OwnF.val HO4.o
                      rw [List.length_append, ZbC, List.length_singleton] at hv2
                      subst hv2
                      obtain ⟨y0', y1', yf'⟩ := Zcj NG.out
                      have hgl4 := Zah NG.out
                      obtain ⟨k0, -, kf, -, -, hkz⟩ := OwnN.cell NK.out (i := j + 1) (by rw [List.length_set]; omega)
                      rw [List.getElem_set, if_pos rfl] at k0
                      refine ⟨fun _ _ _ _ => hF2, ?_⟩
                      clear hown2 hka hgrew u0 u1 uf
                      simp only [zP]
                      refine ZaO (i := 8) (v := ?_) rfl (Or.inl ⟨by rfl, ?_⟩) (fun h => by omega) ?_
                      rotate_left
                      · (intro w' hw; clear hw; go_simp <;> with_reducible rfl)
                      simp only [zP]
                      refine Zac (i := 9) (by kernel_rfl) (Zae rfl (by rfl) ?_)
                      go_simp
                      refine ⟨fun k0 hk0 _ h12 => ?_, Zau (by kernel_rfl) ?_ _⟩
                      · rcases h12 with rfl | rfl
                        · exact absurd (show waits _ 9 1 = true by kernel_rfl) (by rw [hk0]; decide)
                        · exact absurd (show waits _ 9 5 = true by kernel_rfl) (by rw [hk0]; decide)
                      have hgg : ¬ go = gk := by omega
                      have hgg' : ¬ gk = go := by omega
                      have NK2 := zh (OwnF.kept NK.out (w' := w4.setCell ⟨go, 1, none⟩ (.slice va2 (cnt (Zan m h.trail) j + 1) vc2)) (fun b hb => Below.heap_setCell _ ⟨go, 1, none⟩ _ _ (fun e => by have := zI (HOT.o.symm.trans hb); simp only at e; omega)))
                      have NK3 := zh (show OwnN ((w4.setCell ⟨go, 1, none⟩ (.slice va2 (cnt (Zan m h.trail) j + 1) vc2)).setCell ⟨gk, j + 1, none⟩ (.int .i64 ((cnt (Zan m h.trail) j : Int) + 1))) gk ((Zbw (Zan m h.trail) h.trail.length j).set (j + 1) ((cnt (Zan m h.trail) j : Int) + 1)) (.slice (some ⟨gk, 0, none⟩) (h.trail.length + 1) (h.trail.length + 1)) by
                        have := OwnF.set (y := (cnt (Zan m h.trail) j : Int) + 1) (u := .int .i64 ((cnt (Zan m h.trail) j : Int) + 1)) Zat NK2.out HOT.o (i := j + 1) (j := 0) (by rw [List.length_set]; omega) (by omega) rfl (by unfold I64; omega)
                        rw [List.set_set] at this
                        simpa using this)
                      have hk2 : ∀ b, b ≠ go → b ≠ gk → ((w4.setCell ⟨go, 1, none⟩ (.slice va2 (cnt (Zan m h.trail) j + 1) vc2)).setCell ⟨gk, j + 1, none⟩ (.int .i64 ((cnt (Zan m h.trail) j : Int) + 1))).heap[b]? = w4.heap[b]? := fun b h1 h2 => by
                        rw [Below.heap_setCell _ _ _ _ h2, Below.heap_setCell _ _ _ _ h1]
                      have NGF := zh (show ((w4.setCell ⟨go, 1, none⟩ (.slice va2 (cnt (Zan m h.trail) j + 1) vc2)).setCell ⟨gk, j + 1, none⟩ (.int .i64 ((cnt (Zan m h.trail) j : Int) + 1))).heap[go]? = some (.cells #[.slice ya (cnt m h.cells.length) yc, .slice va2 (cnt (Zan m h.trail) j + 1) vc2] 82 (0, 0)) from (Below.heap_setCell _ ⟨gk, j + 1, none⟩ _ _ hgg).trans ((Zal NG.out 1 _).trans rfl))
                      go_wp2_with fail
                      go_roundw
                      case rel =>
                        refine ⟨j + 1, _, by omega, by go_num, (NB.out.setCell (by simp only; omega) _).setCell (by simp only; omega) _, ?_, ?_, ?_, ?_, (by rw [HNX.o, HCN.o]; exact NK3.out), NGF.out, ?_, ?_, by simp; omega⟩
                        · exact (hk2 _ (by omega) (by omega)).trans N1.out
                        · exact (hk2 _ (by omega) (by omega)).trans N2.out
                        · exact OwnF.kept NM.out (fun b hb => hk2 b (fun e => OwnF.ne_box NM.out NG.out (by decide) (hb.trans (congrArg some e))) (by have := HMA.o b hb; omega))
                        · exact OwnF.kept NT.out (fun b hb => by have := zI (hoa.symm.trans hb); exact hk2 b (by omega) (by omega))
                        · exact OwnF.kept NO.out (fun b hb => hk2 b (fun e => OwnF.ne_box NO.out NG.out (by decide) (hb.trans (congrArg some e))) (by have := HYA.o b hb; omega))
                        · rw [HCL.o]
                          exact OwnF.kept HO4.o (fun b hb => by have := (HO4.o.lt b hb).1; exact hk2 b (by omega) (by omega))
                      case measure => first | (simp [intOf]; done) | (simp [intOf]; omega)
                  · have hje : j = h.trail.length := by omega
                    subst hje
                    obtain ⟨x0, x1, xf⟩ := Zcj j1
                    have NV1 := zh (SlR.keeps Zab (SlR.mono (A' := fun b => b ≠ w.heap.size + 1) Zab (by omega) HV1.o (fun b hb _ => by omega)) (Keeps.ob KB.out))
                    have NV2 := zh (SlR.keeps Zab (SlR.mono (A' := fun b => b ≠ w.heap.size + 1) Zab (by omega) HV2.o (fun b hb _ => by omega)) (Keeps.ob KB.out))
                    have NV3 := zh (SlR.keeps Zab (SlR.mono (A' := fun b => b ≠ w.heap.size + 1) Zab (by omega) HV3.o (fun b hb _ => by omega)) (Keeps.ob KB.out))
                    have NT1 := zh (OwnF.sl (A := fun b => b ≠ w.heap.size + 1) Zat Zb7 KT.out (by rw [Zbt]; omega) (fun b hb => by have := (KT.out.lt b hb).1; omega))
                    have NK1 := zh (OwnF.sl (A := fun b => b ≠ w.heap.size + 1) Zat Zb7 KK.out (by rw [Zbt]; omega) (fun b hb => by have := (KK.out.lt b hb).1; omega))
                    have HA0 : Hd (∀ w', (Ch (fun b => b = w.heap.size + 1) wr w' ∧ ∃ z0 z1, w'.heap[w.heap.size + 1]? = some (.cells #[z0, z1] 82 (0, 0))) → w'.cell? ⟨go, 0, none⟩ = some (.slice ya (cnt m h.cells.length) yc) ∧ w'.cell? ⟨go, 1, none⟩ = some (.slice za (cnt (Zan m h.trail) h.trail.length) zc)) := zh fun w' hi => by
                      obtain ⟨z0, z1, -⟩ := Zcj ((hi.1.block go (Zah KG.out) (by omega)).trans KG.out)
                      exact ⟨z0, z1⟩
                    have hlt' : ¬ ((h.trail.length : Int) < (h.trail.length : Int)) := by omega
                    clear jb j1 j2 jm jt jk jg jo jn x0 x1 xf g0 g1 gf hlt
                    go_wp2_with fail
                    refine Zdl (Inv := fun w' => Ch (fun b => b = w.heap.size + 1) wr w' ∧ ∃ z0 z1, w'.heap[w.heap.size + 1]? = some (.cells #[z0, z1] 82 (0, 0))) (Po := posts [IsV (.agg #[.slice ya (cnt m h.cells.length) yc, .slice za (cnt (Zan m h.trail) h.trail.length) zc]), IsV (.slice (some ⟨ga, 0, none⟩) (h.cells.length + 1) (h.cells.length + 1)), IsV (.slice r1a roots.length r1c), ZiV wr.heap.size (roots.map (ZeR (Zbw m h.cells.length h.cells.length))), IsV (.slice (some ⟨ga, 0, none⟩) (h.cells.length + 1) (h.cells.length + 1)), IsV (.slice r2a tops.length r2c), ZiV wr.heap.size (tops.map (ZeR (Zbw m h.cells.length h.cells.length))), IsV (.slice (some ⟨gk, 0, none⟩) (h.trail.length + 1) (h.trail.length + 1)), IsV (.slice r3a mks.length r3c), ZiV wr.heap.size (mks.map (ZeR (Zbw (Zan m h.trail) h.trail.length h.trail.length))), (fun _ w2 => w2.heap[w.heap.size + 1]? = some (.cells #[.slice ya (cnt m h.cells.length) yc, .slice za (cnt (Zan m h.trail) h.trail.length) zc] 82 (0, 0))), ZiV wr.heap.size (roots.map (ZeR (Zbw m h.cells.length h.cells.length))), ZiV wr.heap.size (tops.map (ZeR (Zbw m h.cells.length h.cells.length))), ZiV wr.heap.size (mks.map (ZeR (Zbw (Zan m h.trail) h.trail.length h.trail.length))), IsV (.int .i64 0)]) (Rl := fun j w1 w2 => (j = 10 ∧ Ch (fun b => b = w.heap.size + 1) w1 w2 ∧ ∃ z0 z1, w2.heap[w.heap.size + 1]? = some (.cells #[z0, z1] 82 (0, 0))) ∨ (j ≠ 10 ∧ Below w1.heap.size w1 w2)) (by kernel_rfl) (by kernel_rfl) (by kernel_rfl) ⟨(Ch.refl _ _).drew, _, _, K2.out⟩ ?_ ?_ ?_ ?_
                    · intro i q u w1 w2 hij hwt hp hr
                      rcases hr with ⟨rfl, hc, -⟩ | ⟨-, hb⟩
                      · match i, hij, hp with
                        | 0, _, hp => exact hp
                        | 1, _, hp => exact hp
                        | 2, _, hp => exact hp
                        | 3, _, hp => exact OwnF.kept hp (fun b hb => hc.block b (OwnF.lt hp b hb).2 (fun e => by have := (OwnF.lt hp b hb).1; omega))
                        | 4, _, hp => exact hp
                        | 5, _, hp => exact hp
                        | 6, _, hp => exact OwnF.kept hp (fun b hb => hc.block b (OwnF.lt hp b hb).2 (fun e => by have := (OwnF.lt hp b hb).1; omega))
                        | 7, _, hp => exact hp
                        | 8, _, hp => exact hp
                        | 9, _, hp => exact OwnF.kept hp (fun b hb => hc.block b (OwnF.lt hp b hb).2 (fun e => by have := (OwnF.lt hp b hb).1; omega))
                        | 10, hij, _ => exact absurd rfl hij
                        | 11, _, hp => exact OwnF.kept hp (fun b hb => hc.block b (OwnF.lt hp b hb).2 (fun e => by have := (OwnF.lt hp b hb).1; omega))
                        | 12, _, hp => exact OwnF.kept hp (fun b hb => hc.block b (OwnF.lt hp b hb).2 (fun e => by have := (OwnF.lt hp b hb).1; omega))
                        | 13, _, hp => exact OwnF.kept hp (fun b hb => hc.block b (OwnF.lt hp b hb).2 (fun e => by have := (OwnF.lt hp b hb).1; omega))
                        | 14, _, hp => exact hp
                        | i + 15, _, hp => exact trivial
                      · refine ZbL (fun R hR => ?_) i u w1 w2 hp hb
                        simp only [List.mem_cons, List.not_mem_nil, or_false] at hR
                        rcases hR with rfl | rfl | rfl | rfl | rfl | rfl | rfl | rfl | rfl | rfl | rfl | rfl | rfl | rfl | rfl <;> first | exact Zdv _ | exact ZcK _ _ | exact fun v w w' h hb => Zad h hb
                    · intro j w1 w2 hi hr
                      rcases hr with ⟨rfl, hc, hz⟩ | ⟨-, hb⟩
                      · exact ⟨hi.1.trans hc (fun _ h => .inl h), hz⟩
                      · obtain ⟨hi1, z0, z1, hz⟩ := hi
                        exact ⟨hi1.tb hb, z0, z1, Zad hz hb⟩
                    · intro i o ho f ac ww hinv hpo hdst hold
                      match i, ho with
                        | 0, ho =>
                          obtain rfl : _ = o := zI ho
                          have t20 := hold 20 (by kernel_rfl)
                          refine Or.inl ⟨ZaB rfl, ?_⟩
                          clear hdst hpo hold ho
                          obtain ⟨q0, q1⟩ := HA0.o ww hinv
                          unfold Ans
                          go_simp
                          exact ⟨rfl, zB _ _⟩
                        | 1, ho =>
                          obtain rfl : _ = o := zI ho
                          have t17 := hold 17 (by kernel_rfl)
                          refine Or.inl ⟨ZaB rfl, ?_⟩
                          clear hdst hpo hold ho
                          clear hinv
                          unfold Ans
                          go_simp
                          exact ⟨rfl, zB _ _⟩
                        | 2, ho =>
                          obtain rfl : _ = o := zI ho
                          have t1 := hold 1 (by kernel_rfl)
                          refine Or.inl ⟨ZaB rfl, ?_⟩
                          clear hdst hpo hold ho
                          clear hinv
                          unfold Ans
                          go_simp
                          exact ⟨rfl, zB _ _⟩
                        | 3, ho =>
                          obtain rfl : _ = o := zI ho
                          have t154 := hdst 1 154 (by kernel_rfl) (by kernel_rfl)
                          have p1 := hpo 1 (by kernel_rfl)
                          have t155 := hdst 2 155 (by kernel_rfl) (by kernel_rfl)
                          have p2 := hpo 2 (by kernel_rfl)
                          refine Or.inl ⟨ZaB rfl, ?_⟩
                          clear hdst hpo hold ho
                          rw [show f 1 = _ from p1] at t154
                          rw [show f 2 = _ from p2] at t155
                          unfold Ans
                          go_simp
                          have hkp := hinv.1.keeps (A := fun b => b ≠ w.heap.size + 1) (fun b _ hb e => hb e)
                          refine (ZhE (Zbw m h.cells.length h.cells.length) roots (by rw [Zbt]; omega) (fun b => b ≠ w.heap.size + 1) ww _ _ (SlR.keeps Zab NT1.out hkp) (SlR.keeps Zab NV1.out hkp)).mono ?_
                          rintro e w1 ⟨r, rfl, hb, hown⟩
                          exact ⟨_, rfl, OwnF.rebase hown (fun k hk => by have := (hown.lt k hk).1; have := hinv.1.size; omega), hb⟩
                        | 4, ho =>
                          obtain rfl : _ = o := zI ho
                          have t17 := hold 17 (by kernel_rfl)
                          refine Or.inl ⟨ZaB rfl, ?_⟩
                          clear hdst hpo hold ho
                          clear hinv
                          unfold Ans
                          go_simp
                          exact ⟨rfl, zB _ _⟩
                        | 5, ho =>
                          obtain rfl : _ = o := zI ho
                          have t2 := hold 2 (by kernel_rfl)
                          refine Or.inl ⟨ZaB rfl, ?_⟩
                          clear hdst hpo hold ho
                          clear hinv
                          unfold Ans
                          go_simp
                          exact ⟨rfl, zB _ _⟩
                        | 6, ho =>
                          obtain rfl : _ = o := zI ho
                          have t157 := hdst 4 157 (by kernel_rfl) (by kernel_rfl)
                          have p4 := hpo 4 (by kernel_rfl)
                          have t158 := hdst 5 158 (by kernel_rfl) (by kernel_rfl)
                          have p5 := hpo 5 (by kernel_rfl)
                          refine Or.inl ⟨ZaB rfl, ?_⟩
                          clear hdst hpo hold ho
                          rw [show f 4 = _ from p4] at t157
                          rw [show f 5 = _ from p5] at t158
                          unfold Ans
                          go_simp
                          have hkp := hinv.1.keeps (A := fun b => b ≠ w.heap.size + 1) (fun b _ hb e => hb e)
                          refine (ZhE (Zbw m h.cells.length h.cells.length) tops (by rw [Zbt]; omega) (fun b => b ≠ w.heap.size + 1) ww _ _ (SlR.keeps Zab NT1.out hkp) (SlR.keeps Zab NV2.out hkp)).mono ?_
                          rintro e w1 ⟨r, rfl, hb, hown⟩
                          exact ⟨_, rfl, OwnF.rebase hown (fun k hk => by have := (hown.lt k hk).1; have := hinv.1.size; omega), hb⟩
                        | 7, ho =>
                          obtain rfl : _ = o := zI ho
                          have t23 := hold 23 (by kernel_rfl)
                          refine Or.inl ⟨ZaB rfl, ?_⟩
                          clear hdst hpo hold ho
                          clear hinv
                          unfold Ans
                          go_simp
                          exact ⟨rfl, zB _ _⟩
                        | 8, ho =>
                          obtain rfl : _ = o := zI ho
                          have t3 := hold 3 (by kernel_rfl)
                          refine Or.inl ⟨ZaB rfl, ?_⟩
                          clear hdst hpo hold ho
                          clear hinv
                          unfold Ans
                          go_simp
                          exact ⟨rfl, zB _ _⟩
                        | 9, ho =>
                          obtain rfl : _ = o := zI ho
                          have t160 := hdst 7 160 (by kernel_rfl) (by kernel_rfl)
                          have p7 := hpo 7 (by kernel_rfl)
                          have t161 := hdst 8 161 (by kernel_rfl) (by kernel_rfl)
                          have p8 := hpo 8 (by kernel_rfl)
                          refine Or.inl ⟨ZaB rfl, ?_⟩
                          clear hdst hpo hold ho
                          rw [show f 7 = _ from p7] at t160
                          rw [show f 8 = _ from p8] at t161
                          unfold Ans
                          go_simp
                          have hkp := hinv.1.keeps (A := fun b => b ≠ w.heap.size + 1) (fun b _ hb e => hb e)
                          refine (ZhE (Zbw (Zan m h.trail) h.trail.length h.trail.length) mks (by rw [Zbt]; omega) (fun b => b ≠ w.heap.size + 1) ww _ _ (SlR.keeps Zab NK1.out hkp) (SlR.keeps Zab NV3.out hkp)).mono ?_
                          rintro e w1 ⟨r, rfl, hb, hown⟩
                          exact ⟨_, rfl, OwnF.rebase hown (fun k hk => by have := (hown.lt k hk).1; have := hinv.1.size; omega), hb⟩
                        | 10, ho =>
                          obtain rfl : _ = o := zI ho
                          have t153 := hdst 0 153 (by kernel_rfl) (by kernel_rfl)
                          have p0 := hpo 0 (by kernel_rfl)
                          have t8 := hold 8 (by kernel_rfl)
                          refine Or.inl ⟨ZaB rfl, ?_⟩
                          clear hdst hpo hold ho
                          rw [show f 0 = _ from p0] at t153
                          obtain ⟨hch, z0, z1, hz⟩ := hinv
                          obtain ⟨y0, y1, yf⟩ := Zcj hz
                          unfold Ans
                          go_simp
                          exact ⟨(Zal (Zal hz 0 _) 1 _).trans rfl, (Zga _ _ _ _).set_box _ _, _, _, (Zal (Zal hz 0 _) 1 _).trans rfl⟩
                        | 11, ho =>
                          obtain rfl : _ = o := zI ho
                          have t156 := hdst 3 156 (by kernel_rfl) (by kernel_rfl)
                          have p3 : (ZiV wr.heap.size (roots.map (ZeR (Zbw m h.cells.length h.cells.length)))) (f 3) ww := hpo 3 (by kernel_rfl)
                          refine Or.inl ⟨ZaB rfl, ?_⟩
                          clear hdst hpo hold ho
                          clear hinv
                          unfold Ans
                          go_simp
                          exact ⟨p3, zB _ _⟩
                        | 12, ho =>
                          obtain rfl : _ = o := zI ho
                          have t159 := hdst 6 159 (by kernel_rfl) (by kernel_rfl)
                          have p6 : (ZiV wr.heap.size (tops.map (ZeR (Zbw m h.cells.length h.cells.length)))) (f 6) ww := hpo 6 (by kernel_rfl)
                          refine Or.inl ⟨ZaB rfl, ?_⟩
                          clear hdst hpo hold ho
                          clear hinv
                          unfold Ans
                          go_simp
                          exact ⟨p6, zB _ _⟩
                        | 13, ho =>
                          obtain rfl : _ = o := zI ho
                          have t162 := hdst 9 162 (by kernel_rfl) (by kernel_rfl)
                          have p9 : (ZiV wr.heap.size (mks.map (ZeR (Zbw (Zan m h.trail) h.trail.length h.trail.length)))) (f 9) ww := hpo 9 (by kernel_rfl)
                          refine Or.inl ⟨ZaB rfl, ?_⟩
                          clear hdst hpo hold ho
                          clear hinv
                          unfold Ans
                          go_simp
                          exact ⟨p9, zB _ _⟩
                        | 14, ho =>
                          obtain rfl : _ = o := zI ho
                          refine Or.inl ⟨ZaB rfl, ?_⟩
                          clear hdst hpo hold ho
                          clear hinv
                          unfold Ans
                          go_simp
                          exact ⟨rfl, zB _ _⟩
                        | i + 15, ho => simp at ho
                    · intro f ww hinv hpo
                      have p10 := hpo 10 (by decide)
                      have p11 : (ZiV wr.heap.size (roots.map (ZeR (Zbw m h.cells.length h.cells.length)))) (f 11) ww := hpo 11 (by decide)
                      have p12 : (ZiV wr.heap.size (tops.map (ZeR (Zbw m h.cells.length h.cells.length)))) (f 12) ww := hpo 12 (by decide)
                      have p13 : (ZiV wr.heap.size (mks.map (ZeR (Zbw (Zan m h.trail) h.trail.length h.trail.length)))) (f 13) ww := hpo 13 (by decide)
                      have p14 : (IsV (.int .i64 0)) (f 14) ww := hpo 14 (by decide)
                      have P10 : Hd (ww.heap[w.heap.size + 1]? = some (.cells #[.slice ya (cnt m h.cells.length) yc, .slice za (cnt (Zan m h.trail) h.trail.length) zc] 82 (0, 0))) := zh p10
                      have P11 := zh p11
                      have P12 := zh p12
                      have P13 := zh p13
                      have HCH := zh hinv.1
                      simp only [Zcf, List.setIfInBounds_toArray, List.set_cons_succ, List.set_cons_zero]
                      rw [show f 14 = _ from p14]
                      obtain ⟨y0, y1, yf⟩ := Zcj P10.out
                      clear hinv hpo p10 p11 p12 p13 p14
                      go_wp2_with fail
                      refine bodyPost_ret (v := .tuple #[.agg #[.slice ya (cnt m h.cells.length) yc, .slice za (cnt (Zan m h.trail) h.trail.length) zc], f 11, f 12, f 13, .int .i64 0]) (by simp [results, Tryd.results78, go_sem, hcs, y0, y1]) rfl ?_
                      have hbF : Below w.heap.size w ww := (Ch.trans (Ch.of_below (M := fun b => b = w.heap.size + 1) KB.out) HCH.o (fun _ h => .inl h)).below (fun k hk e => by omega)
                      have hkF := HCH.o.keeps (A := fun b => b ≠ w.heap.size + 1) (fun b _ hb e => hb e)
                      have e1 : ∀ l : List Int, l.map (ZeR (Zbw m h.cells.length h.cells.length)) = l.map (ahead m) := fun l => List.map_congr_left (fun x _ => Zhh m _ hml x)
                      have e2 : ∀ l : List Int, l.map (ZeR (Zbw (Zan m h.trail) h.trail.length h.trail.length)) = l.map (ahead (Zan m h.trail)) := fun l => List.map_congr_left (fun x _ => Zhh (Zan m h.trail) _ HM0.o x)
                      have q11 := P11.out
                      have q12 := P12.out
                      have q13 := P13.out
                      rw [e1] at q11 q12
                      rw [e2] at q13
                      have hsz := HCH.o.size
                      rw [Za3, if_neg (not_not_intro HG.o), if_neg (not_not_intro HALL.o), ← HM.o]
                      have n1 : ∀ (l : List Int) (v : Value) (f : Int → Int) (n : Nat), OwnN ww wr.heap.size (l.map f) v → l.length ≤ 1048576 → ZbB (fun b => A b ∨ New w b) ww (l.map f) v := fun l v f n ho hl =>
                        OwnF.sl Zat Zb7 ho (by rw [List.length_map]; exact hl) (fun b hb => .inr (by have := (ho.lt b hb).1; have := KB.out.size; unfold New; omega))
                      refine Pure.mk hbF ⟨_, _, _, _, rfl, ⟨_, _, rfl, ?_, ?_⟩, n1 _ _ _ 0 q11 (by omega), n1 _ _ _ 0 q12 HL2.o, n1 _ _ _ 0 q13 HL3.o⟩
                      · show CesR _ ww (Zfo h.cells (marks h.cells roots) h.cells.length) _
                        rw [← HM.o]
                        have hcl := ZcA m h.cells.length
                        exact OwnF.sl Ce.vals_len Ce.vals_one (OwnF.kept KO.out (fun b hb => HCH.o.block b (KO.out.lt b hb).2 (fun e => by have := (KO.out.lt b hb).1; omega))) (by rw [Zbh]; omega) (fun b hb => .inr (by have := (KO.out.lt b hb).1; unfold New; omega))
                      · show ZbB _ ww (Zfx (marks h.cells roots) h.trail h.trail.length) _
                        rw [← HM.o]
                        have hcl := ZcA (Zan m h.trail) h.trail.length
                        exact OwnF.sl Zat Zb7 (OwnF.kept KN.out (fun b hb => HCH.o.block b (KN.out.lt b hb).2 (fun e => by have := (KN.out.lt b hb).1; omega))) (by rw [ZbC]; omega) (fun b hb => .inr (by have := (KN.out.lt b hb).1; unfold New; omega))
end Go.Proofs.YtlpmfkpefoegeacDoor
