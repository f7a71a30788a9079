import Derived.Test.YtlpmfkpefoegeacQTwo
import Derived.Test.YtlpmfkpefoegeacQClause2
namespace Go.Proofs.Ytlpmfkpefoegeac
set_option maxRecDepth 100000
set_option maxHeartbeats 16000000
set_option linter.all false
open Go.RowKit
def Zam:List Ce->List Tm->List Ce×List Int|c,[]=>(c,[])|c,t::r=>((Zam (ZaC c t) r).1,(c.length:Int)::(Zam (ZaC c t) r).2)
theorem ZdX:∀(l:List Tm)(c:List Ce)(t:Tm),Zam c (l++[t])=(ZaC (Zam c l).1 t,(Zam c l).2++[((Zam c l).1.length:Int)])|[],c,t=>by simp[Zam]|x::r,c,t=>by simp only[List.cons_append,Zam,ZdX r]
theorem Za2:∀(l:List Tm)(c:List Ce),(Zam c l).2.length=l.length|[],c=>rfl|x::r,c=>by simp only[Zam,List.length_cons,Za2 r]
theorem Zdm(t:Tm)(c:List Ce):c.length<=(ZaC c t).length/\(ZaC c t).length<=c.length+2*t.nodes:=by
 have hn:1<=t.nodes:=by cases t;simp only[Tm.nodes];omega
 unfold ZaC;split;·obtain⟨k,n,s,l⟩:=t;have h1:=Zbz l (c++⟨3,(l.length:Int),s⟩::List.replicate l.length ⟨0,0,ByteArray.empty⟩) (c.length+1);simp only[List.length_append,List.length_cons,List.length_replicate]at h1;simp only[Zc2,Tm.nodes];omega
 ·rename_i h;rw[Zdl h];simp;omega
theorem Zbu:∀(l:List Tm)(c:List Ce),c.length<=(Zam c l).1.length/\(Zam c l).1.length<=c.length+2*Tm.nodesL l|[],c=>by simp[Zam,Tm.nodesL]|x::r,c=>by simp only[Zam,Tm.nodesL];have h1:=Zdm x c;have h2:=Zbu r (ZaC c x);omega
theorem Zhs(c:List Ce)(l:List Tm)(j:Nat)(hj:j<l.length):(Zam c (l.take j)).1.length+2*l[j].nodes<=c.length+2*Tm.nodesL l:=by have h1:=Zbu (l.take j) c;have h2:=ZfE l j hj;omega
theorem Zdn:∀(l:List Tm),(∀g∈l,g.nodes<=24)->Tm.nodesL l<=24*l.length|[],_=>by simp[Tm.nodesL]|x::r,h=>by simp only[Tm.nodesL,List.length_cons];have h1:=h x (List.mem_cons_self ..);have h2:=Zdn r (fun g hg=>h g (List.mem_cons_of_mem _ hg));omega
structure Bk where
  cells : List Ce
  vars : Int
  head : Int
  goals : List Int
def Zaz(l:List Tm)(v:Int):Bk:=⟨(Zam (ZaM v.toNat) l).1,v, -1,(Zam (ZaM v.toNat) l).2⟩
def Zah(c:Cl):Bk:=⟨(Zam (ZaC (ZaM c.vars.toNat) c.head) c.body).1,c.vars,(c.vars.toNat:Int),(Zam (ZaC (ZaM c.vars.toNat) c.head) c.body).2⟩
def bk0:Bk:=⟨[],0,0,[]⟩
noncomputable def ZfF(l:List Tm)(v:Int):Bk×Int:=open Classical in if ZbZ l v then(Zaz l v,0)else(bk0,1)
noncomputable def ZdY(c:Cl):Bk×Int:=open Classical in if c.Good then(Zah c,0)else(bk0,1)
def ZmA(A:Nat->Prop)(x:Bk×Int)(r:Value)(w':World):Prop:=∃cv gv,r= .tuple #[.agg #[cv,.int .i64 x.1.vars,.int .i64 x.1.head,gv],.int .i64 x.2]/\CesR A w' x.1.cells cv/\Zbv A w' x.1.goals gv
structure CdI (w : World) (g gb rb : Nat) (x : List Ce) (gs : List Int) (v hd : Int) (cv gv : Value) (W : World) : Prop where
  bel : Below w.heap.size w W
  mkr : MkI g (g + 1) x cv W
  box : W.heap[gb]? = some (.cells #[.slice none 0 0, .int .i64 v, .int .i64 hd, gv] 61 (0, 0))
  own : OwnN W (g + 1) gs gv
  res : W.heap[rb]? = some (.cells #[.slice none 0 0, .int .i64 0, .int .i64 0, .slice none 0 0] 61 (0, 0))
  gw : w.heap.size ≤ g
  gbw : w.heap.size ≤ gb
  ne1 : gb ≠ g
  ne2 : rb ≠ g
  ne3 : rb ≠ gb
theorem Zl5 (l : List Tm) (v : Int) (hi : I64 v) (hnd : Tm.nodesL l ≤ 1099511627776) (w : World) (u : Value) (hu : TmsR (fun b => b < w.heap.size) w l u) :
    Calls Try.prog 15 #[u, .int .i64 v] w (Pure w (ZmA (New w) (ZfF l v))) := by
  have hcs := Zak
  have HGQ := zh (fun (W : World) (h : Below w.heap.size w W) => Zb6 l v hnd hi (fun b => b < w.heap.size) W u (SlR.keeps Tm.rep_lasts hu (Keeps.ob h)))
  obtain ⟨a, cap, b, off, rfl, hlc, hcm, hlb, ha, he⟩ := hu.at
  have HE := zh he
  have HTA := zh ha
  have TREP := zh (show ∀ t ∈ l, ∀ (W : World), Keeps (fun b => b < w.heap.size) w W → ∀ {us}, Tm.rep (fun b => b < w.heap.size) W t us → Tm.rep (fun b => b < w.heap.size) W t us from fun _ _ _ _ _ h => h)
  clear hu ha he
  go_enter Try.func15, Try.ntmps15
  go_wp2_with fail
  have HRS0 := zh (Zao w (.cells #[.slice none 0 0, .int .i64 0, .int .i64 0, .slice none 0 0] 61))
  have HB0 := zh ((Below.refl _ w).alloc (zL _) (.cells #[.slice none 0 0, .int .i64 0, .int .i64 0, .slice none 0 0] 61))
  refine (HGQ.o _ HB0.o).mono ?_
  rintro e w1 ⟨r, rfl, hb1, q, rfl, hq⟩
  have HB1 := zh (HB0.o.trans (hb1.mono HB0.o.size))
  have HRS1 := zh (Zac HRS0.o hb1)
  clear hb1 HB0 HRS0
  obtain ⟨rb, hrb⟩ : ∃ rb, rb = w.heap.size := ⟨_, rfl⟩
  have HRB := zh hrb
  have hrw : rb < w1.heap.size := by rw [hrb]; exact Zag HRS1.o
  have hrw0 : w.heap.size ≤ rb := by omega
  rw [← hrb] at HRS1
  obtain ⟨r0, r1, r2, r3, rf⟩ := Za0 HRS1.o
  rw [← hrb]
  clear hrb
  cases q with
  | false =>
    have hng : ¬ ZbZ l v := fun h => by have := hq.2 h; cases this
    have HQF := zh (show ZfF l v = (bk0, 1) by rw [ZfF, if_neg hng])
    clear hng hq
    go_wp2_with fail
    refine bodyPost_ret (v := .tuple #[.agg #[.slice none 0 0, .int .i64 0, .int .i64 0, .slice none 0 0], .int .i64 1]) (by simp [results, Try.results15, go_sem, hcs, r0, r1, r2, r3]; try rfl) rfl ?_
    rw [HQF.o]
    exact Pure.mk (Below.setCell (Below.setCell (Below.setCell (Below.setCell HB1.o (by simp only; omega) _) (by simp only; omega) _) (by simp only; omega) _) (by simp only; omega) _) ⟨_, _, rfl, SlR.nil .., SlR.nil ..⟩
  | true =>
    have hgq : ZbZ l v := hq.1 rfl
    have HQF := zh (show ZfF l v = (Zaz l v, 0) by rw [ZfF, if_pos hgq])
    obtain ⟨v0, v8, l5, lg⟩ := hgq
    have hnd2 := Zdn l (fun g hg => (lg g hg).2.2)
    clear lg hnd
    obtain ⟨n, rfl⟩ := Int.eq_ofNat_of_zero_le v0
    clear hq
    go_wp2_with fail
    refine (Zi4 n (by omega) w1).mono ?_
    rintro e w2 ⟨cv0, rfl, hb2, hm2⟩
    have HB2 := zh (HB1.o.trans (hb2.mono HB1.o.size))
    have HRS2 := zh (Zac HRS1.o hb2)
    have HM2 := zh hm2
    have hz2 := Zag hm2.box
    have hz1 := HB1.o.size
    clear hb2 hm2 r0 r1 r2 r3 rf
    obtain ⟨g, hg⟩ : ∃ g, g = w1.heap.size := ⟨_, rfl⟩
    rw [← hg] at HM2 hz2 ⊢
    have hgr : rb < g := by omega
    have hgw : w.heap.size ≤ g := by omega
    clear hg
    go_wp2_with fail
    have CD0 := zh (show CdI w g w2.heap.size rb (Zam (ZaM n) (l.take 0)).1 (Zam (ZaM n) (l.take 0)).2 (n : Int) (-1) cv0 (.slice none 0 0) (w2.alloc (.cells #[.slice none 0 0, .int .i64 (n : Int), .int .i64 (-1), .slice none 0 0] 61)) from
      ⟨HB2.o.alloc HB2.o.size _, HM2.o.below ((zB _ _).alloc (zL _) _), Zao _ _, OwnF.nil, Zaf HRS2.o _, hgw, HB2.o.size, by omega, by omega, by have := Zag HRS2.o; omega⟩)
    have hblen : (ZaM n).length ≤ 8 := by rw [ZaL]; omega
    have HXL := zh (show (Zam (ZaM n) l).1.length ≤ 1048576 by have := Zbu l (ZaM n); omega)
    obtain ⟨gb, hgb⟩ : ∃ gb, gb = w2.heap.size := ⟨_, rfl⟩
    rw [← hgb] at CD0 ⊢
    clear hgb HB1 HB2 HRS1 HRS2 HM2
    go_loopw [21] (fun i W => ∃ (j : Nat) (cv gv : Value), j ≤ l.length ∧ i = .int .i64 (j : Int) ∧ CdI w g gb rb (Zam (ZaM n) (l.take j)).1 (Zam (ZaM n) (l.take j)).2 (n : Int) (-1) cv gv W) (fun i _ => l.length - (intOf i).toNat)
    case atStart => exact ⟨0, _, _, Nat.zero_le _, rfl, CD0.out⟩
    case round =>
      obtain ⟨j, cv, gv, hj, rfl, hcd⟩ := hrel
      have CD := zh hcd
      obtain ⟨hbel, hmk, hbox, hown, hres, hgw, hgbw, hne1, hne2, hne3⟩ := hcd
      have hzb := hbel.size
      have hgb := Zag hbox
      obtain ⟨na, nc, rfl, hnl, hnm⟩ := OwnF.val hown
      have hgsl : (Zam (ZaM n) (l.take j)).2.length = (l.take j).length := Za2 _ _
      have hll : (l.take j).length ≤ l.length := by rw [List.length_take]; omega
      by_cases hlt : j < l.length
      · obtain ⟨rfl, hAb⟩ := HTA.o (by omega)
        obtain ⟨sa, sc, d0, d1, d2, d3, hr⟩ := ZaG HE.o hAb (Keeps.ob hbel) hlt
        have hlt' : (j : Int) < (l.length : Int) := by omega
        have hj0 : (0 : Int) ≤ (j : Int) := zN _
        obtain ⟨t, ht⟩ : ∃ t, t = l[j]'hlt := ⟨_, rfl⟩
        rw [← ht] at d0 d1 d2 d3 hr
        have HT := zh ht
        have HLT := zh hlt
        have hbnd := Zhs (ZaM n) l j hlt
        rw [← ht] at hbnd
        have HR := zh (show Tm.rep (fun b => b < w.heap.size) _ t _ from Tm.rep_lasts.1 _ _ _ _ _ (TREP.out t (by rw [ht]; exact List.getElem_mem _) _ (Keeps.ob hbel) hr) (Keeps.alloc _ _ (.cells #[.int .i64 t.kind, .int .i64 t.n, .string t.s, .slice sa t.args.length sc] 43)))
        obtain ⟨nn, hnn⟩ : ∃ nn, nn = (Zam (ZaM n) (l.take j)).2.length := ⟨_, rfl⟩
        rw [← hnn] at hbox hown CD hnl
        have hMB := zh (hbel.alloc hbel.size (.cells #[.int .i64 t.kind, .int .i64 t.n, .string t.s, .slice sa t.args.length sc] 43))
        have HMK := zh (hmk.below ((zB _ _).alloc (zL _) (.cells #[.int .i64 t.kind, .int .i64 t.n, .string t.s, .slice sa t.args.length sc] 43)))
        have HBX := zh (Zaf hbox (.cells #[.int .i64 t.kind, .int .i64 t.n, .string t.s, .slice sa t.args.length sc] 43))
        have HEL := zh (Zao wr (.cells #[.int .i64 t.kind, .int .i64 t.n, .string t.s, .slice sa t.args.length sc] 43))
        have HOW := zh (OwnF.below hown ((zB _ _).alloc (zL _) (.cells #[.int .i64 t.kind, .int .i64 t.n, .string t.s, .slice sa t.args.length sc] 43)))
        have HRS := zh (Zaf hres (.cells #[.int .i64 t.kind, .int .i64 t.n, .string t.s, .slice sa t.args.length sc] 43))
        obtain ⟨ee, hee⟩ : ∃ ee, ee = wr.heap.size := ⟨_, rfl⟩
        have hsz0 : ee < (wr.alloc (.cells #[.int .i64 t.kind, .int .i64 t.n, .string t.s, .slice sa t.args.length sc] 43)).heap.size := by rw [hee]; simp
        have heg : gb < ee := by omega
        have hgg := Zag hmk.box
        have heg2 : g < ee := by omega
        have hew : w.heap.size ≤ ee := by omega
        rw [← hee] at HEL
        have HOWB := zh (fun b (hb : Zai (.slice na nn nc) = some b) => hown.lt b hb)
        have HCWB := zh (fun b (hb : Zai cv = some b) => hmk.own.lt b hb)
        have HEE := zh hee
        have hbl : (Zam (ZaM n) (l.take j)).1.length + 1 + 2 * t.nodes ≤ 4194304 := by omega
        clear hr ht hbel hmk hbox hown hres hbnd hgsl hnn
        go_wp2_with fail
        clear d0 d1 d2 d3
        rw [← HEE.o]
        clear hee
        generalize wr.alloc (.cells #[.int .i64 t.kind, .int .i64 t.n, .string t.s, .slice sa t.args.length sc] 43) = wa at hMB HMK HBX HEL HOW HRS hsz0 HR ⊢
        have hW1 : wa.drew.heap[gb]? = some (.cells #[.slice none 0 0, .int .i64 (n : Int), .int .i64 (-1), .slice na nn nc] 61 (0, 0)) ∧ wa.drew.heap[ee]? = some (.cells #[.int .i64 t.kind, .int .i64 t.n, .string t.s, .slice sa t.args.length sc] 43 (0, 0)) := ⟨HBX.o, HEL.o⟩
        refine Zav (F := fun k w' => k = 1 ∨ k = 3 → (w'.heap[gb]? = some (.cells #[.slice none 0 0, .int .i64 (n : Int), .int .i64 (-1), .slice na nn nc] 61 (0, 0)) ∧ w'.heap[ee]? = some (.cells #[.int .i64 t.kind, .int .i64 t.n, .string t.s, .slice sa t.args.length sc] 43 (0, 0)))) (by kernel_rfl) ?_
        refine ZaE (i := 0) (v := ?_) rfl (Or.inl ⟨by rfl, ?_⟩) (fun _ => hW1) ?_
        rotate_left
        · (intro w' hw; clear hw; go_simp <;> with_reducible rfl)
        simp only [zP]
        refine ZaE (i := 1) (v := ?_) rfl (Or.inl ⟨by rfl, ?_⟩) (fun _ => hW1) ?_
        rotate_left
        · (intro w' hw; obtain ⟨q0, q1, q2, q3, qf⟩ := Za0 (hw (by omega)).1; go_simp <;> with_reducible rfl)
        simp only [zP]
        refine ZaE (i := 2) (v := ?_) rfl (Or.inl ⟨by rfl, ?_⟩) (fun _ => hW1) ?_
        rotate_left
        · (intro w' hw; clear hw; go_simp <;> with_reducible rfl)
        simp only [zP]
        refine ZaE (i := 3) (v := ?_) rfl (Or.inl ⟨by rfl, ?_⟩) (fun _ => hW1) ?_
        rotate_left
        · (intro w' hw; obtain ⟨q0, q1, q2, q3, qf⟩ := Za0 (hw (by omega)).2; go_simp <;> with_reducible rfl)
        simp only [zP]
        refine Zab (i := 4) (by kernel_rfl) (Zad rfl (by rfl) ?_)
        go_simp
        refine (Zff t g (g + 1) (Zam (ZaM n) (l.take j)).1 cv (fun b => b < w.heap.size) wa.drew [_, _, _, _] (HMK.o.below (zB _ _).drew) hbl (Tm.rep_lasts.1 _ _ _ _ _ HR.o (Keeps.drew _ _)) (fun b hb => ⟨by have hb' : b < w.heap.size := hb; have := hMB.out.size; simp; omega, fun e => by
          have hb' : b < w.heap.size := hb
          rcases e with e | e
          · omega
          · have := (HCWB.o b e).1; omega⟩)).mono ?_
        rintro e w2 ⟨rfl, cv2, hm2, hc2, ho2⟩
        have ngb : ¬ MkM g cv gb := fun e => by
          rcases e with e | e
          · exact hne1 e
          · exact OwnF.ne_box HMK.o.own HBX.o (by decide) e
        have nee : ¬ MkM g cv ee := fun e => by
          rcases e with e | e
          · omega
          · have h1 := (HCWB.o _ e).2; have h2 := HEE.o; omega
        have nrb : ¬ MkM g cv rb := fun e => by
          rcases e with e | e
          · exact hne2 e
          · exact OwnF.ne_box HMK.o.own HRS.o (by decide) e
        have HB2 := zh (hMB.out.drew.trans (((Ch.refl _ _).trans hc2 (fun _ h => .inl h)).mono (M' := MkM g cv) (fun _ _ h => h) |> fun h => (show Below w.heap.size wa.drew w2 from ⟨h.os, h.tape, h.output, h.size, fun k hk => h.block k (by have := hMB.out.size; simp; omega) (fun e => by
          rcases e with e | e
          · omega
          · have := (HCWB.o k e).1; omega)⟩)))
        have HBX2 := zh ((hc2.block gb (by simpa using Zag HBX.o) ngb).trans (show wa.drew.heap[gb]? = _ from HBX.o))
        have HRS2 := zh ((hc2.block rb (by simpa using Zag HRS.o) nrb).trans (show wa.drew.heap[rb]? = _ from HRS.o))
        have HOW2 := zh (OwnF.kept HOW.o (w' := w2) (fun b hb => hc2.block b (by simpa using (HOW.o.lt b hb).2) (fun e => by
          rcases e with e | e
          · have := (HOW.o.lt b hb).1; omega
          · exact ZaS (by decide) HMK.o.own HOW.o b e hb)))
        have HM2 := zh hm2
        refine ⟨fun k hk hF h13 => ⟨(hc2.block gb (by simpa using Zag HBX.o) ngb).trans (hF h13).1, (hc2.block ee (by simpa using Zag HEL.o) nee).trans (hF h13).2⟩, ?_⟩
        clear hc2 ho2 hm2 ngb nee nrb hW1 HMK HBX HEL HOW HRS HOWB hMB HR
        try simp only [zP]
        refine Zab (i := 5) (by kernel_rfl) (Zad rfl (by rfl) ?_)
        go_simp
        refine ⟨fun k hk hF h13 => ⟨Zaf (hF h13).1 _, Zaf (hF h13).2 _⟩, ?_⟩
        refine Zab (i := 6) (by kernel_rfl) (Zad rfl (by rfl) ?_)
        have hz2 := HM2.o.base_le
        have hx2l : (Zam (ZaM n) (l.take j)).1.length ≤ 4194304 := by omega
        refine ZbI (.tmp 26) (.tmp 30) 37 rfl (g + 1) 3 1 8 Za1 Zae (.slice na nn nc) (Zam (ZaM n) (l.take j)).2 rfl (OwnF.ownR Zaw HOW2.o (fun _ => True)) ((Zam (ZaM n) (l.take j)).1.length : Int) [(.int .i64 ((Zam (ZaM n) (l.take j)).1.length : Int))] rfl rfl ⟨by unfold I64; omega, rfl⟩ ⟨by rw [Za2]; omega, hz2⟩ ?_
        intro v2 w4 hown2 hgrew
        have HO4 := zh (OwnF.of_ownR hown2)
        have HCW2 := HM2.o.own
        have hkc : ∀ b, Zai (.slice na nn nc) = some b → b ≠ gb ∧ b ≠ g ∧ b ≠ rb ∧ Zai cv2 ≠ some b := fun b hb => ⟨fun e => OwnF.ne_box HOW2.o HBX2.o (by decide) (e ▸ hb), fun e => OwnF.ne_box HOW2.o HM2.o.box (by decide) (e ▸ hb), fun e => OwnF.ne_box HOW2.o HRS2.o (by decide) (e ▸ hb), fun e => ZaS (by decide) HCW2 HOW2.o b e hb⟩
        have hgk : ∀ k, k < w2.heap.size → Zai (.slice na nn nc) ≠ some k → w4.heap[k]? = w2.heap[k]? := fun k hk hn => (hgrew.grown.block k (by simp; omega) (fun e => hn e.symm)).trans (Below.heap_alloc _ _ _ hk)
        have HBX4 := zh ((hgk gb (Zag HBX2.o) (fun e => (hkc _ e).1 rfl)).trans HBX2.o)
        have HRS4 := zh ((hgk rb (Zag HRS2.o) (fun e => (hkc _ e).2.2.1 rfl)).trans HRS2.o)
        have HMB4 := zh ((hgk g (Zag HM2.o.box) (fun e => (hkc _ e).2.1 rfl)).trans HM2.o.box)
        have HCW4 := zh (OwnF.kept HCW2 (w' := w4) (fun b hb => hgk b (HCW2.lt b hb).2 (fun e => (hkc b e).2.2.2 hb)))
        have hz4 := hgrew.size
        have HB4 := zh (hgrew.below (HB2.o.alloc HB2.o.size (.cells #[.int .i64 ((Zam (ZaM n) (l.take j)).1.length : Int)] 3)) (by have := HB2.o.size; simp; omega) (fun b hb => by have := (HOW2.o.lt b hb).1; omega))
        refine ⟨fun k hk hF h13 => ⟨(hgrew.grown.block gb (by have := Zag HBX2.o; simp; omega) (fun e => (hkc _ e.symm).1 rfl)).trans (hF h13).1, (hgrew.grown.block ee (Zag (hF h13).2) (fun e => OwnF.ne_box (OwnF.below HOW2.o ((zB _ _).alloc (zL _) _)) (hF h13).2 (by decide) e.symm)).trans (hF h13).2⟩, ?_⟩
        obtain ⟨va2, vc2, hv2, -, -⟩ := OwnF.val HO4.o
        rw [List.length_append, List.length_singleton] at hv2
        subst hv2
        clear hown2 hgrew hgk hkc HCW2
        try simp only [zP]
        refine Zab (i := 7) (by kernel_rfl) (Zad rfl (by rfl) ?_)
        go_simp
        refine ⟨fun _ _ h => h, ?_⟩
        obtain ⟨y0, y1, y2, y3, yf⟩ := Za0 HBX4.o
        have hgb4 := Zag HBX4.o
        refine Zab (i := 8) (by kernel_rfl) (Zad rfl (by rfl) ?_)
        go_simp
        refine ⟨fun k hk _ h1 => ?_, Zan (by kernel_rfl) ?_ _⟩
        · rcases h1 with h1 | h1
          · subst h1; exact absurd (show waits _ 8 1 = true by kernel_rfl) (by rw [hk]; decide)
          · subst h1; exact absurd (show waits _ 8 3 = true by kernel_rfl) (by rw [hk]; decide)
        go_wp2_with fail
        go_roundw
        case rel =>
          have hgl : (Zam (ZaM n) (l.take j)).2.length + 1 = ((Zam (ZaM n) (l.take j)).2 ++ [((Zam (ZaM n) (l.take j)).1.length : Int)]).length := by simp
          refine ⟨j + 1, cv2, .slice va2 ((Zam (ZaM n) (l.take j)).2.length + 1) vc2, by omega, by go_num, ?_⟩
          rw [List.take_succ_eq_append_getElem HLT.o, ZdX, ← HT.o]
          refine ⟨HB4.o.setCell (by simp only; omega) _, ⟨?_, ?_, HM2.o.lt, HM2.o.len, ?_⟩, (Zal HBX4.o 3 _).trans rfl, ?_, ?_, hgw, hgbw, hne1, hne2, hne3⟩
          · rw [Below.heap_setCell _ _ _ _ (by simp only; exact fun e => hne1 e.symm)]; exact HMB4.o
          · exact OwnF.kept HCW4.o (fun b hb => Below.heap_setCell _ _ _ _ (by simp only; exact fun e => OwnF.ne_box HCW4.o HBX4.o (by decide) (e ▸ hb)))
          · have := Zag HMB4.o; simp; omega
          · exact OwnF.kept HO4.o (fun b hb => Below.heap_setCell _ _ _ _ (by simp only; exact fun e => OwnF.ne_box HO4.o HBX4.o (by decide) (e ▸ hb)))
          · rw [Below.heap_setCell _ _ _ _ (by simp only; exact hne3)]; exact HRS4.o
        case measure => first | (simp [intOf]; done) | (simp [intOf]; omega)
      · have hje : j = l.length := by omega
        subst hje
        have hlt' : ¬ ((l.length : Int) < (l.length : Int)) := by omega
        obtain ⟨ca, cc, rfl, hcl, hcm⟩ := OwnF.val hmk.own
        obtain ⟨m0, mf⟩ := ZjQ hmk.box
        obtain ⟨y0, y1, y2, y3, yf⟩ := Za0 hbox
        obtain ⟨r0, r1, r2, r3, rf⟩ := Za0 hres
        have hgg := Zag hmk.box
        have hrr := Zag hres
        clear hlt hbel hmk hbox hown hres hgsl
        rw [List.take_length] at CD
        have hxl : (Zam (ZaM n) (l.take l.length)).1 = (Zam (ZaM n) l).1 := by rw [List.take_length]
        have hgl : (Zam (ZaM n) (l.take l.length)).2 = (Zam (ZaM n) l).2 := by rw [List.take_length]
        rw [hxl] at m0 hcl
        rw [hgl] at y3 hnl
        clear hxl hgl
        obtain ⟨X, hX⟩ : ∃ X, X = Zam (ZaM n) l := ⟨_, rfl⟩
        rw [← hX] at m0 hcl y3 hnl CD
        have HX := zh hX
        clear hX
        go_wp2_with fail
        have hch : Ch (fun b => b = gb ∨ b = rb) wr wr := Ch.refl _ _
        have HCH := (((((hch.setCell (p := ⟨gb, 0, none⟩) (.inl (.inl rfl)) (.slice ca X.1.length cc)).setCell (p := ⟨rb, 0, none⟩) (.inl (.inr rfl)) (.slice ca X.1.length cc)).setCell (p := ⟨rb, 1, none⟩) (.inl (.inr rfl)) (.int .i64 (n : Int))).setCell (p := ⟨rb, 2, none⟩) (.inl (.inr rfl)) (.int .i64 (-1))).setCell (p := ⟨rb, 3, none⟩) (.inl (.inr rfl)) (.slice na X.2.length nc))
        have hne3' : ¬ gb = rb := fun e => hne3 e.symm
        have c1 := CD.out.mkr.own
        have c2 := CD.out.own
        have c3 := CD.out.box
        have c4 := CD.out.res
        have hbF := Ch.below (Ch.trans (Ch.of_below (M := fun b => b = gb ∨ b = rb) CD.out.bel) HCH (fun _ h => .inl h)) (fun k hk e => by omega)
        refine bodyPost_ret (v := .tuple #[.agg #[.slice ca X.1.length cc, .int .i64 (n : Int), .int .i64 (-1), .slice na X.2.length nc], .int .i64 0]) (by simp [results, Try.results15, go_sem, hcs, r0, r1, r2, r3, y0, y1, y2, y3, hne3, hne3']; try rfl) rfl ?_
        rw [HQF.o]
        have hXl := HXL.o
        rw [← HX.o] at hXl
        refine Pure.mk hbF ⟨_, _, rfl, ?_, ?_⟩
        · show CesR _ _ (Zam (ZaM n) l).1 _
          rw [← HX.o]
          exact OwnF.sl Ce.vals_len Ce.vals_one (OwnF.kept c1 (fun b hb => HCH.block b (c1.lt b hb).2 (fun e => by
            rcases e with e | e
            · exact OwnF.ne_box c1 c3 (by decide) (e ▸ hb)
            · exact OwnF.ne_box c1 c4 (by decide) (e ▸ hb)))) (by omega) (fun b hb => by have := (c1.lt b hb).1; unfold New; omega)
        · show Zbv _ _ (Zam (ZaM n) l).2 _
          rw [← HX.o]
          have hl2 := Za2 l (ZaM n)
          rw [← HX.o] at hl2
          exact OwnF.sl Zaw Zb4 (OwnF.kept c2 (fun b hb => HCH.block b (c2.lt b hb).2 (fun e => by
            rcases e with e | e
            · exact OwnF.ne_box c2 c3 (by decide) (e ▸ hb)
            · exact OwnF.ne_box c2 c4 (by decide) (e ▸ hb)))) (by omega) (fun b hb => by have := (c2.lt b hb).1; unfold New; omega)
theorem ZkO (c : Cl) (hnd : c.nodes ≤ 1099511627776) (w : World) (vs : List Value) (hc : Cl.rep (fun b => b < w.heap.size) w c vs) :
    Calls Try.prog 14 #[.agg vs.toArray] w (Pure w (ZmA (New w) (ZdY c))) := by
  have hcs := Zak
  have HGQ := zh (fun (W : World) (h : Below w.heap.size w W) => Zd7 c hnd (fun b => b < w.heap.size) W vs (Cl.rep_lasts.1 _ _ _ _ _ hc (Keeps.ob h)))
  obtain ⟨h, l, v⟩ := c
  obtain ⟨ha, hcp, a, cap, rfl, hh, hu, hi⟩ := hc
  simp only at hh hu hi
  obtain ⟨_, _, b, off, e, -, -, hlb, hta, he⟩ := hu.at
  simp only [Value.slice.injEq, true_and] at e
  obtain ⟨rfl, rfl⟩ := e
  have HE := zh he
  have HTA := zh hta
  have HHR := zh hh
  have TREP := zh (show ∀ t ∈ l, ∀ (W : World), Keeps (fun b => b < w.heap.size) w W → ∀ {us}, Tm.rep (fun b => b < w.heap.size) W t us → Tm.rep (fun b => b < w.heap.size) W t us from fun _ _ _ _ _ h => h)
  simp only [Cl.nodes] at hnd
  clear hu hta he hh
  go_enter Try.func14, Try.ntmps14
  go_wp2_with fail
  have h2 := Zcv w (.cells #[.int .i64 h.kind, .int .i64 h.n, .string h.s, .slice ha h.args.length hcp, .slice a l.length cap, .int .i64 v] 59) (.cells #[.slice none 0 0, .int .i64 0, .int .i64 0, .slice none 0 0] 61)
  have HPB0 := zh h2.1
  have HRS0 := zh h2.2
  have HB0 := zh (((Below.refl _ w).alloc (zL _) (.cells #[.int .i64 h.kind, .int .i64 h.n, .string h.s, .slice ha h.args.length hcp, .slice a l.length cap, .int .i64 v] 59)).alloc (by simp) (.cells #[.slice none 0 0, .int .i64 0, .int .i64 0, .slice none 0 0] 61))
  refine (HGQ.o _ HB0.o).mono ?_
  rintro e w1 ⟨r, rfl, hb1, q, rfl, hq⟩
  have HB1 := zh (HB0.o.trans (hb1.mono HB0.o.size))
  have HRS1 := zh (Zac HRS0.o hb1)
  have HPB1 := zh (Zac HPB0.o hb1)
  clear hb1 HB0 HRS0 HPB0 h2
  obtain ⟨rb, hrb⟩ : ∃ rb, rb = w.heap.size + 1 := ⟨_, rfl⟩
  obtain ⟨pb, hpb⟩ : ∃ pb, pb = w.heap.size := ⟨_, rfl⟩
  have HRB := zh hrb
  have hrw : rb < w1.heap.size := by rw [hrb]; exact Zag HRS1.o
  have hrw0 : w.heap.size ≤ rb := by omega
  have hpw : pb < w1.heap.size := by omega
  have hpr : ¬ rb = pb := by omega
  have hpw0 : w.heap.size ≤ pb := by omega
  rw [← hrb] at HRS1
  rw [← hpb] at HPB1
  obtain ⟨r0, r1, r2, r3, rf⟩ := Za0 HRS1.o
  rw [← hrb]
  rw [← hpb]
  clear hrb hpb
  cases q with
  | false =>
    have hng : ¬ (⟨h, l, v⟩ : Cl).Good := fun h => by have := hq.2 h; cases this
    have HQF := zh (show ZdY ⟨h, l, v⟩ = (bk0, 1) by rw [ZdY, if_neg hng])
    clear hng hq
    go_wp2_with fail
    refine bodyPost_ret (v := .tuple #[.agg #[.slice none 0 0, .int .i64 0, .int .i64 0, .slice none 0 0], .int .i64 1]) (by simp [results, Try.results14, go_sem, hcs, r0, r1, r2, r3]; try rfl) rfl ?_
    rw [HQF.o]
    exact Pure.mk (Below.setCell (Below.setCell (Below.setCell (Below.setCell HB1.o (by simp only; omega) _) (by simp only; omega) _) (by simp only; omega) _) (by simp only; omega) _) ⟨_, _, rfl, SlR.nil .., SlR.nil ..⟩
  | true =>
    have hgq : (⟨h, l, v⟩ : Cl).Good := hq.1 rfl
    have HQF := zh (show ZdY ⟨h, l, v⟩ = (Zah ⟨h, l, v⟩, 0) by rw [ZdY, if_pos hgq])
    obtain ⟨⟨v0, v8, l5, lg⟩, -, hft, -⟩ := hgq
    simp only at v0 v8 l5 lg hft
    have hhn := hft.2
    obtain ⟨n, rfl⟩ := Int.eq_ofNat_of_zero_le v0
    have hnd2 := Zdn l (fun g hg => (lg g hg).2.2)
    clear lg hnd hq hft
    obtain ⟨x0, x1, x2, x3, x4, x5, xf⟩ := ZcR HPB1.o
    go_wp2_with fail
    refine (Zi4 n (by omega) w1).mono ?_
    rintro e w2 ⟨cv0, rfl, hb2, hm2⟩
    have HB2 := zh (HB1.o.trans (hb2.mono HB1.o.size))
    have HRS2 := zh (Zac HRS1.o hb2)
    have HPB2 := zh (Zac HPB1.o hb2)
    have HM2 := zh hm2
    have hz2 := Zag hm2.box
    have hz1 := HB1.o.size
    clear hb2 hm2 r0 r1 r2 r3 rf x0 x1 x2 x3 x4 x5 xf
    obtain ⟨g, hg⟩ : ∃ g, g = w1.heap.size := ⟨_, rfl⟩
    rw [← hg] at HM2 hz2 ⊢
    have hgr : rb < g := by omega
    have hgp : pb < g := by omega
    have hgw : w.heap.size ≤ g := by omega
    clear hg HB1 HRS1 HPB1
    go_wp2_with fail
    go_cut [5] (fun u5 wr => ∃ (gb : Nat) (cv : Value), u5 = .pointer (some ⟨gb, 0, none⟩) ∧ CdI w g gb rb (Zam (ZaC (ZaM n) h) (l.take 0)).1 (Zam (ZaC (ZaM n) h) (l.take 0)).2 (n : Int) (n : Int) cv (.slice none 0 0) wr ∧ wr.heap[pb]? = some (.cells #[.int .i64 h.kind, .int .i64 h.n, .string h.s, .slice ha h.args.length hcp, .slice a l.length cap, .int .i64 (n : Int)] 59 (0, 0)))
    case first =>
      have hW1 : w2.drew.heap[pb]? = some (.cells #[.int .i64 h.kind, .int .i64 h.n, .string h.s, .slice ha h.args.length hcp, .slice a l.length cap, .int .i64 (n : Int)] 59 (0, 0)) := HPB2.o
      have HM3 := zh (HM2.o.below (zB _ _).drew)
      have HB3 := zh (HB2.o.drew)
      have HRS3 := zh (show w2.drew.heap[rb]? = _ from HRS2.o)
      have HPB3 := zh hW1
      refine Zav (F := fun k w' => k = 1 ∨ k = 4 → w'.heap[pb]? = some (.cells #[.int .i64 h.kind, .int .i64 h.n, .string h.s, .slice ha h.args.length hcp, .slice a l.length cap, .int .i64 (n : Int)] 59 (0, 0))) (by kernel_rfl) ?_
      refine ZaE (i := 0) (v := ?_) rfl (Or.inl ⟨by rfl, ?_⟩) (fun _ => hW1) ?_
      rotate_left
      · (intro w' hw; clear hw; go_simp <;> with_reducible rfl)
      simp only [zP]
      refine ZaE (i := 1) (v := ?_) rfl (Or.inl ⟨by rfl, ?_⟩) (fun _ => hW1) ?_
      rotate_left
      · (intro w' hw; obtain ⟨q0, q1, q2, q3, q4, q5, qf⟩ := ZcR (hw (by omega)); go_simp <;> with_reducible rfl)
      simp only [zP]
      refine ZaE (i := 2) (v := ?_) rfl (Or.inl ⟨by rfl, ?_⟩) (fun _ => hW1) ?_
      rotate_left
      · (intro w' hw; clear hw; go_simp <;> with_reducible rfl)
      simp only [zP]
      refine ZaE (i := 3) (v := ?_) rfl (Or.inl ⟨by rfl, ?_⟩) (fun _ => hW1) ?_
      rotate_left
      · (intro w' hw; clear hw; go_simp <;> with_reducible rfl)
      simp only [zP]
      refine ZaE (i := 4) (v := ?_) rfl (Or.inl ⟨by rfl, ?_⟩) (fun _ => hW1) ?_
      rotate_left
      · (intro w' hw; obtain ⟨q0, q1, q2, q3, q4, q5, qf⟩ := ZcR (hw (by omega)); go_simp <;> with_reducible rfl)
      simp only [zP]
      clear HB2 HRS2 HPB2 HM2 hW1
      generalize w2.drew = w3 at HM3 HB3 HRS3 HPB3 ⊢
      refine Zcl (i := 5) (j := 7) (by kernel_rfl) (Zad rfl (by rfl) ?_) (Zad rfl (by rfl) ?_)
      · go_simp
        refine (Zff h g (g + 1) (ZaM n) cv0 (fun b => b < w.heap.size) w3 [_, _, _, _] HM3.o (by rw [ZaL]; omega) (Tm.rep_lasts.1 _ _ _ _ _ HHR.o (Keeps.ob HB3.o)) (fun b hb => ⟨by have hb' : b < w.heap.size := hb; have := HB3.o.size; omega, fun e => by
          have hb' : b < w.heap.size := hb
          rcases e with e | e
          · omega
          · have := (HM3.o.own.lt b e).1; omega⟩)).mono ?_
        rintro e w5 ⟨rfl, cv2, hm5, hc5, ho5⟩
        have npb : ¬ MkM g cv0 pb := fun e => by
          rcases e with e | e
          · omega
          · exact OwnF.ne_box HM3.o.own HPB3.o (by decide) e
        have nrb : ¬ MkM g cv0 rb := fun e => by
          rcases e with e | e
          · omega
          · exact OwnF.ne_box HM3.o.own HRS3.o (by decide) e
        have HPB5 := zh ((hc5.block pb (Zag HPB3.o) npb).trans HPB3.o)
        have HRS5 := zh ((hc5.block rb (Zag HRS3.o) nrb).trans HRS3.o)
        have HB5 := zh (Ch.below (Ch.trans (Ch.of_below (M := MkM g cv0) HB3.o) hc5 (fun _ h => .inl h)) (fun k hk e => by
          rcases e with e | e
          · omega
          · have := (HM3.o.own.lt k e).1; omega))
        have HM5 := zh hm5
        rw [ZaL]
        refine ⟨fun k hk hF h13 => (hc5.block pb (Zag HPB3.o) npb).trans (hF h13), ?_⟩
        clear npb nrb hc5 ho5 hm5
        try simp only [zP]
        refine ZaE (i := 6) (v := ?_) rfl (Or.inl ⟨by rfl, ?_⟩) (fun h => absurd h (by decide)) ?_
        rotate_left
        · (intro w' hw; clear hw; go_simp <;> with_reducible rfl)
        simp only [zP]
        refine Zab (i := 7) (by kernel_rfl) (Zad rfl (by rfl) ?_)
        go_simp
        refine ⟨fun k hk hF h13 => Zaf (hF h13) _, ?_⟩
        have HGB := zh (Zao w5 (.cells #[.slice none 0 0, .int .i64 0, .int .i64 0, .slice none 0 0] 61))
        have HZB := zh ((Below.refl _ w5).alloc (zL _) (.cells #[.slice none 0 0, .int .i64 0, .int .i64 0, .slice none 0 0] 61))
        have HPZ := zh (Zaf HPB5.o (.cells #[.slice none 0 0, .int .i64 0, .int .i64 0, .slice none 0 0] 61))
        obtain ⟨gb, hgb⟩ : ∃ gb, gb = w5.heap.size := ⟨_, rfl⟩
        rw [← hgb] at HGB ⊢
        have hg5 := Zag HM5.o.box
        have hr5 := Zag HRS5.o
        have hp5 := Zag HPB5.o
        have hb5 := HB5.o.size
        have hgbl := Zag HGB.o
        have HGE := zh hgb
        have q1 : g < gb := by omega
        have q2 : rb < gb := by omega
        have q3 : pb < gb := by omega
        have q4 : w.heap.size ≤ gb := by omega
        clear hgb
        generalize w5.alloc (.cells #[.slice none 0 0, .int .i64 0, .int .i64 0, .slice none 0 0] 61) = wz at HGB HZB HPZ hgbl ⊢
        obtain ⟨y0, y1, y2, y3, yf⟩ := Za0 HGB.o
        try simp only [zP]
        refine Zab (i := 8) (by kernel_rfl) (Zad rfl (by rfl) ?_)
        go_simp
        refine ⟨fun k hk _ h1 => ?_, Zan (by kernel_rfl) ?_ _⟩
        · rcases h1 with h1 | h1
          · subst h1; exact absurd (show waits _ 8 1 = true by kernel_rfl) (by rw [hk]; decide)
          · subst h1; exact absurd (show waits _ 8 4 = true by kernel_rfl) (by rw [hk]; decide)
        go_wp2_with fail
        go_meet
        have hBW : Below w5.heap.size w5 ((((wz.setCell ⟨gb, 0, none⟩ (.slice none 0 0)).setCell ⟨gb, 1, none⟩ (.int .i64 (n : Int))).setCell ⟨gb, 2, none⟩ (.int .i64 (n : Int))).setCell ⟨gb, 3, none⟩ (.slice none 0 0)) := by
          have := HGE.o
          exact Below.setCell (Below.setCell (Below.setCell (Below.setCell HZB.o (by simp only; omega) _) (by simp only; omega) _) (by simp only; omega) _) (by simp only; omega) _
        exact ⟨gb, cv2, rfl, ⟨HB5.o.trans (hBW.mono HB5.o.size), HM5.o.below hBW, (Zal (Zal (Zal (Zal HGB.o 0 _) 1 _) 2 _) 3 _).trans rfl, OwnF.nil, Zac HRS5.o hBW, hgw, q4, by omega, by omega, by omega⟩, Zac HPB5.o hBW⟩
      · go_simp
        refine ⟨fun k hk hF h13 => Zaf (hF h13) _, ?_⟩
        have HGB := zh (Zao w3 (.cells #[.slice none 0 0, .int .i64 0, .int .i64 0, .slice none 0 0] 61))
        have HM4 := zh (HM3.o.below ((zB _ _).alloc (zL _) (.cells #[.slice none 0 0, .int .i64 0, .int .i64 0, .slice none 0 0] 61)))
        have HB4 := zh (HB3.o.alloc HB3.o.size (.cells #[.slice none 0 0, .int .i64 0, .int .i64 0, .slice none 0 0] 61))
        have HPB4 := zh (Zaf HPB3.o (.cells #[.slice none 0 0, .int .i64 0, .int .i64 0, .slice none 0 0] 61))
        have HRS4 := zh (Zaf HRS3.o (.cells #[.slice none 0 0, .int .i64 0, .int .i64 0, .slice none 0 0] 61))
        obtain ⟨gb, hgb⟩ : ∃ gb, gb = w3.heap.size := ⟨_, rfl⟩
        rw [← hgb] at HGB ⊢
        have hg5 := Zag HM3.o.box
        have hr5 := Zag HRS3.o
        have hp5 := Zag HPB3.o
        have hb5 := HB3.o.size
        have hown3 := zh (fun b (hb : Zai cv0 = some b) => (HM3.o.own.lt b hb).2)
        have HGE := zh hgb
        have q1 : g < gb := by omega
        have q2 : rb < gb := by omega
        have q3 : pb < gb := by omega
        have q4 : w.heap.size ≤ gb := by omega
        clear hgb
        generalize w3.alloc (.cells #[.slice none 0 0, .int .i64 0, .int .i64 0, .slice none 0 0] 61) = wz at HGB HM4 HB4 HPB4 HRS4 ⊢
        try simp only [zP]
        refine Zab (i := 5) (by kernel_rfl) (Zad rfl (by rfl) ?_)
        go_simp
        refine (Zff h g (g + 1) (ZaM n) cv0 (fun b => b < w.heap.size) wz [_, _, _, _] HM4.o (by rw [ZaL]; omega) (Tm.rep_lasts.1 _ _ _ _ _ HHR.o (Keeps.ob HB4.o)) (fun b hb => ⟨by have hb' : b < w.heap.size := hb; have := HB4.o.size; omega, fun e => by
          have hb' : b < w.heap.size := hb
          rcases e with e | e
          · omega
          · have := (HM4.o.own.lt b e).1; omega⟩)).mono ?_
        rintro e w5 ⟨rfl, cv2, hm5, hc5, ho5⟩
        have npb : ¬ MkM g cv0 pb := fun e => by
          rcases e with e | e
          · omega
          · exact OwnF.ne_box HM4.o.own HPB4.o (by decide) e
        have nrb : ¬ MkM g cv0 rb := fun e => by
          rcases e with e | e
          · omega
          · exact OwnF.ne_box HM4.o.own HRS4.o (by decide) e
        have HPB5 := zh ((hc5.block pb (Zag HPB4.o) npb).trans HPB4.o)
        have HRS5 := zh ((hc5.block rb (Zag HRS4.o) nrb).trans HRS4.o)
        have HB5 := zh (Ch.below (Ch.trans (Ch.of_below (M := MkM g cv0) HB4.o) hc5 (fun _ h => .inl h)) (fun k hk e => by
          rcases e with e | e
          · omega
          · have := (HM4.o.own.lt k e).1; omega))
        have HM5 := zh hm5
        rw [ZaL]
        have ngb : ¬ MkM g cv0 gb := fun e => by
          rcases e with e | e
          · omega
          · have h1 := hown3.out _ e; have h2 := HGE.o; omega
        have HGB5 := zh ((hc5.block gb (Zag HGB.o) ngb).trans HGB.o)
        refine ⟨fun k hk hF h13 => (hc5.block pb (Zag HPB4.o) npb).trans (hF h13), ?_⟩
        clear npb nrb ngb hc5 ho5 hm5
        try simp only [zP]
        refine Zab (i := 6) (by kernel_rfl) (Zad rfl (by rfl) ?_)
        go_simp
        refine ⟨fun _ _ h => h, ?_⟩
        obtain ⟨y0, y1, y2, y3, yf⟩ := Za0 HGB5.o
        have hgbl := Zag HGB5.o
        try simp only [zP]
        refine Zab (i := 8) (by kernel_rfl) (Zad rfl (by rfl) ?_)
        go_simp
        refine ⟨fun k hk _ h1 => ?_, Zan (by kernel_rfl) ?_ _⟩
        · rcases h1 with h1 | h1
          · subst h1; exact absurd (show waits _ 8 1 = true by kernel_rfl) (by rw [hk]; decide)
          · subst h1; exact absurd (show waits _ 8 4 = true by kernel_rfl) (by rw [hk]; decide)
        go_wp2_with fail
        go_meet
        have hch : Ch (fun b => b = gb) w5 w5 := Ch.refl _ _
        have HCH := (((hch.setCell (p := ⟨gb, 0, none⟩) (.inl rfl) (.slice none 0 0)).setCell (p := ⟨gb, 1, none⟩) (.inl rfl) (.int .i64 (n : Int))).setCell (p := ⟨gb, 2, none⟩) (.inl rfl) (.int .i64 (n : Int))).setCell (p := ⟨gb, 3, none⟩) (.inl rfl) (.slice none 0 0)
        exact ⟨gb, cv2, rfl, ⟨(Ch.trans (Ch.of_below (M := fun b => b = gb) HB5.o) HCH (fun _ h => .inl h)).below (fun k hk e => by omega), HM5.o.ch HCH (fun b hb e => by
          rcases hb with hb | hb
          · omega
          · exact OwnF.ne_box HM5.o.own HGB5.o (by decide) (e ▸ hb)), (Zal (Zal (Zal (Zal HGB5.o 0 _) 1 _) 2 _) 3 _).trans rfl, OwnF.nil, (HCH.block rb (Zag HRS5.o) (by omega)).trans HRS5.o, hgw, q4, by omega, by omega, by omega⟩, (HCH.block pb (Zag HPB5.o) (by omega)).trans HPB5.o⟩
    case rest =>
      obtain ⟨gb, cv, rfl, hcd, hpbx⟩ := hcut
      have CD0 := zh hcd
      obtain ⟨x0, x1, x2, x3, x4, x5, xf⟩ := ZcR hpbx
      have hpbl := Zag hpbx
      have hblen : (ZaC (ZaM n) h).length ≤ 56 := by have := (Zdm h (ZaM n)).2; rw [ZaL] at this; omega
      have HXL := zh (show (Zam (ZaC (ZaM n) h) l).1.length ≤ 1048576 by have := Zbu l (ZaC (ZaM n) h); omega)
      clear hcd hpbx HM2 HB2 HRS2 HPB2
      go_wp2_with fail
      clear x0 x1 x2 x3 x4 x5 xf hpbl
      go_loopw [25] (fun i W => ∃ (j : Nat) (cv gv : Value), j ≤ l.length ∧ i = .int .i64 (j : Int) ∧ CdI w g gb rb (Zam (ZaC (ZaM n) h) (l.take j)).1 (Zam (ZaC (ZaM n) h) (l.take j)).2 (n : Int) (n : Int) cv gv W) (fun i _ => l.length - (intOf i).toNat)
      case atStart => exact ⟨0, _, _, Nat.zero_le _, rfl, CD0.out⟩
      case round =>
        obtain ⟨j, cv, gv, hj, rfl, hcd⟩ := hrel
        have CD := zh hcd
        obtain ⟨hbel, hmk, hbox, hown, hres, hgw, hgbw, hne1, hne2, hne3⟩ := hcd
        have hzb := hbel.size
        have hgb := Zag hbox
        obtain ⟨na, nc, rfl, hnl, hnm⟩ := OwnF.val hown
        have hgsl : (Zam (ZaC (ZaM n) h) (l.take j)).2.length = (l.take j).length := Za2 _ _
        have hll : (l.take j).length ≤ l.length := by rw [List.length_take]; omega
        by_cases hlt : j < l.length
        · obtain ⟨rfl, hAb⟩ := HTA.o (by omega)
          obtain ⟨sa, sc, d0, d1, d2, d3, hr⟩ := ZaG HE.o hAb (Keeps.ob hbel) hlt
          have hlt' : (j : Int) < (l.length : Int) := by omega
          have hj0 : (0 : Int) ≤ (j : Int) := zN _
          obtain ⟨t, ht⟩ : ∃ t, t = l[j]'hlt := ⟨_, rfl⟩
          rw [← ht] at d0 d1 d2 d3 hr
          have HT := zh ht
          have HLT := zh hlt
          have hbnd := Zhs (ZaC (ZaM n) h) l j hlt
          rw [← ht] at hbnd
          have HR := zh (show Tm.rep (fun b => b < w.heap.size) _ t _ from Tm.rep_lasts.1 _ _ _ _ _ (TREP.out t (by rw [ht]; exact List.getElem_mem _) _ (Keeps.ob hbel) hr) (Keeps.alloc _ _ (.cells #[.int .i64 t.kind, .int .i64 t.n, .string t.s, .slice sa t.args.length sc] 43)))
          obtain ⟨nn, hnn⟩ : ∃ nn, nn = (Zam (ZaC (ZaM n) h) (l.take j)).2.length := ⟨_, rfl⟩
          rw [← hnn] at hbox hown CD hnl
          have hMB := zh (hbel.alloc hbel.size (.cells #[.int .i64 t.kind, .int .i64 t.n, .string t.s, .slice sa t.args.length sc] 43))
          have HMK := zh (hmk.below ((zB _ _).alloc (zL _) (.cells #[.int .i64 t.kind, .int .i64 t.n, .string t.s, .slice sa t.args.length sc] 43)))
          have HBX := zh (Zaf hbox (.cells #[.int .i64 t.kind, .int .i64 t.n, .string t.s, .slice sa t.args.length sc] 43))
          have HEL := zh (Zao wr (.cells #[.int .i64 t.kind, .int .i64 t.n, .string t.s, .slice sa t.args.length sc] 43))
          have HOW := zh (OwnF.below hown ((zB _ _).alloc (zL _) (.cells #[.int .i64 t.kind, .int .i64 t.n, .string t.s, .slice sa t.args.length sc] 43)))
          have HRS := zh (Zaf hres (.cells #[.int .i64 t.kind, .int .i64 t.n, .string t.s, .slice sa t.args.length sc] 43))
          obtain ⟨ee, hee⟩ : ∃ ee, ee = wr.heap.size := ⟨_, rfl⟩
          have hsz0 : ee < (wr.alloc (.cells #[.int .i64 t.kind, .int .i64 t.n, .string t.s, .slice sa t.args.length sc] 43)).heap.size := by rw [hee]; simp
          have heg : gb < ee := by omega
          have hgg := Zag hmk.box
          have heg2 : g < ee := by omega
          have hew : w.heap.size ≤ ee := by omega
          rw [← hee] at HEL
          have HOWB := zh (fun b (hb : Zai (.slice na nn nc) = some b) => hown.lt b hb)
          have HCWB := zh (fun b (hb : Zai cv = some b) => hmk.own.lt b hb)
          have HEE := zh hee
          have hbl : (Zam (ZaC (ZaM n) h) (l.take j)).1.length + 1 + 2 * t.nodes ≤ 4194304 := by omega
          clear hr ht hbel hmk hbox hown hres hbnd hgsl hnn
          go_wp2_with fail
          clear d0 d1 d2 d3
          rw [← HEE.o]
          clear hee
          generalize wr.alloc (.cells #[.int .i64 t.kind, .int .i64 t.n, .string t.s, .slice sa t.args.length sc] 43) = wa at hMB HMK HBX HEL HOW HRS hsz0 HR ⊢
          have hW1 : wa.drew.heap[gb]? = some (.cells #[.slice none 0 0, .int .i64 (n : Int), .int .i64 (n : Int), .slice na nn nc] 61 (0, 0)) ∧ wa.drew.heap[ee]? = some (.cells #[.int .i64 t.kind, .int .i64 t.n, .string t.s, .slice sa t.args.length sc] 43 (0, 0)) := ⟨HBX.o, HEL.o⟩
          refine Zav (F := fun k w' => k = 1 ∨ k = 3 → (w'.heap[gb]? = some (.cells #[.slice none 0 0, .int .i64 (n : Int), .int .i64 (n : Int), .slice na nn nc] 61 (0, 0)) ∧ w'.heap[ee]? = some (.cells #[.int .i64 t.kind, .int .i64 t.n, .string t.s, .slice sa t.args.length sc] 43 (0, 0)))) (by kernel_rfl) ?_
          refine ZaE (i := 0) (v := ?_) rfl (Or.inl ⟨by rfl, ?_⟩) (fun _ => hW1) ?_
          rotate_left
          · (intro w' hw; clear hw; go_simp <;> with_reducible rfl)
          simp only [zP]
          refine ZaE (i := 1) (v := ?_) rfl (Or.inl ⟨by rfl, ?_⟩) (fun _ => hW1) ?_
          rotate_left
          · (intro w' hw; obtain ⟨q0, q1, q2, q3, qf⟩ := Za0 (hw (by omega)).1; go_simp <;> with_reducible rfl)
          simp only [zP]
          refine ZaE (i := 2) (v := ?_) rfl (Or.inl ⟨by rfl, ?_⟩) (fun _ => hW1) ?_
          rotate_left
          · (intro w' hw; clear hw; go_simp <;> with_reducible rfl)
          simp only [zP]
          refine ZaE (i := 3) (v := ?_) rfl (Or.inl ⟨by rfl, ?_⟩) (fun _ => hW1) ?_
          rotate_left
          · (intro w' hw; obtain ⟨q0, q1, q2, q3, qf⟩ := Za0 (hw (by omega)).2; go_simp <;> with_reducible rfl)
          simp only [zP]
          refine Zab (i := 4) (by kernel_rfl) (Zad rfl (by rfl) ?_)
          go_simp
          refine (Zff t g (g + 1) (Zam (ZaC (ZaM n) h) (l.take j)).1 cv (fun b => b < w.heap.size) wa.drew [_, _, _, _] (HMK.o.below (zB _ _).drew) hbl (Tm.rep_lasts.1 _ _ _ _ _ HR.o (Keeps.drew _ _)) (fun b hb => ⟨by have hb' : b < w.heap.size := hb; have := hMB.out.size; simp; omega, fun e => by
            have hb' : b < w.heap.size := hb
            rcases e with e | e
            · omega
            · have := (HCWB.o b e).1; omega⟩)).mono ?_
          rintro e w2 ⟨rfl, cv2, hm2, hc2, ho2⟩
          have ngb : ¬ MkM g cv gb := fun e => by
            rcases e with e | e
            · exact hne1 e
            · exact OwnF.ne_box HMK.o.own HBX.o (by decide) e
          have nee : ¬ MkM g cv ee := fun e => by
            rcases e with e | e
            · omega
            · have h1 := (HCWB.o _ e).2; have h2 := HEE.o; omega
          have nrb : ¬ MkM g cv rb := fun e => by
            rcases e with e | e
            · exact hne2 e
            · exact OwnF.ne_box HMK.o.own HRS.o (by decide) e
          have HB2 := zh (hMB.out.drew.trans (((Ch.refl _ _).trans hc2 (fun _ h => .inl h)).mono (M' := MkM g cv) (fun _ _ h => h) |> fun h => (show Below w.heap.size wa.drew w2 from ⟨h.os, h.tape, h.output, h.size, fun k hk => h.block k (by have := hMB.out.size; simp; omega) (fun e => by
            rcases e with e | e
            · omega
            · have := (HCWB.o k e).1; omega)⟩)))
          have HBX2 := zh ((hc2.block gb (by simpa using Zag HBX.o) ngb).trans (show wa.drew.heap[gb]? = _ from HBX.o))
          have HRS2 := zh ((hc2.block rb (by simpa using Zag HRS.o) nrb).trans (show wa.drew.heap[rb]? = _ from HRS.o))
          have HOW2 := zh (OwnF.kept HOW.o (w' := w2) (fun b hb => hc2.block b (by simpa using (HOW.o.lt b hb).2) (fun e => by
            rcases e with e | e
            · have := (HOW.o.lt b hb).1; omega
            · exact ZaS (by decide) HMK.o.own HOW.o b e hb)))
          have HM2 := zh hm2
          refine ⟨fun k hk hF h13 => ⟨(hc2.block gb (by simpa using Zag HBX.o) ngb).trans (hF h13).1, (hc2.block ee (by simpa using Zag HEL.o) nee).trans (hF h13).2⟩, ?_⟩
          clear hc2 ho2 hm2 ngb nee nrb hW1 HMK HBX HEL HOW HRS HOWB hMB HR
          try simp only [zP]
          refine Zab (i := 5) (by kernel_rfl) (Zad rfl (by rfl) ?_)
          go_simp
          refine ⟨fun k hk hF h13 => ⟨Zaf (hF h13).1 _, Zaf (hF h13).2 _⟩, ?_⟩
          refine Zab (i := 6) (by kernel_rfl) (Zad rfl (by rfl) ?_)
          have hz2 := HM2.o.base_le
          have hx2l : (Zam (ZaC (ZaM n) h) (l.take j)).1.length ≤ 4194304 := by omega
          refine ZbI (.tmp 30) (.tmp 34) 37 rfl (g + 1) 3 1 8 Za1 Zae (.slice na nn nc) (Zam (ZaC (ZaM n) h) (l.take j)).2 rfl (OwnF.ownR Zaw HOW2.o (fun _ => True)) ((Zam (ZaC (ZaM n) h) (l.take j)).1.length : Int) [(.int .i64 ((Zam (ZaC (ZaM n) h) (l.take j)).1.length : Int))] rfl rfl ⟨by unfold I64; omega, rfl⟩ ⟨by rw [Za2]; omega, hz2⟩ ?_
          intro v2 w4 hown2 hgrew
          have HO4 := zh (OwnF.of_ownR hown2)
          have HCW2 := HM2.o.own
          have hkc : ∀ b, Zai (.slice na nn nc) = some b → b ≠ gb ∧ b ≠ g ∧ b ≠ rb ∧ Zai cv2 ≠ some b := fun b hb => ⟨fun e => OwnF.ne_box HOW2.o HBX2.o (by decide) (e ▸ hb), fun e => OwnF.ne_box HOW2.o HM2.o.box (by decide) (e ▸ hb), fun e => OwnF.ne_box HOW2.o HRS2.o (by decide) (e ▸ hb), fun e => ZaS (by decide) HCW2 HOW2.o b e hb⟩
          have hgk : ∀ k, k < w2.heap.size → Zai (.slice na nn nc) ≠ some k → w4.heap[k]? = w2.heap[k]? := fun k hk hn => (hgrew.grown.block k (by simp; omega) (fun e => hn e.symm)).trans (Below.heap_alloc _ _ _ hk)
          have HBX4 := zh ((hgk gb (Zag HBX2.o) (fun e => (hkc _ e).1 rfl)).trans HBX2.o)
          have HRS4 := zh ((hgk rb (Zag HRS2.o) (fun e => (hkc _ e).2.2.1 rfl)).trans HRS2.o)
          have HMB4 := zh ((hgk g (Zag HM2.o.box) (fun e => (hkc _ e).2.1 rfl)).trans HM2.o.box)
          have HCW4 := zh (OwnF.kept HCW2 (w' := w4) (fun b hb => hgk b (HCW2.lt b hb).2 (fun e => (hkc b e).2.2.2 hb)))
          have hz4 := hgrew.size
          have HB4 := zh (hgrew.below (HB2.o.alloc HB2.o.size (.cells #[.int .i64 ((Zam (ZaC (ZaM n) h) (l.take j)).1.length : Int)] 3)) (by have := HB2.o.size; simp; omega) (fun b hb => by have := (HOW2.o.lt b hb).1; omega))
          refine ⟨fun k hk hF h13 => ⟨(hgrew.grown.block gb (by have := Zag HBX2.o; simp; omega) (fun e => (hkc _ e.symm).1 rfl)).trans (hF h13).1, (hgrew.grown.block ee (Zag (hF h13).2) (fun e => OwnF.ne_box (OwnF.below HOW2.o ((zB _ _).alloc (zL _) _)) (hF h13).2 (by decide) e.symm)).trans (hF h13).2⟩, ?_⟩
          obtain ⟨va2, vc2, hv2, -, -⟩ := OwnF.val HO4.o
          rw [List.length_append, List.length_singleton] at hv2
          subst hv2
          clear hown2 hgrew hgk hkc HCW2
          try simp only [zP]
          refine Zab (i := 7) (by kernel_rfl) (Zad rfl (by rfl) ?_)
          go_simp
          refine ⟨fun _ _ h => h, ?_⟩
          obtain ⟨y0, y1, y2, y3, yf⟩ := Za0 HBX4.o
          have hgb4 := Zag HBX4.o
          refine Zab (i := 8) (by kernel_rfl) (Zad rfl (by rfl) ?_)
          go_simp
          refine ⟨fun k hk _ h1 => ?_, Zan (by kernel_rfl) ?_ _⟩
          · rcases h1 with h1 | h1
            · subst h1; exact absurd (show waits _ 8 1 = true by kernel_rfl) (by rw [hk]; decide)
            · subst h1; exact absurd (show waits _ 8 3 = true by kernel_rfl) (by rw [hk]; decide)
          go_wp2_with fail
          go_roundw
          case rel =>
            have hgl : (Zam (ZaC (ZaM n) h) (l.take j)).2.length + 1 = ((Zam (ZaC (ZaM n) h) (l.take j)).2 ++ [((Zam (ZaC (ZaM n) h) (l.take j)).1.length : Int)]).length := by simp
            refine ⟨j + 1, cv2, .slice va2 ((Zam (ZaC (ZaM n) h) (l.take j)).2.length + 1) vc2, by omega, by go_num, ?_⟩
            rw [List.take_succ_eq_append_getElem HLT.o, ZdX, ← HT.o]
            refine ⟨HB4.o.setCell (by simp only; omega) _, ⟨?_, ?_, HM2.o.lt, HM2.o.len, ?_⟩, (Zal HBX4.o 3 _).trans rfl, ?_, ?_, hgw, hgbw, hne1, hne2, hne3⟩
            · rw [Below.heap_setCell _ _ _ _ (by simp only; exact fun e => hne1 e.symm)]; exact HMB4.o
            · exact OwnF.kept HCW4.o (fun b hb => Below.heap_setCell _ _ _ _ (by simp only; exact fun e => OwnF.ne_box HCW4.o HBX4.o (by decide) (e ▸ hb)))
            · have := Zag HMB4.o; simp; omega
            · exact OwnF.kept HO4.o (fun b hb => Below.heap_setCell _ _ _ _ (by simp only; exact fun e => OwnF.ne_box HO4.o HBX4.o (by decide) (e ▸ hb)))
            · rw [Below.heap_setCell _ _ _ _ (by simp only; exact hne3)]; exact HRS4.o
          case measure => first | (simp [intOf]; done) | (simp [intOf]; omega)
        · have hje : j = l.length := by omega
          subst hje
          have hlt' : ¬ ((l.length : Int) < (l.length : Int)) := by omega
          obtain ⟨ca, cc, rfl, hcl, hcm⟩ := OwnF.val hmk.own
          obtain ⟨m0, mf⟩ := ZjQ hmk.box
          obtain ⟨y0, y1, y2, y3, yf⟩ := Za0 hbox
          obtain ⟨r0, r1, r2, r3, rf⟩ := Za0 hres
          have hgg := Zag hmk.box
          have hrr := Zag hres
          clear hlt hbel hmk hbox hown hres hgsl
          rw [List.take_length] at CD
          have hxl : (Zam (ZaC (ZaM n) h) (l.take l.length)).1 = (Zam (ZaC (ZaM n) h) l).1 := by rw [List.take_length]
          have hgl : (Zam (ZaC (ZaM n) h) (l.take l.length)).2 = (Zam (ZaC (ZaM n) h) l).2 := by rw [List.take_length]
          rw [hxl] at m0 hcl
          rw [hgl] at y3 hnl
          clear hxl hgl
          obtain ⟨X, hX⟩ : ∃ X, X = Zam (ZaC (ZaM n) h) l := ⟨_, rfl⟩
          rw [← hX] at m0 hcl y3 hnl CD
          have HX := zh hX
          clear hX
          go_wp2_with fail
          have hch : Ch (fun b => b = gb ∨ b = rb) wr wr := Ch.refl _ _
          have HCH := (((((hch.setCell (p := ⟨gb, 0, none⟩) (.inl (.inl rfl)) (.slice ca X.1.length cc)).setCell (p := ⟨rb, 0, none⟩) (.inl (.inr rfl)) (.slice ca X.1.length cc)).setCell (p := ⟨rb, 1, none⟩) (.inl (.inr rfl)) (.int .i64 (n : Int))).setCell (p := ⟨rb, 2, none⟩) (.inl (.inr rfl)) (.int .i64 (n : Int))).setCell (p := ⟨rb, 3, none⟩) (.inl (.inr rfl)) (.slice na X.2.length nc))
          have hne3' : ¬ gb = rb := fun e => hne3 e.symm
          have c1 := CD.out.mkr.own
          have c2 := CD.out.own
          have c3 := CD.out.box
          have c4 := CD.out.res
          have hbF := Ch.below (Ch.trans (Ch.of_below (M := fun b => b = gb ∨ b = rb) CD.out.bel) HCH (fun _ h => .inl h)) (fun k hk e => by omega)
          refine bodyPost_ret (v := .tuple #[.agg #[.slice ca X.1.length cc, .int .i64 (n : Int), .int .i64 (n : Int), .slice na X.2.length nc], .int .i64 0]) (by simp [results, Try.results14, go_sem, hcs, r0, r1, r2, r3, y0, y1, y2, y3, hne3, hne3']; try rfl) rfl ?_
          rw [HQF.o]
          have hXl := HXL.o
          rw [← HX.o] at hXl
          refine Pure.mk hbF ⟨_, _, rfl, ?_, ?_⟩
          · show CesR _ _ (Zam (ZaC (ZaM n) h) l).1 _
            rw [← HX.o]
            exact OwnF.sl Ce.vals_len Ce.vals_one (OwnF.kept c1 (fun b hb => HCH.block b (c1.lt b hb).2 (fun e => by
              rcases e with e | e
              · exact OwnF.ne_box c1 c3 (by decide) (e ▸ hb)
              · exact OwnF.ne_box c1 c4 (by decide) (e ▸ hb)))) (by omega) (fun b hb => by have := (c1.lt b hb).1; unfold New; omega)
          · show Zbv _ _ (Zam (ZaC (ZaM n) h) l).2 _
            rw [← HX.o]
            have hl2 := Za2 l (ZaC (ZaM n) h)
            rw [← HX.o] at hl2
            exact OwnF.sl Zaw Zb4 (OwnF.kept c2 (fun b hb => HCH.block b (c2.lt b hb).2 (fun e => by
              rcases e with e | e
              · exact OwnF.ne_box c2 c3 (by decide) (e ▸ hb)
              · exact OwnF.ne_box c2 c4 (by decide) (e ▸ hb)))) (by omega) (fun b hb => by have := (c2.lt b hb).1; unfold New; omega)
end Go.Proofs.Ytlpmfkpefoegeac
