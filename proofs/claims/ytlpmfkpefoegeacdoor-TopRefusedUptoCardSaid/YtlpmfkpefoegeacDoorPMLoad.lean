import Derived.Test.YtlpmfkpefoegeacDoorQMaker
import Derived.StillTailTactics
import Derived.Test.YtlpmfkpefoegeacDoorPRead2
import Derived.Test.YtlpmfkpefoegeacDoorQTwo
import Derived.Test.YtlpmfkpefoegeacDoorQIsHeap
import Derived.Test.YtlpmfkpefoegeacDoorHLoad
import Derived.Test.YtlpmfkpefoegeacDoorPMMor
import Derived.Test.YtlpmfkpefoegeacDoorPSolve
namespace Go.Proofs.YtlpmfkpefoegeacDoor
set_option maxRecDepth 100000
set_option maxHeartbeats 16000000
set_option linter.all false
open Go.RowKit
def ZaH(c:List Ce)(t:Tm):List Ce:=if t.kind=3 then Zdb c t else Zcq (c++[⟨0,0,ByteArray.empty⟩]) c.length t
theorem Zdz{c:List Ce}{k:Nat}{t:Tm}(h:t.kind≠3):(Zcq c k t).length=c.length:=by
 obtain⟨kd,n,s,l⟩:=t;simp only[Tm.kind]at h;simp only[Zcq,if_neg h];repeat' split
 all_goals simp
theorem ZfJ(t:Tm)(g base:Nat)(l:List Ce)(cv:Value)(A:Nat->Prop)(w:World)(vs:List Value)(hm:MkI g base l cv w)(hlen:l.length+1+2*t.nodes<=4194304)(hv:Tm.rep A w t vs)(hA:∀b,A b->b<w.heap.size/\¬MkM g cv b):Calls Tryd.prog 70 #[.pointer (some ⟨g,0,none⟩),.agg vs.toArray] w (fun e w'=>e= .returned (.int .i64 (l.length:Int))/\MStep g base cv w (ZaH l t) w'):=by
 have HV:=zh hv;have HM:=zh hm;have HA:=zh hA;obtain⟨sa,sc,rfl, -⟩:=Tm.rep4 hv;obtain⟨ca,cc,rfl,hcc,hccm⟩:=OwnF.val hm.own;obtain⟨b0,bf⟩:=ZkZ hm.box;have hgs:=Zah hm.box;have hbw:=hm.base_le;have hgb:=hm.lt;have hcs:=Zap;have HOWB:=zh (fun b(hb:Zai (.slice ca l.length cc)=some b)=>hm.own.lt b hb);have HLEN:=zh hlen;have hll:l.length+1<=4194304:=by omega
 clear hv hA hlen;by_cases h3:t.kind=3;·have HP:=zh (show ZaH l t=Zdb l t by rw[ZaH,if_pos h3]);have HF:=zh (Znl t);clear hm;rw[h3]at HV ⊢;go_enter Tryd.func70,Tryd.ntmps70;go_wp2_with fail;refine(HF.o g base l (.slice ca l.length cc) A _ [_,_,_,_] (HM.o.below ((zB _ _).alloc (zL _) _)) (by have :=HLEN.o;omega) (Tm.rep_lasts.1 _ _ _ _ _ HV.o (Keeps.alloc _ _ _)) (fun b hb=>⟨by have :=(HA.o b hb).1;simp;omega,(HA.o b hb).2⟩)).mono ?_;rintro e w1⟨rfl,hst⟩;have HST:=zh (MStep.trans ((Ch.refl _ _).alloc _) (fun b hb=> .inl hb) hst);clear hst b0 bf;go_wp2_with fail;go_ret;exact⟨rfl,by rw[HP.o];exact HST.o⟩
 ·have HP:=zh (show ZaH l t=Zcq (l++[⟨0,0,ByteArray.empty⟩]) l.length t by rw[ZaH,if_neg h3]);have h3':(t.kind==3)=false:=by simpa using h3
  have HFL:=zh (Zdz (c:=l++[⟨0,0,ByteArray.empty⟩]) (k:=l.length) h3);have HBX:=zh (Zag (Zag hm.box (.cells #[.int .i64 t.kind,.int .i64 t.n,.string t.s,.slice sa t.args.length sc] 27)) (.cells #[.int .i64 0,.int .i64 0,.string ByteArray.empty] 112));have HTX:=zh (Zar w (.cells #[.int .i64 t.kind,.int .i64 t.n,.string t.s,.slice sa t.args.length sc] 27));have HOR:=zh (OwnF.ownR Ce.vals_len (OwnF.below hm.own ((zB _ _).alloc (zL _) (.cells #[.int .i64 t.kind,.int .i64 t.n,.string t.s,.slice sa t.args.length sc] 27))) (fun _=>True));clear h3 hm;go_enter Tryd.func70,Tryd.ntmps70;go_wp2_with(at_builtin;go_must(refine Zas rfl (.tmp 15) (.tmp 17) 80 rfl base 112 3 32 Zdn Ce.rep_lasts (A:=fun _=>True) (.slice ca l.length cc) l rfl HOR.o (⟨0,0,ByteArray.empty⟩:Ce) [.int .i64 0,.int .i64 0,.string ByteArray.empty] (by simp only[World.size_alloc];rfl) rfl ⟨⟨by unfold I64;simp only;omega,by unfold I64;simp only;omega,by decide⟩,rfl⟩ ⟨by omega,by simp;omega⟩ ?_);go_must(intro v2 w2 hown hgrew;have HO2:=zh (OwnF.of_ownR hown);obtain⟨va2,vc2,hv2,hvl2,hvm2⟩:=OwnF.val HO2.o;rw[List.length_append,List.length_singleton]at hv2;subst hv2;have HB2:=zh (show w2.heap[g]?=_ from(hgrew.grown.block g (by simp;omega) (fun e=>by have :=(HOWB.o _ e.symm).1;omega)).trans HBX.o);obtain⟨y0,yf⟩:=ZkZ HB2.o;have hgs2:=Zah HB2.o;have HG2:=zh hgrew;have hz2:=hgrew.size;clear hown hgrew b0 bf));have hst:=ZfI HM.o hll (Ch.refl (MkM g (.slice ca l.length cc)) (w.alloc (.cells #[.int .i64 t.kind,.int .i64 t.n,.string t.s,.slice sa t.args.length sc] 27))) (by simp) HO2.o HB2.o HG2.o;clear y0 yf hgs2 hz2 HO2 HB2 HG2 HBX HOR;generalize w2.setCell ⟨g,0,none⟩ (.slice va2 (l.length+1) vc2)=W1 at hst ⊢;obtain⟨cv1,hm1,hc1,ho1⟩:=hst;obtain⟨c1a,c1c,rfl,hl1,hm1c⟩:=OwnF.val hm1.own;have hl1l:(l++[(⟨0,0,ByteArray.empty⟩:Ce)]).length=l.length+1:=by simp
  rw[hl1l]at hl1 hm1 ho1;obtain⟨y0,yf⟩:=ZkZ hm1.box;have hgs1:=Zah hm1.box;obtain⟨x0,x1,x2,x3,xf⟩:=Zbo ((hc1.block w.heap.size (by simp) (fun e=>by
   rcases e with e|e;·omega
   ·have :=(HOWB.o _ e).2;omega)).trans HTX.o);have hxs:w.heap.size<W1.heap.size:=by have :=hc1.size;simp at this;omega
  have HM1:=zh hm1;have HC1:=zh hc1;have HO1:=zh ho1;have HK1:=zh (show Keeps A w W1 from(Keeps.alloc A w _).trans (hc1.keeps (A:=A) (fun b _ hb=>(HA.o b hb).2)));clear hm1 hc1 ho1;go_still_tail 8,(by kernel_rfl);change wpList _ _ _ _ _ W1.drew;have HPT:=zh (Zn8 t g base l.length (l++[(⟨0,0,ByteArray.empty⟩:Ce)]) (.slice c1a (l.length+1) c1c) A W1.drew [_,_,_,_] (HM1.o.below (zB _ _).drew) (by simp) (by have :=HLEN.o;simp;omega) (Tm.rep_lasts.1 _ _ _ _ _ (Tm.rep_lasts.1 _ _ _ _ _ HV.o HK1.o) (Keeps.drew _ _)) (fun b hb=>⟨by have :=(HA.o b hb).1;simp;omega,fun e=>by
   rcases e with e|e;·exact(HA.o b hb).2 (.inl e)
   ·rcases HO1.o b e with e|e;·exact(HA.o b hb).2 (.inr e)
    ·have :=(HA.o b hb).1;simp at e;omega⟩));have HC2:=zh (show Ch (MkM g (.slice ca l.length cc)) _ W1.drew from HC1.o.drew);generalize W1.drew=w4 at HPT HC2 ⊢;clear y0 yf x0 x1 x2 x3 xf;go_wp2_with fail;refine(HPT.o).mono ?_;rintro e w3⟨⟨v3,rfl⟩,hst3⟩;obtain⟨cv2,hm2,hc2,ho2⟩:=MStep.trans HC2.o HO1.o hst3;obtain⟨c2a,c2c,rfl,hl2,hm2c⟩:=OwnF.val hm2.own;have hf:=HFL.o;rw[hl1l]at hf;rw[hf]at hl2 hm2 ho2;have HS2:=zh (MStep.trans ((Ch.refl _ _).alloc _) (fun b hb=> .inl hb) ⟨_,hm2,hc2,ho2⟩);obtain⟨y0,yf⟩:=ZkZ hm2.box;have hgs2:=Zah hm2.box;clear hst3 hm2 hc2 ho2 hf;go_wp2_with fail;go_ret;exact⟨by simp,by rw[HP.o];exact HS2.o⟩
def ZaR(n:Nat):List Ce:=(List.range n).map fun(i:Nat)=>(⟨0,(i:Int),ByteArray.empty⟩:Ce)
theorem ZaQ(n:Nat):(ZaR n).length=n:=by simp[ZaR]
theorem ZlW(n:Nat):ZaR (n+1)=ZaR n++[⟨0,(n:Int),ByteArray.empty⟩]:=by simp[ZaR,List.range_succ]
theorem Zj4 (n : Nat) (hn : n ≤ 65536) (w : World) :
    Calls Tryd.prog 69 #[.int .i64 (n : Int)] w (fun e w' => ∃ cv, e = .returned (.pointer (some ⟨w.heap.size, 0, none⟩)) ∧ Below w.heap.size w w' ∧ MkI w.heap.size (w.heap.size + 1) (ZaR n) cv w') := by
  have hcs := Zap
  go_enter Tryd.func69, Tryd.ntmps69
  go_wp2_with fail
  have HX := zh (Zar w (.cells #[.slice none 0 0] 108))
  have HB := zh ((Below.refl _ w).alloc (zL _) (.cells #[.slice none 0 0] 108))
  obtain ⟨g, hg⟩ : ∃ g, g = w.heap.size := ⟨_, rfl⟩
  have HG := zh hg
  have hz0 : g < (w.alloc (.cells #[.slice none 0 0] 108)).heap.size := by rw [hg]; simp
  rw [← hg] at HX
  rw [← hg]
  clear hg
  go_loopw [8] (fun i W => ∃ (j : Nat) (cv : Value), j ≤ n ∧ i = .int .i64 (j : Int) ∧ Below w.heap.size w W ∧ MkI g (g + 1) (ZaR j) cv W) (fun i _ => n - (intOf i).toNat)
  case atStart => exact ⟨0, _, Nat.zero_le _, rfl, HB.o, HX.o, OwnF.nil, by omega, by simp [ZaR], by omega⟩
  case round =>
    obtain ⟨j, cv, hj, rfl, hb, hm⟩ := hrel
    have HBL := zh hb
    have HM := zh hm
    obtain ⟨ca, cc, rfl, hl1, hmc⟩ := OwnF.val hm.own
    rw [ZaQ] at hl1 hm HM
    obtain ⟨y0, yf⟩ := ZkZ hm.box
    have hgs := Zah hm.box
    have hbw := hm.base_le
    have HOWB := zh (fun b (hb : Zai (.slice ca j cc) = some b) => hm.own.lt b hb)
    have HOR := zh (OwnF.ownR Ce.vals_len hm.own (fun _ => True))
    have HBX := zh (Zag hm.box (.cells #[.int .i64 0, .int .i64 (j : Int), .string ByteArray.empty] 112))
    clear hb hm
    by_cases hlt : j < n
    · have hlt' : (j : Int) < (n : Int) := by omega
      have hl2 : (ZaR j).length < 4194304 := by rw [ZaQ]; omega
      go_wp2_with (at_builtin; go_must (refine Zas rfl (.tmp 15) (.tmp 18) 80 rfl (g + 1) 112 3 32 Zdn Ce.rep_lasts (A := fun _ => True) (.slice ca j cc) (ZaR j) rfl HOR.o (⟨0, (j : Int), ByteArray.empty⟩ : Ce) [.int .i64 0, .int .i64 (j : Int), .string ByteArray.empty] rfl rfl ⟨⟨by unfold I64; simp only; omega, by unfold I64; simp only; omega, (show ByteArray.empty.size ≤ 1048576 by decide)⟩, rfl⟩ ⟨hl2, hbw⟩ ?_); go_must (intro v2 w2 hown hgrew; have HO2 := zh (OwnF.of_ownR hown); obtain ⟨va2, vc2, hv2, hvl2, hvm2⟩ := OwnF.val HO2.o; rw [List.length_append, List.length_singleton, ZaQ] at hv2; subst hv2; have HB2 := zh (show w2.heap[g]? = _ from (hgrew.grown.block g (by simp; omega) (fun e => by have := (HOWB.o _ e.symm).1; omega)).trans HBX.o); obtain ⟨z0, zf⟩ := ZkZ HB2.o; have hgs2 := Zah HB2.o; have HG2 := zh hgrew; have hz2 := hgrew.size; clear hown hgrew y0 yf))
      go_roundw
      case rel =>
        obtain ⟨cv', h1, h2, h3⟩ := ZfI HM.o (by rw [ZaQ]; omega) (Ch.refl _ _) (zL _) HO2.o HB2.o HG2.o
        refine ⟨j + 1, cv', by omega, by go_num, ?_, by rw [ZlW]; exact h1⟩
        refine ((Ch.of_below (M := fun _ => False) HBL.o).trans h2 (fun b hb => .inr ?_)).below (fun _ _ h => h)
        have hgw := HG.o
        rcases hb with rfl | hb
        · omega
        · have := (HOWB.o b hb).1; omega
      case measure => first | (simp [intOf]; done) | (simp [intOf]; omega)
    · have hje : j = n := by omega
      subst hje
      have hlt' : ¬ ((j : Int) < (j : Int)) := by omega
      clear hlt
      go_wp2_with fail
      go_ret
      have hm := HM.o
      rw [HG.o] at hm
      exact ⟨by rw [← HG.o]; rfl, HBL.o, _, hm⟩
def Zak:List Ce->List Tm->List Ce×List Int|c,[]=>(c,[])|c,t::r=>((Zak (ZaH c t) r).1,(c.length:Int)::(Zak (ZaH c t) r).2)
theorem Zej:∀(l:List Tm)(c:List Ce)(t:Tm),Zak c (l++[t])=(ZaH (Zak c l).1 t,(Zak c l).2++[((Zak c l).1.length:Int)])|[],c,t=>by simp[Zak]|x::r,c,t=>by simp only[List.cons_append,Zak,Zej r]
theorem Za9:∀(l:List Tm)(c:List Ce),(Zak c l).2.length=l.length|[],c=>rfl|x::r,c=>by simp only[Zak,List.length_cons,Za9 r]
theorem ZdA(t:Tm)(c:List Ce):c.length<=(ZaH c t).length/\(ZaH c t).length<=c.length+2*t.nodes:=by
 have hn:1<=t.nodes:=by cases t;simp only[Tm.nodes];omega
 unfold ZaH;split;·obtain⟨k,n,s,l⟩:=t;have h1:=ZbE l (c++⟨3,(l.length:Int),s⟩::List.replicate l.length ⟨0,0,ByteArray.empty⟩) (c.length+1);simp only[List.length_append,List.length_cons,List.length_replicate]at h1;simp only[Zdb,Tm.nodes];omega
 ·rename_i h;rw[Zdz h];simp;omega
theorem ZbA:∀(l:List Tm)(c:List Ce),c.length<=(Zak c l).1.length/\(Zak c l).1.length<=c.length+2*Tm.nodesL l|[],c=>by simp[Zak,Tm.nodesL]|x::r,c=>by simp only[Zak,Tm.nodesL];have h1:=ZdA x c;have h2:=ZbA r (ZaH c x);omega
theorem Zii(c:List Ce)(l:List Tm)(j:Nat)(hj:j<l.length):(Zak c (l.take j)).1.length+2*l[j].nodes<=c.length+2*Tm.nodesL l:=by have h1:=ZbA (l.take j) c;have h2:=Zgi l j hj;omega
theorem ZdB:∀(l:List Tm),(∀g∈l,g.nodes<=24)->Tm.nodesL l<=24*l.length|[],_=>by simp[Tm.nodesL]|x::r,h=>by simp only[Tm.nodesL,List.length_cons];have h1:=h x (List.mem_cons_self ..);have h2:=ZdB r (fun g hg=>h g (List.mem_cons_of_mem _ hg));omega
structure Bk where
  cells : List Ce
  vars : Int
  head : Int
  goals : List Int
def Zay(l:List Tm)(v:Int):Bk:=⟨(Zak (ZaR v.toNat) l).1,v, -1,(Zak (ZaR v.toNat) l).2⟩
def Zaf(c:Cl):Bk:=⟨(Zak (ZaH (ZaR c.vars.toNat) c.head) c.body).1,c.vars,(c.vars.toNat:Int),(Zak (ZaH (ZaR c.vars.toNat) c.head) c.body).2⟩
def bk0:Bk:=⟨[],0,0,[]⟩
noncomputable def Zgj(l:List Tm)(v:Int):Bk×Int:=open Classical in if ZbQ l v then(Zay l v,0)else(bk0,1)
noncomputable def Zek(c:Cl):Bk×Int:=open Classical in if c.Good then(Zaf c,0)else(bk0,1)
def Zn9(A:Nat->Prop)(x:Bk×Int)(r:Value)(w':World):Prop:=∃cv gv,r= .tuple #[.agg #[cv,.int .i64 x.1.vars,.int .i64 x.1.head,gv],.int .i64 x.2]/\CesR A w' x.1.cells cv/\ZbB A w' x.1.goals gv
structure CdI (w : World) (g gb rb : Nat) (x : List Ce) (gs : List Int) (v hd : Int) (cv gv : Value) (W : World) : Prop where
  bel : Below w.heap.size w W
  mkr : MkI g (g + 1) x cv W
  box : W.heap[gb]? = some (.cells #[.slice none 0 0, .int .i64 v, .int .i64 hd, gv] 88 (0, 0))
  own : OwnN W (g + 1) gs gv
  res : W.heap[rb]? = some (.cells #[.slice none 0 0, .int .i64 0, .int .i64 0, .slice none 0 0] 88 (0, 0))
  gw : w.heap.size ≤ g
  gbw : w.heap.size ≤ gb
  ne1 : gb ≠ g
  ne2 : rb ≠ g
  ne3 : rb ≠ gb
theorem Znm (l : List Tm) (v : Int) (hi : I64 v) (hnd : Tm.nodesL l ≤ 1099511627776) (w : World) (u : Value) (hu : TmsR (fun b => b < w.heap.size) w l u) :
    Calls Tryd.prog 55 #[u, .int .i64 v] w (Pure w (Zn9 (New w) (Zgj l v))) := by
  have hcs := Zap
  have HGQ := zh (fun (W : World) (h : Below w.heap.size w W) => ZcI l v hnd hi (fun b => b < w.heap.size) W u (SlR.keeps Tm.rep_lasts hu (Keeps.ob h)))
  obtain ⟨a, cap, b, off, rfl, hlc, hcm, hlb, ha, he⟩ := hu.at
  have HE := zh he
  have HTA := zh ha
  have TREP := zh (show ∀ t ∈ l, ∀ (W : World), Keeps (fun b => b < w.heap.size) w W → ∀ {us}, Tm.rep (fun b => b < w.heap.size) W t us → Tm.rep (fun b => b < w.heap.size) W t us from fun _ _ _ _ _ h => h)
  clear hu ha he
  go_enter Tryd.func55, Tryd.ntmps55
  go_wp2_with fail
  have HRS0 := zh (Zar w (.cells #[.slice none 0 0, .int .i64 0, .int .i64 0, .slice none 0 0] 88))
  have HB0 := zh ((Below.refl _ w).alloc (zL _) (.cells #[.slice none 0 0, .int .i64 0, .int .i64 0, .slice none 0 0] 88))
  refine (HGQ.o _ HB0.o).mono ?_
  rintro e w1 ⟨r, rfl, hb1, q, rfl, hq⟩
  have HB1 := zh (HB0.o.trans (hb1.mono HB0.o.size))
  have HRS1 := zh (Zad HRS0.o hb1)
  clear hb1 HB0 HRS0
  obtain ⟨rb, hrb⟩ : ∃ rb, rb = w.heap.size := ⟨_, rfl⟩
  have HRB := zh hrb
  have hrw : rb < w1.heap.size := by rw [hrb]; exact Zah HRS1.o
  have hrw0 : w.heap.size ≤ rb := by omega
  rw [← hrb] at HRS1
  obtain ⟨r0, r1, r2, r3, rf⟩ := Zbo HRS1.o
  rw [← hrb]
  clear hrb
  cases q with
  | false =>
    have hng : ¬ ZbQ l v := fun h => by have := hq.2 h; cases this
    have HQF := zh (show Zgj l v = (bk0, 1) by rw [Zgj, if_neg hng])
    clear hng hq
    go_wp2_with fail
    refine bodyPost_ret (v := .tuple #[.agg #[.slice none 0 0, .int .i64 0, .int .i64 0, .slice none 0 0], .int .i64 1]) (by simp [results, Tryd.results55, go_sem, hcs, r0, r1, r2, r3]; try rfl) rfl ?_
    rw [HQF.o]
    exact Pure.mk (Below.setCell (Below.setCell (Below.setCell (Below.setCell HB1.o (by simp only; omega) _) (by simp only; omega) _) (by simp only; omega) _) (by simp only; omega) _) ⟨_, _, rfl, SlR.nil .., SlR.nil ..⟩
  | true =>
    have hgq : ZbQ l v := hq.1 rfl
    have HQF := zh (show Zgj l v = (Zay l v, 0) by rw [Zgj, if_pos hgq])
    obtain ⟨v0, v8, l5, lg⟩ := hgq
    have hnd2 := ZdB l (fun g hg => (lg g hg).2.2)
    clear lg hnd
    obtain ⟨n, rfl⟩ := Int.eq_ofNat_of_zero_le v0
    clear hq
    go_wp2_with fail
    refine (Zj4 n (by omega) w1).mono ?_
    rintro e w2 ⟨cv0, rfl, hb2, hm2⟩
    have HB2 := zh (HB1.o.trans (hb2.mono HB1.o.size))
    have HRS2 := zh (Zad HRS1.o hb2)
    have HM2 := zh hm2
    have hz2 := Zah hm2.box
    have hz1 := HB1.o.size
    clear hb2 hm2 r0 r1 r2 r3 rf
    obtain ⟨g, hg⟩ : ∃ g, g = w1.heap.size := ⟨_, rfl⟩
    rw [← hg] at HM2 hz2 ⊢
    have hgr : rb < g := by omega
    have hgw : w.heap.size ≤ g := by omega
    clear hg
    go_wp2_with fail
    have CD0 := zh (show CdI w g w2.heap.size rb (Zak (ZaR n) (l.take 0)).1 (Zak (ZaR n) (l.take 0)).2 (n : Int) (-1) cv0 (.slice none 0 0) (w2.alloc (.cells #[.slice none 0 0, .int .i64 (n : Int), .int .i64 (-1), .slice none 0 0] 88)) from
      ⟨HB2.o.alloc HB2.o.size _, HM2.o.below ((zB _ _).alloc (zL _) _), Zar _ _, OwnF.nil, Zag HRS2.o _, hgw, HB2.o.size, by omega, by omega, by have := Zah HRS2.o; omega⟩)
    have hblen : (ZaR n).length ≤ 8 := by rw [ZaQ]; omega
    have HXL := zh (show (Zak (ZaR n) l).1.length ≤ 1048576 by have := ZbA l (ZaR n); omega)
    obtain ⟨gb, hgb⟩ : ∃ gb, gb = w2.heap.size := ⟨_, rfl⟩
    rw [← hgb] at CD0 ⊢
    clear hgb HB1 HB2 HRS1 HRS2 HM2
    go_loopw [21] (fun i W => ∃ (j : Nat) (cv gv : Value), j ≤ l.length ∧ i = .int .i64 (j : Int) ∧ CdI w g gb rb (Zak (ZaR n) (l.take j)).1 (Zak (ZaR n) (l.take j)).2 (n : Int) (-1) cv gv W) (fun i _ => l.length - (intOf i).toNat)
    case atStart => exact ⟨0, _, _, Nat.zero_le _, rfl, CD0.out⟩
    case round =>
      obtain ⟨j, cv, gv, hj, rfl, hcd⟩ := hrel
      have CD := zh hcd
      obtain ⟨hbel, hmk, hbox, hown, hres, hgw, hgbw, hne1, hne2, hne3⟩ := hcd
      have hzb := hbel.size
      have hgb := Zah hbox
      obtain ⟨na, nc, rfl, hnl, hnm⟩ := OwnF.val hown
      have hgsl : (Zak (ZaR n) (l.take j)).2.length = (l.take j).length := Za9 _ _
      have hll : (l.take j).length ≤ l.length := by rw [List.length_take]; omega
      by_cases hlt : j < l.length
      · obtain ⟨rfl, hAb⟩ := HTA.o (by omega)
        obtain ⟨sa, sc, d0, d1, d2, d3, hr⟩ := ZbD HE.o hAb (Keeps.ob hbel) hlt
        have hlt' : (j : Int) < (l.length : Int) := by omega
        have hj0 : (0 : Int) ≤ (j : Int) := zN _
        obtain ⟨t, ht⟩ : ∃ t, t = l[j]'hlt := ⟨_, rfl⟩
        rw [← ht] at d0 d1 d2 d3 hr
        have HT := zh ht
        have HLT := zh hlt
        have hbnd := Zii (ZaR n) l j hlt
        rw [← ht] at hbnd
        have HR := zh (show Tm.rep (fun b => b < w.heap.size) _ t _ from Tm.rep_lasts.1 _ _ _ _ _ (TREP.out t (by rw [ht]; exact List.getElem_mem _) _ (Keeps.ob hbel) hr) (Keeps.alloc _ _ (.cells #[.int .i64 t.kind, .int .i64 t.n, .string t.s, .slice sa t.args.length sc] 27)))
        obtain ⟨nn, hnn⟩ : ∃ nn, nn = (Zak (ZaR n) (l.take j)).2.length := ⟨_, rfl⟩
        rw [← hnn] at hbox hown CD hnl
        have hMB := zh (hbel.alloc hbel.size (.cells #[.int .i64 t.kind, .int .i64 t.n, .string t.s, .slice sa t.args.length sc] 27))
        have HMK := zh (hmk.below ((zB _ _).alloc (zL _) (.cells #[.int .i64 t.kind, .int .i64 t.n, .string t.s, .slice sa t.args.length sc] 27)))
        have HBX := zh (Zag hbox (.cells #[.int .i64 t.kind, .int .i64 t.n, .string t.s, .slice sa t.args.length sc] 27))
        have HEL := zh (Zar wr (.cells #[.int .i64 t.kind, .int .i64 t.n, .string t.s, .slice sa t.args.length sc] 27))
        have HOW := zh (OwnF.below hown ((zB _ _).alloc (zL _) (.cells #[.int .i64 t.kind, .int .i64 t.n, .string t.s, .slice sa t.args.length sc] 27)))
        have HRS := zh (Zag hres (.cells #[.int .i64 t.kind, .int .i64 t.n, .string t.s, .slice sa t.args.length sc] 27))
        obtain ⟨ee, hee⟩ : ∃ ee, ee = wr.heap.size := ⟨_, rfl⟩
        have hsz0 : ee < (wr.alloc (.cells #[.int .i64 t.kind, .int .i64 t.n, .string t.s, .slice sa t.args.length sc] 27)).heap.size := by rw [hee]; simp
        have heg : gb < ee := by omega
        have hgg := Zah hmk.box
        have heg2 : g < ee := by omega
        have hew : w.heap.size ≤ ee := by omega
        rw [← hee] at HEL
        have HOWB := zh (fun b (hb : Zai (.slice na nn nc) = some b) => hown.lt b hb)
        have HCWB := zh (fun b (hb : Zai cv = some b) => hmk.own.lt b hb)
        have HEE := zh hee
        have hbl : (Zak (ZaR n) (l.take j)).1.length + 1 + 2 * t.nodes ≤ 4194304 := by omega
        clear hr ht hbel hmk hbox hown hres hbnd hgsl hnn
        go_wp2_with fail
        clear d0 d1 d2 d3
        rw [← HEE.o]
        clear hee
        generalize wr.alloc (.cells #[.int .i64 t.kind, .int .i64 t.n, .string t.s, .slice sa t.args.length sc] 27) = wa at hMB HMK HBX HEL HOW HRS hsz0 HR ⊢
        have hW1 : wa.drew.heap[gb]? = some (.cells #[.slice none 0 0, .int .i64 (n : Int), .int .i64 (-1), .slice na nn nc] 88 (0, 0)) ∧ wa.drew.heap[ee]? = some (.cells #[.int .i64 t.kind, .int .i64 t.n, .string t.s, .slice sa t.args.length sc] 27 (0, 0)) := ⟨HBX.o, HEL.o⟩
        refine ZaF (F := fun k w' => k = 1 ∨ k = 3 → (w'.heap[gb]? = some (.cells #[.slice none 0 0, .int .i64 (n : Int), .int .i64 (-1), .slice na nn nc] 88 (0, 0)) ∧ w'.heap[ee]? = some (.cells #[.int .i64 t.kind, .int .i64 t.n, .string t.s, .slice sa t.args.length sc] 27 (0, 0)))) (by kernel_rfl) ?_
        refine ZaO (i := 0) (v := ?_) rfl (Or.inl ⟨by rfl, ?_⟩) (fun _ => hW1) ?_
        rotate_left
        · (intro w' hw; clear hw; go_simp <;> with_reducible rfl)
        simp only [zP]
        refine ZaO (i := 1) (v := ?_) rfl (Or.inl ⟨by rfl, ?_⟩) (fun _ => hW1) ?_
        rotate_left
        · (intro w' hw; obtain ⟨q0, q1, q2, q3, qf⟩ := Zbo (hw (by omega)).1; go_simp <;> with_reducible rfl)
        simp only [zP]
        refine ZaO (i := 2) (v := ?_) rfl (Or.inl ⟨by rfl, ?_⟩) (fun _ => hW1) ?_
        rotate_left
        · (intro w' hw; clear hw; go_simp <;> with_reducible rfl)
        simp only [zP]
        refine ZaO (i := 3) (v := ?_) rfl (Or.inl ⟨by rfl, ?_⟩) (fun _ => hW1) ?_
        rotate_left
        · (intro w' hw; obtain ⟨q0, q1, q2, q3, qf⟩ := Zbo (hw (by omega)).2; go_simp <;> with_reducible rfl)
        simp only [zP]
        refine Zac (i := 4) (by kernel_rfl) (Zae rfl (by rfl) ?_)
        go_simp
        refine (ZfJ t g (g + 1) (Zak (ZaR n) (l.take j)).1 cv (fun b => b < w.heap.size) wa.drew [_, _, _, _] (HMK.o.below (zB _ _).drew) hbl (Tm.rep_lasts.1 _ _ _ _ _ HR.o (Keeps.drew _ _)) (fun b hb => ⟨by have hb' : b < w.heap.size := hb; have := hMB.out.size; simp; omega, fun e => by
          have hb' : b < w.heap.size := hb
          rcases e with e | e
          · omega
          · have := (HCWB.o b e).1; omega⟩)).mono ?_
        rintro e w2 ⟨rfl, cv2, hm2, hc2, ho2⟩
        have ngb : ¬ MkM g cv gb := fun e => by
          rcases e with e | e
          · exact hne1 e
          · exact OwnF.ne_box HMK.o.own HBX.o (by decide) e
        have nee : ¬ MkM g cv ee := fun e => by
          rcases e with e | e
          · omega
          · have h1 := (HCWB.o _ e).2; have h2 := HEE.o; omega
        have nrb : ¬ MkM g cv rb := fun e => by
          rcases e with e | e
          · exact hne2 e
          · exact OwnF.ne_box HMK.o.own HRS.o (by decide) e
        have HB2 := zh (hMB.out.drew.trans (((Ch.refl _ _).trans hc2 (fun _ h => .inl h)).mono (M' := MkM g cv) (fun _ _ h => h) |> fun h => (show Below w.heap.size wa.drew w2 from ⟨h.os, h.tape, h.output, h.size, fun k hk => h.block k (by have := hMB.out.size; simp; omega) (fun e => by
          rcases e with e | e
          · omega
          · have := (HCWB.o k e).1; omega)⟩)))
        have HBX2 := zh ((hc2.block gb (by simpa using Zah HBX.o) ngb).trans (show wa.drew.heap[gb]? = _ from HBX.o))
        have HRS2 := zh ((hc2.block rb (by simpa using Zah HRS.o) nrb).trans (show wa.drew.heap[rb]? = _ from HRS.o))
        have HOW2 := zh (OwnF.kept HOW.o (w' := w2) (fun b hb => hc2.block b (by simpa using (HOW.o.lt b hb).2) (fun e => by
          rcases e with e | e
          · have := (HOW.o.lt b hb).1; omega
          · exact Za0 (by decide) HMK.o.own HOW.o b e hb)))
        have HM2 := zh hm2
        refine ⟨fun k hk hF h13 => ⟨(hc2.block gb (by simpa using Zah HBX.o) ngb).trans (hF h13).1, (hc2.block ee (by simpa using Zah HEL.o) nee).trans (hF h13).2⟩, ?_⟩
        clear hc2 ho2 hm2 ngb nee nrb hW1 HMK HBX HEL HOW HRS HOWB hMB HR
        try simp only [zP]
        refine Zac (i := 5) (by kernel_rfl) (Zae rfl (by rfl) ?_)
        go_simp
        refine ⟨fun k hk hF h13 => ⟨Zag (hF h13).1 _, Zag (hF h13).2 _⟩, ?_⟩
        refine Zac (i := 6) (by kernel_rfl) (Zae rfl (by rfl) ?_)
        have hz2 := HM2.o.base_le
        have hx2l : (Zak (ZaR n) (l.take j)).1.length ≤ 4194304 := by omega
        refine Zce (.tmp 26) (.tmp 30) 43 rfl (g + 1) 3 1 8 Zbd Zab (.slice na nn nc) (Zak (ZaR n) (l.take j)).2 rfl (OwnF.ownR Zat HOW2.o (fun _ => True)) ((Zak (ZaR n) (l.take j)).1.length : Int) [(.int .i64 ((Zak (ZaR n) (l.take j)).1.length : Int))] rfl rfl ⟨by unfold I64; omega, rfl⟩ ⟨by rw [Za9]; omega, hz2⟩ ?_
        intro v2 w4 hown2 hgrew
        have HO4 := zh (OwnF.of_ownR hown2)
        have HCW2 := HM2.o.own
        have hkc : ∀ b, Zai (.slice na nn nc) = some b → b ≠ gb ∧ b ≠ g ∧ b ≠ rb ∧ Zai cv2 ≠ some b := fun b hb => ⟨fun e => OwnF.ne_box HOW2.o HBX2.o (by decide) (e ▸ hb), fun e => OwnF.ne_box HOW2.o HM2.o.box (by decide) (e ▸ hb), fun e => OwnF.ne_box HOW2.o HRS2.o (by decide) (e ▸ hb), fun e => Za0 (by decide) HCW2 HOW2.o b e hb⟩
        have hgk : ∀ k, k < w2.heap.size → Zai (.slice na nn nc) ≠ some k → w4.heap[k]? = w2.heap[k]? := fun k hk hn => (hgrew.grown.block k (by simp; omega) (fun e => hn e.symm)).trans (Below.heap_alloc _ _ _ hk)
        have HBX4 := zh ((hgk gb (Zah HBX2.o) (fun e => (hkc _ e).1 rfl)).trans HBX2.o)
        have HRS4 := zh ((hgk rb (Zah HRS2.o) (fun e => (hkc _ e).2.2.1 rfl)).trans HRS2.o)
        have HMB4 := zh ((hgk g (Zah HM2.o.box) (fun e => (hkc _ e).2.1 rfl)).trans HM2.o.box)
        have HCW4 := zh (OwnF.kept HCW2 (w' := w4) (fun b hb => hgk b (HCW2.lt b hb).2 (fun e => (hkc b e).2.2.2 hb)))
        have hz4 := hgrew.size
        have HB4 := zh (hgrew.below (HB2.o.alloc HB2.o.size (.cells #[.int .i64 ((Zak (ZaR n) (l.take j)).1.length : Int)] 3)) (by have := HB2.o.size; simp; omega) (fun b hb => by have := (HOW2.o.lt b hb).1; omega))
        refine ⟨fun k hk hF h13 => ⟨(hgrew.grown.block gb (by have := Zah HBX2.o; simp; omega) (fun e => (hkc _ e.symm).1 rfl)).trans (hF h13).1, (hgrew.grown.block ee (Zah (hF h13).2) (fun e => OwnF.ne_box (OwnF.below HOW2.o ((zB _ _).alloc (zL _) _)) (hF h13).2 (by decide) e.symm)).trans (hF h13).2⟩, ?_⟩
        obtain ⟨va2, vc2, hv2, -, -⟩ := OwnF.val HO4.o
        rw [List.length_append, List.length_singleton] at hv2
        subst hv2
        clear hown2 hgrew hgk hkc HCW2
        try simp only [zP]
        refine Zac (i := 7) (by kernel_rfl) (Zae rfl (by rfl) ?_)
        go_simp
        refine ⟨fun _ _ h => h, ?_⟩
        obtain ⟨y0, y1, y2, y3, yf⟩ := Zbo HBX4.o
        have hgb4 := Zah HBX4.o
        refine Zac (i := 8) (by kernel_rfl) (Zae rfl (by rfl) ?_)
        go_simp
        refine ⟨fun k hk _ h1 => ?_, Zau (by kernel_rfl) ?_ _⟩
        · rcases h1 with h1 | h1
          · subst h1; exact absurd (show waits _ 8 1 = true by kernel_rfl) (by rw [hk]; decide)
          · subst h1; exact absurd (show waits _ 8 3 = true by kernel_rfl) (by rw [hk]; decide)
        go_wp2_with fail
        go_roundw
        case rel =>
          have hgl : (Zak (ZaR n) (l.take j)).2.length + 1 = ((Zak (ZaR n) (l.take j)).2 ++ [((Zak (ZaR n) (l.take j)).1.length : Int)]).length := by simp
          refine ⟨j + 1, cv2, .slice va2 ((Zak (ZaR n) (l.take j)).2.length + 1) vc2, by omega, by go_num, ?_⟩
          rw [List.take_succ_eq_append_getElem HLT.o, Zej, ← HT.o]
          refine ⟨HB4.o.setCell (by simp only; omega) _, ⟨?_, ?_, HM2.o.lt, HM2.o.len, ?_⟩, (Zal HBX4.o 3 _).trans rfl, ?_, ?_, hgw, hgbw, hne1, hne2, hne3⟩
          · rw [Below.heap_setCell _ _ _ _ (by simp only; exact fun e => hne1 e.symm)]; exact HMB4.o
          · exact OwnF.kept HCW4.o (fun b hb => Below.heap_setCell _ _ _ _ (by simp only; exact fun e => OwnF.ne_box HCW4.o HBX4.o (by decide) (e ▸ hb)))
          · have := Zah HMB4.o; simp; omega
          · exact OwnF.kept HO4.o (fun b hb => Below.heap_setCell _ _ _ _ (by simp only; exact fun e => OwnF.ne_box HO4.o HBX4.o (by decide) (e ▸ hb)))
          · rw [Below.heap_setCell _ _ _ _ (by simp only; exact hne3)]; exact HRS4.o
        case measure => first | (simp [intOf]; done) | (simp [intOf]; omega)
      · have hje : j = l.length := by omega
        subst hje
        have hlt' : ¬ ((l.length : Int) < (l.length : Int)) := by omega
        obtain ⟨ca, cc, rfl, hcl, hcm⟩ := OwnF.val hmk.own
        obtain ⟨m0, mf⟩ := ZkZ hmk.box
        obtain ⟨y0, y1, y2, y3, yf⟩ := Zbo hbox
        obtain ⟨r0, r1, r2, r3, rf⟩ := Zbo hres
        have hgg := Zah hmk.box
        have hrr := Zah hres
        clear hlt hbel hmk hbox hown hres hgsl
        rw [List.take_length] at CD
        have hxl : (Zak (ZaR n) (l.take l.length)).1 = (Zak (ZaR n) l).1 := by rw [List.take_length]
        have hgl : (Zak (ZaR n) (l.take l.length)).2 = (Zak (ZaR n) l).2 := by rw [List.take_length]
        rw [hxl] at m0 hcl
        rw [hgl] at y3 hnl
        clear hxl hgl
        obtain ⟨X, hX⟩ : ∃ X, X = Zak (ZaR n) l := ⟨_, rfl⟩
        rw [← hX] at m0 hcl y3 hnl CD
        have HX := zh hX
        clear hX
        go_wp2_with fail
        have hch : Ch (fun b => b = gb ∨ b = rb) wr wr := Ch.refl _ _
        have HCH := (((((hch.setCell (p := ⟨gb, 0, none⟩) (.inl (.inl rfl)) (.slice ca X.1.length cc)).setCell (p := ⟨rb, 0, none⟩) (.inl (.inr rfl)) (.slice ca X.1.length cc)).setCell (p := ⟨rb, 1, none⟩) (.inl (.inr rfl)) (.int .i64 (n : Int))).setCell (p := ⟨rb, 2, none⟩) (.inl (.inr rfl)) (.int .i64 (-1))).setCell (p := ⟨rb, 3, none⟩) (.inl (.inr rfl)) (.slice na X.2.length nc))
        have hne3' : ¬ gb = rb := fun e => hne3 e.symm
        have c1 := CD.out.mkr.own
        have c2 := CD.out.own
        have c3 := CD.out.box
        have c4 := CD.out.res
        have hbF := Ch.below (Ch.trans (Ch.of_below (M := fun b => b = gb ∨ b = rb) CD.out.bel) HCH (fun _ h => .inl h)) (fun k hk e => by omega)
        refine bodyPost_ret (v := .tuple #[.agg #[.slice ca X.1.length cc, .int .i64 (n : Int), .int .i64 (-1), .slice na X.2.length nc], .int .i64 0]) (by simp [results, Tryd.results55, go_sem, hcs, r0, r1, r2, r3, y0, y1, y2, y3, hne3, hne3']; try rfl) rfl ?_
        rw [HQF.o]
        have hXl := HXL.o
        rw [← HX.o] at hXl
        refine Pure.mk hbF ⟨_, _, rfl, ?_, ?_⟩
        · show CesR _ _ (Zak (ZaR n) l).1 _
          rw [← HX.o]
          exact OwnF.sl Ce.vals_len Ce.vals_one (OwnF.kept c1 (fun b hb => HCH.block b (c1.lt b hb).2 (fun e => by
            rcases e with e | e
            · exact OwnF.ne_box c1 c3 (by decide) (e ▸ hb)
            · exact OwnF.ne_box c1 c4 (by decide) (e ▸ hb)))) (by omega) (fun b hb => by have := (c1.lt b hb).1; unfold New; omega)
        · show ZbB _ _ (Zak (ZaR n) l).2 _
          rw [← HX.o]
          have hl2 := Za9 l (ZaR n)
          rw [← HX.o] at hl2
          exact OwnF.sl Zat Zb7 (OwnF.kept c2 (fun b hb => HCH.block b (c2.lt b hb).2 (fun e => by
            rcases e with e | e
            · exact OwnF.ne_box c2 c3 (by decide) (e ▸ hb)
            · exact OwnF.ne_box c2 c4 (by decide) (e ▸ hb)))) (by omega) (fun b hb => by have := (c2.lt b hb).1; unfold New; omega)
theorem ZlX (c : Cl) (hnd : c.nodes ≤ 1099511627776) (w : World) (vs : List Value) (hc : Cl.rep (fun b => b < w.heap.size) w c vs) :
    Calls Tryd.prog 54 #[.agg vs.toArray] w (Pure w (Zn9 (New w) (Zek c))) := by
  have hcs := Zap
  have HGQ := zh (fun (W : World) (h : Below w.heap.size w W) => Zc1 c hnd (fun b => b < w.heap.size) W vs (Cl.rep_lasts.1 _ _ _ _ _ hc (Keeps.ob h)))
  obtain ⟨h, l, v⟩ := c
  obtain ⟨ha, hcp, a, cap, rfl, hh, hu, hi⟩ := hc
  simp only at hh hu hi
  obtain ⟨_, _, b, off, e, -, -, hlb, hta, he⟩ := hu.at
  simp only [Value.slice.injEq, true_and] at e
  obtain ⟨rfl, rfl⟩ := e
  have HE := zh he
  have HTA := zh hta
  have HHR := zh hh
  have TREP := zh (show ∀ t ∈ l, ∀ (W : World), Keeps (fun b => b < w.heap.size) w W → ∀ {us}, Tm.rep (fun b => b < w.heap.size) W t us → Tm.rep (fun b => b < w.heap.size) W t us from fun _ _ _ _ _ h => h)
  simp only [Cl.nodes] at hnd
  clear hu hta he hh
  go_enter Tryd.func54, Tryd.ntmps54
  go_wp2_with fail
  have h2 := Zdc w (.cells #[.int .i64 h.kind, .int .i64 h.n, .string h.s, .slice ha h.args.length hcp, .slice a l.length cap, .int .i64 v] 48) (.cells #[.slice none 0 0, .int .i64 0, .int .i64 0, .slice none 0 0] 88)
  have HPB0 := zh h2.1
  have HRS0 := zh h2.2
  have HB0 := zh (((Below.refl _ w).alloc (zL _) (.cells #[.int .i64 h.kind, .int .i64 h.n, .string h.s, .slice ha h.args.length hcp, .slice a l.length cap, .int .i64 v] 48)).alloc (by simp) (.cells #[.slice none 0 0, .int .i64 0, .int .i64 0, .slice none 0 0] 88))
  refine (HGQ.o _ HB0.o).mono ?_
  rintro e w1 ⟨r, rfl, hb1, q, rfl, hq⟩
  have HB1 := zh (HB0.o.trans (hb1.mono HB0.o.size))
  have HRS1 := zh (Zad HRS0.o hb1)
  have HPB1 := zh (Zad HPB0.o hb1)
  clear hb1 HB0 HRS0 HPB0 h2
  obtain ⟨rb, hrb⟩ : ∃ rb, rb = w.heap.size + 1 := ⟨_, rfl⟩
  obtain ⟨pb, hpb⟩ : ∃ pb, pb = w.heap.size := ⟨_, rfl⟩
  have HRB := zh hrb
  have hrw : rb < w1.heap.size := by rw [hrb]; exact Zah HRS1.o
  have hrw0 : w.heap.size ≤ rb := by omega
  have hpw : pb < w1.heap.size := by omega
  have hpr : ¬ rb = pb := by omega
  have hpw0 : w.heap.size ≤ pb := by omega
  rw [← hrb] at HRS1
  rw [← hpb] at HPB1
  obtain ⟨r0, r1, r2, r3, rf⟩ := Zbo HRS1.o
  rw [← hrb]
  rw [← hpb]
  clear hrb hpb
  cases q with
  | false =>
    have hng : ¬ (⟨h, l, v⟩ : Cl).Good := fun h => by have := hq.2 h; cases this
    have HQF := zh (show Zek ⟨h, l, v⟩ = (bk0, 1) by rw [Zek, if_neg hng])
    clear hng hq
    go_wp2_with fail
    refine bodyPost_ret (v := .tuple #[.agg #[.slice none 0 0, .int .i64 0, .int .i64 0, .slice none 0 0], .int .i64 1]) (by simp [results, Tryd.results54, go_sem, hcs, r0, r1, r2, r3]; try rfl) rfl ?_
    rw [HQF.o]
    exact Pure.mk (Below.setCell (Below.setCell (Below.setCell (Below.setCell HB1.o (by simp only; omega) _) (by simp only; omega) _) (by simp only; omega) _) (by simp only; omega) _) ⟨_, _, rfl, SlR.nil .., SlR.nil ..⟩
  | true =>
    have hgq : (⟨h, l, v⟩ : Cl).Good := hq.1 rfl
    have HQF := zh (show Zek ⟨h, l, v⟩ = (Zaf ⟨h, l, v⟩, 0) by rw [Zek, if_pos hgq])
    obtain ⟨⟨v0, v8, l5, lg⟩, -, hft, -⟩ := hgq
    simp only at v0 v8 l5 lg hft
    have hhn := hft.2
    obtain ⟨n, rfl⟩ := Int.eq_ofNat_of_zero_le v0
    have hnd2 := ZdB l (fun g hg => (lg g hg).2.2)
    clear lg hnd hq hft
    obtain ⟨x0, x1, x2, x3, x4, x5, xf⟩ := Zol HPB1.o
    go_wp2_with fail
    refine (Zj4 n (by omega) w1).mono ?_
    rintro e w2 ⟨cv0, rfl, hb2, hm2⟩
    have HB2 := zh (HB1.o.trans (hb2.mono HB1.o.size))
    have HRS2 := zh (Zad HRS1.o hb2)
    have HPB2 := zh (Zad HPB1.o hb2)
    have HM2 := zh hm2
    have hz2 := Zah hm2.box
    have hz1 := HB1.o.size
    clear hb2 hm2 r0 r1 r2 r3 rf x0 x1 x2 x3 x4 x5 xf
    obtain ⟨g, hg⟩ : ∃ g, g = w1.heap.size := ⟨_, rfl⟩
    rw [← hg] at HM2 hz2 ⊢
    have hgr : rb < g := by omega
    have hgp : pb < g := by omega
    have hgw : w.heap.size ≤ g := by omega
    clear hg HB1 HRS1 HPB1
    go_wp2_with fail
    go_cut [5] (fun u5 wr => ∃ (gb : Nat) (cv : Value), u5 = .pointer (some ⟨gb, 0, none⟩) ∧ CdI w g gb rb (Zak (ZaH (ZaR n) h) (l.take 0)).1 (Zak (ZaH (ZaR n) h) (l.take 0)).2 (n : Int) (n : Int) cv (.slice none 0 0) wr ∧ wr.heap[pb]? = some (.cells #[.int .i64 h.kind, .int .i64 h.n, .string h.s, .slice ha h.args.length hcp, .slice a l.length cap, .int .i64 (n : Int)] 48 (0, 0)))
    case first =>
      have hW1 : w2.drew.heap[pb]? = some (.cells #[.int .i64 h.kind, .int .i64 h.n, .string h.s, .slice ha h.args.length hcp, .slice a l.length cap, .int .i64 (n : Int)] 48 (0, 0)) := HPB2.o
      have HM3 := zh (HM2.o.below (zB _ _).drew)
      have HB3 := zh (HB2.o.drew)
      have HRS3 := zh (show w2.drew.heap[rb]? = _ from HRS2.o)
      have HPB3 := zh hW1
      refine ZaF (F := fun k w' => k = 1 ∨ k = 4 → w'.heap[pb]? = some (.cells #[.int .i64 h.kind, .int .i64 h.n, .string h.s, .slice ha h.args.length hcp, .slice a l.length cap, .int .i64 (n : Int)] 48 (0, 0))) (by kernel_rfl) ?_
      refine ZaO (i := 0) (v := ?_) rfl (Or.inl ⟨by rfl, ?_⟩) (fun _ => hW1) ?_
      rotate_left
      · (intro w' hw; clear hw; go_simp <;> with_reducible rfl)
      simp only [zP]
      refine ZaO (i := 1) (v := ?_) rfl (Or.inl ⟨by rfl, ?_⟩) (fun _ => hW1) ?_
      rotate_left
      · (intro w' hw; obtain ⟨q0, q1, q2, q3, q4, q5, qf⟩ := Zol (hw (by omega)); go_simp <;> with_reducible rfl)
      simp only [zP]
      refine ZaO (i := 2) (v := ?_) rfl (Or.inl ⟨by rfl, ?_⟩) (fun _ => hW1) ?_
      rotate_left
      · (intro w' hw; clear hw; go_simp <;> with_reducible rfl)
      simp only [zP]
      refine ZaO (i := 3) (v := ?_) rfl (Or.inl ⟨by rfl, ?_⟩) (fun _ => hW1) ?_
      rotate_left
      · (intro w' hw; clear hw; go_simp <;> with_reducible rfl)
      simp only [zP]
      refine ZaO (i := 4) (v := ?_) rfl (Or.inl ⟨by rfl, ?_⟩) (fun _ => hW1) ?_
      rotate_left
      · (intro w' hw; obtain ⟨q0, q1, q2, q3, q4, q5, qf⟩ := Zol (hw (by omega)); go_simp <;> with_reducible rfl)
      simp only [zP]
      clear HB2 HRS2 HPB2 HM2 hW1
      generalize w2.drew = w3 at HM3 HB3 HRS3 HPB3 ⊢
      refine Zcw (i := 5) (j := 7) (by kernel_rfl) (Zae rfl (by rfl) ?_) (Zae rfl (by rfl) ?_)
      · go_simp
        refine (ZfJ h g (g + 1) (ZaR n) cv0 (fun b => b < w.heap.size) w3 [_, _, _, _] HM3.o (by rw [ZaQ]; omega) (Tm.rep_lasts.1 _ _ _ _ _ HHR.o (Keeps.ob HB3.o)) (fun b hb => ⟨by have hb' : b < w.heap.size := hb; have := HB3.o.size; omega, fun e => by
          have hb' : b < w.heap.size := hb
          rcases e with e | e
          · omega
          · have := (HM3.o.own.lt b e).1; omega⟩)).mono ?_
        rintro e w5 ⟨rfl, cv2, hm5, hc5, ho5⟩
        have npb : ¬ MkM g cv0 pb := fun e => by
          rcases e with e | e
          · omega
          · exact OwnF.ne_box HM3.o.own HPB3.o (by decide) e
        have nrb : ¬ MkM g cv0 rb := fun e => by
          rcases e with e | e
          · omega
          · exact OwnF.ne_box HM3.o.own HRS3.o (by decide) e
        have HPB5 := zh ((hc5.block pb (Zah HPB3.o) npb).trans HPB3.o)
        have HRS5 := zh ((hc5.block rb (Zah HRS3.o) nrb).trans HRS3.o)
        have HB5 := zh (Ch.below (Ch.trans (Ch.of_below (M := MkM g cv0) HB3.o) hc5 (fun _ h => .inl h)) (fun k hk e => by
          rcases e with e | e
          · omega
          · have := (HM3.o.own.lt k e).1; omega))
        have HM5 := zh hm5
        rw [ZaQ]
        refine ⟨fun k hk hF h13 => (hc5.block pb (Zah HPB3.o) npb).trans (hF h13), ?_⟩
        clear npb nrb hc5 ho5 hm5
        try simp only [zP]
        refine ZaO (i := 6) (v := ?_) rfl (Or.inl ⟨by rfl, ?_⟩) (fun h => absurd h (by decide)) ?_
        rotate_left
        · (intro w' hw; clear hw; go_simp <;> with_reducible rfl)
        simp only [zP]
        refine Zac (i := 7) (by kernel_rfl) (Zae rfl (by rfl) ?_)
        go_simp
        refine ⟨fun k hk hF h13 => Zag (hF h13) _, ?_⟩
        have HGB := zh (Zar w5 (.cells #[.slice none 0 0, .int .i64 0, .int .i64 0, .slice none 0 0] 88))
        have HZB := zh ((Below.refl _ w5).alloc (zL _) (.cells #[.slice none 0 0, .int .i64 0, .int .i64 0, .slice none 0 0] 88))
        have HPZ := zh (Zag HPB5.o (.cells #[.slice none 0 0, .int .i64 0, .int .i64 0, .slice none 0 0] 88))
        obtain ⟨gb, hgb⟩ : ∃ gb, gb = w5.heap.size := ⟨_, rfl⟩
        rw [← hgb] at HGB ⊢
        have hg5 := Zah HM5.o.box
        have hr5 := Zah HRS5.o
        have hp5 := Zah HPB5.o
        have hb5 := HB5.o.size
        have hgbl := Zah HGB.o
        have HGE := zh hgb
        have q1 : g < gb := by omega
        have q2 : rb < gb := by omega
        have q3 : pb < gb := by omega
        have q4 : w.heap.size ≤ gb := by omega
        clear hgb
        generalize w5.alloc (.cells #[.slice none 0 0, .int .i64 0, .int .i64 0, .slice none 0 0] 88) = wz at HGB HZB HPZ hgbl ⊢
        obtain ⟨y0, y1, y2, y3, yf⟩ := Zbo HGB.o
        try simp only [zP]
        refine Zac (i := 8) (by kernel_rfl) (Zae rfl (by rfl) ?_)
        go_simp
        refine ⟨fun k hk _ h1 => ?_, Zau (by kernel_rfl) ?_ _⟩
        · rcases h1 with h1 | h1
          · subst h1; exact absurd (show waits _ 8 1 = true by kernel_rfl) (by rw [hk]; decide)
          · subst h1; exact absurd (show waits _ 8 4 = true by kernel_rfl) (by rw [hk]; decide)
        go_wp2_with fail
        go_meet
        have hBW : Below w5.heap.size w5 ((((wz.setCell ⟨gb, 0, none⟩ (.slice none 0 0)).setCell ⟨gb, 1, none⟩ (.int .i64 (n : Int))).setCell ⟨gb, 2, none⟩ (.int .i64 (n : Int))).setCell ⟨gb, 3, none⟩ (.slice none 0 0)) := by
          have := HGE.o
          exact Below.setCell (Below.setCell (Below.setCell (Below.setCell HZB.o (by simp only; omega) _) (by simp only; omega) _) (by simp only; omega) _) (by simp only; omega) _
        exact ⟨gb, cv2, rfl, ⟨HB5.o.trans (hBW.mono HB5.o.size), HM5.o.below hBW, (Zal (Zal (Zal (Zal HGB.o 0 _) 1 _) 2 _) 3 _).trans rfl, OwnF.nil, Zad HRS5.o hBW, hgw, q4, by omega, by omega, by omega⟩, Zad HPB5.o hBW⟩
      · go_simp
        refine ⟨fun k hk hF h13 => Zag (hF h13) _, ?_⟩
        have HGB := zh (Zar w3 (.cells #[.slice none 0 0, .int .i64 0, .int .i64 0, .slice none 0 0] 88))
        have HM4 := zh (HM3.o.below ((zB _ _).alloc (zL _) (.cells #[.slice none 0 0, .int .i64 0, .int .i64 0, .slice none 0 0] 88)))
        have HB4 := zh (HB3.o.alloc HB3.o.size (.cells #[.slice none 0 0, .int .i64 0, .int .i64 0, .slice none 0 0] 88))
        have HPB4 := zh (Zag HPB3.o (.cells #[.slice none 0 0, .int .i64 0, .int .i64 0, .slice none 0 0] 88))
        have HRS4 := zh (Zag HRS3.o (.cells #[.slice none 0 0, .int .i64 0, .int .i64 0, .slice none 0 0] 88))
        obtain ⟨gb, hgb⟩ : ∃ gb, gb = w3.heap.size := ⟨_, rfl⟩
        rw [← hgb] at HGB ⊢
        have hg5 := Zah HM3.o.box
        have hr5 := Zah HRS3.o
        have hp5 := Zah HPB3.o
        have hb5 := HB3.o.size
        have hown3 := zh (fun b (hb : Zai cv0 = some b) => (HM3.o.own.lt b hb).2)
        have HGE := zh hgb
        have q1 : g < gb := by omega
        have q2 : rb < gb := by omega
        have q3 : pb < gb := by omega
        have q4 : w.heap.size ≤ gb := by omega
        clear hgb
        generalize w3.alloc (.cells #[.slice none 0 0, .int .i64 0, .int .i64 0, .slice none 0 0] 88) = wz at HGB HM4 HB4 HPB4 HRS4 ⊢
        try simp only [zP]
        refine Zac (i := 5) (by kernel_rfl) (Zae rfl (by rfl) ?_)
        go_simp
        refine (ZfJ h g (g + 1) (ZaR n) cv0 (fun b => b < w.heap.size) wz [_, _, _, _] HM4.o (by rw [ZaQ]; omega) (Tm.rep_lasts.1 _ _ _ _ _ HHR.o (Keeps.ob HB4.o)) (fun b hb => ⟨by have hb' : b < w.heap.size := hb; have := HB4.o.size; omega, fun e => by
          have hb' : b < w.heap.size := hb
          rcases e with e | e
          · omega
          · have := (HM4.o.own.lt b e).1; omega⟩)).mono ?_
        rintro e w5 ⟨rfl, cv2, hm5, hc5, ho5⟩
        have npb : ¬ MkM g cv0 pb := fun e => by
          rcases e with e | e
          · omega
          · exact OwnF.ne_box HM4.o.own HPB4.o (by decide) e
        have nrb : ¬ MkM g cv0 rb := fun e => by
          rcases e with e | e
          · omega
          · exact OwnF.ne_box HM4.o.own HRS4.o (by decide) e
        have HPB5 := zh ((hc5.block pb (Zah HPB4.o) npb).trans HPB4.o)
        have HRS5 := zh ((hc5.block rb (Zah HRS4.o) nrb).trans HRS4.o)
        have HB5 := zh (Ch.below (Ch.trans (Ch.of_below (M := MkM g cv0) HB4.o) hc5 (fun _ h => .inl h)) (fun k hk e => by
          rcases e with e | e
          · omega
          · have := (HM4.o.own.lt k e).1; omega))
        have HM5 := zh hm5
        rw [ZaQ]
        have ngb : ¬ MkM g cv0 gb := fun e => by
          rcases e with e | e
          · omega
          · have h1 := hown3.out _ e; have h2 := HGE.o; omega
        have HGB5 := zh ((hc5.block gb (Zah HGB.o) ngb).trans HGB.o)
        refine ⟨fun k hk hF h13 => (hc5.block pb (Zah HPB4.o) npb).trans (hF h13), ?_⟩
        clear npb nrb ngb hc5 ho5 hm5
        try simp only [zP]
        refine Zac (i := 6) (by kernel_rfl) (Zae rfl (by rfl) ?_)
        go_simp
        refine ⟨fun _ _ h => h, ?_⟩
        obtain ⟨y0, y1, y2, y3, yf⟩ := Zbo HGB5.o
        have hgbl := Zah HGB5.o
        try simp only [zP]
        refine Zac (i := 8) (by kernel_rfl) (Zae rfl (by rfl) ?_)
        go_simp
        refine ⟨fun k hk _ h1 => ?_, Zau (by kernel_rfl) ?_ _⟩
        · rcases h1 with h1 | h1
          · subst h1; exact absurd (show waits _ 8 1 = true by kernel_rfl) (by rw [hk]; decide)
          · subst h1; exact absurd (show waits _ 8 4 = true by kernel_rfl) (by rw [hk]; decide)
        go_wp2_with fail
        go_meet
        have hch : Ch (fun b => b = gb) w5 w5 := Ch.refl _ _
        have HCH := (((hch.setCell (p := ⟨gb, 0, none⟩) (.inl rfl) (.slice none 0 0)).setCell (p := ⟨gb, 1, none⟩) (.inl rfl) (.int .i64 (n : Int))).setCell (p := ⟨gb, 2, none⟩) (.inl rfl) (.int .i64 (n : Int))).setCell (p := ⟨gb, 3, none⟩) (.inl rfl) (.slice none 0 0)
        exact ⟨gb, cv2, rfl, ⟨(Ch.trans (Ch.of_below (M := fun b => b = gb) HB5.o) HCH (fun _ h => .inl h)).below (fun k hk e => by omega), HM5.o.ch HCH (fun b hb e => by
          rcases hb with hb | hb
          · omega
          · exact OwnF.ne_box HM5.o.own HGB5.o (by decide) (e ▸ hb)), (Zal (Zal (Zal (Zal HGB5.o 0 _) 1 _) 2 _) 3 _).trans rfl, OwnF.nil, (HCH.block rb (Zah HRS5.o) (by omega)).trans HRS5.o, hgw, q4, by omega, by omega, by omega⟩, (HCH.block pb (Zah HPB5.o) (by omega)).trans HPB5.o⟩
    case rest =>
      obtain ⟨gb, cv, rfl, hcd, hpbx⟩ := hcut
      have CD0 := zh hcd
      obtain ⟨x0, x1, x2, x3, x4, x5, xf⟩ := Zol hpbx
      have hpbl := Zah hpbx
      have hblen : (ZaH (ZaR n) h).length ≤ 56 := by have := (ZdA h (ZaR n)).2; rw [ZaQ] at this; omega
      have HXL := zh (show (Zak (ZaH (ZaR n) h) l).1.length ≤ 1048576 by have := ZbA l (ZaH (ZaR n) h); omega)
      clear hcd hpbx HM2 HB2 HRS2 HPB2
      go_wp2_with fail
      clear x0 x1 x2 x3 x4 x5 xf hpbl
      go_loopw [25] (fun i W => ∃ (j : Nat) (cv gv : Value), j ≤ l.length ∧ i = .int .i64 (j : Int) ∧ CdI w g gb rb (Zak (ZaH (ZaR n) h) (l.take j)).1 (Zak (ZaH (ZaR n) h) (l.take j)).2 (n : Int) (n : Int) cv gv W) (fun i _ => l.length - (intOf i).toNat)
      case atStart => exact ⟨0, _, _, Nat.zero_le _, rfl, CD0.out⟩
      case round =>
        obtain ⟨j, cv, gv, hj, rfl, hcd⟩ := hrel
        have CD := zh hcd
        obtain ⟨hbel, hmk, hbox, hown, hres, hgw, hgbw, hne1, hne2, hne3⟩ := hcd
        have hzb := hbel.size
        have hgb := Zah hbox
        obtain ⟨na, nc, rfl, hnl, hnm⟩ := OwnF.val hown
        have hgsl : (Zak (ZaH (ZaR n) h) (l.take j)).2.length = (l.take j).length := Za9 _ _
        have hll : (l.take j).length ≤ l.length := by rw [List.length_take]; omega
        by_cases hlt : j < l.length
        · obtain ⟨rfl, hAb⟩ := HTA.o (by omega)
          obtain ⟨sa, sc, d0, d1, d2, d3, hr⟩ := ZbD HE.o hAb (Keeps.ob hbel) hlt
          have hlt' : (j : Int) < (l.length : Int) := by omega
          have hj0 : (0 : Int) ≤ (j : Int) := zN _
          obtain ⟨t, ht⟩ : ∃ t, t = l[j]'hlt := ⟨_, rfl⟩
          rw [← ht] at d0 d1 d2 d3 hr
          have HT := zh ht
          have HLT := zh hlt
          have hbnd := Zii (ZaH (ZaR n) h) l j hlt
          rw [← ht] at hbnd
          have HR := zh (show Tm.rep (fun b => b < w.heap.size) _ t _ from Tm.rep_lasts.1 _ _ _ _ _ (TREP.out t (by rw [ht]; exact List.getElem_mem _) _ (Keeps.ob hbel) hr) (Keeps.alloc _ _ (.cells #[.int .i64 t.kind, .int .i64 t.n, .string t.s, .slice sa t.args.length sc] 27)))
          obtain ⟨nn, hnn⟩ : ∃ nn, nn = (Zak (ZaH (ZaR n) h) (l.take j)).2.length := ⟨_, rfl⟩
          rw [← hnn] at hbox hown CD hnl
          have hMB := zh (hbel.alloc hbel.size (.cells #[.int .i64 t.kind, .int .i64 t.n, .string t.s, .slice sa t.args.length sc] 27))
          have HMK := zh (hmk.below ((zB _ _).alloc (zL _) (.cells #[.int .i64 t.kind, .int .i64 t.n, .string t.s, .slice sa t.args.length sc] 27)))
          have HBX := zh (Zag hbox (.cells #[.int .i64 t.kind, .int .i64 t.n, .string t.s, .slice sa t.args.length sc] 27))
          have HEL := zh (Zar wr (.cells #[.int .i64 t.kind, .int .i64 t.n, .string t.s, .slice sa t.args.length sc] 27))
          have HOW := zh (OwnF.below hown ((zB _ _).alloc (zL _) (.cells #[.int .i64 t.kind, .int .i64 t.n, .string t.s, .slice sa t.args.length sc] 27)))
          have HRS := zh (Zag hres (.cells #[.int .i64 t.kind, .int .i64 t.n, .string t.s, .slice sa t.args.length sc] 27))
          obtain ⟨ee, hee⟩ : ∃ ee, ee = wr.heap.size := ⟨_, rfl⟩
          have hsz0 : ee < (wr.alloc (.cells #[.int .i64 t.kind, .int .i64 t.n, .string t.s, .slice sa t.args.length sc] 27)).heap.size := by rw [hee]; simp
          have heg : gb < ee := by omega
          have hgg := Zah hmk.box
          have heg2 : g < ee := by omega
          have hew : w.heap.size ≤ ee := by omega
          rw [← hee] at HEL
          have HOWB := zh (fun b (hb : Zai (.slice na nn nc) = some b) => hown.lt b hb)
          have HCWB := zh (fun b (hb : Zai cv = some b) => hmk.own.lt b hb)
          have HEE := zh hee
          have hbl : (Zak (ZaH (ZaR n) h) (l.take j)).1.length + 1 + 2 * t.nodes ≤ 4194304 := by omega
          clear hr ht hbel hmk hbox hown hres hbnd hgsl hnn
          go_wp2_with fail
          clear d0 d1 d2 d3
          rw [← HEE.o]
          clear hee
          generalize wr.alloc (.cells #[.int .i64 t.kind, .int .i64 t.n, .string t.s, .slice sa t.args.length sc] 27) = wa at hMB HMK HBX HEL HOW HRS hsz0 HR ⊢
          have hW1 : wa.drew.heap[gb]? = some (.cells #[.slice none 0 0, .int .i64 (n : Int), .int .i64 (n : Int), .slice na nn nc] 88 (0, 0)) ∧ wa.drew.heap[ee]? = some (.cells #[.int .i64 t.kind, .int .i64 t.n, .string t.s, .slice sa t.args.length sc] 27 (0, 0)) := ⟨HBX.o, HEL.o⟩
          refine ZaF (F := fun k w' => k = 1 ∨ k = 3 → (w'.heap[gb]? = some (.cells #[.slice none 0 0, .int .i64 (n : Int), .int .i64 (n : Int), .slice na nn nc] 88 (0, 0)) ∧ w'.heap[ee]? = some (.cells #[.int .i64 t.kind, .int .i64 t.n, .string t.s, .slice sa t.args.length sc] 27 (0, 0)))) (by kernel_rfl) ?_
          refine ZaO (i := 0) (v := ?_) rfl (Or.inl ⟨by rfl, ?_⟩) (fun _ => hW1) ?_
          rotate_left
          · (intro w' hw; clear hw; go_simp <;> with_reducible rfl)
          simp only [zP]
          refine ZaO (i := 1) (v := ?_) rfl (Or.inl ⟨by rfl, ?_⟩) (fun _ => hW1) ?_
          rotate_left
          · (intro w' hw; obtain ⟨q0, q1, q2, q3, qf⟩ := Zbo (hw (by omega)).1; go_simp <;> with_reducible rfl)
          simp only [zP]
          refine ZaO (i := 2) (v := ?_) rfl (Or.inl ⟨by rfl, ?_⟩) (fun _ => hW1) ?_
          rotate_left
          · (intro w' hw; clear hw; go_simp <;> with_reducible rfl)
          simp only [zP]
          refine ZaO (i := 3) (v := ?_) rfl (Or.inl ⟨by rfl, ?_⟩) (fun _ => hW1) ?_
          rotate_left
          · (intro w' hw; obtain ⟨q0, q1, q2, q3, qf⟩ := Zbo (hw (by omega)).2; go_simp <;> with_reducible rfl)
          simp only [zP]
          refine Zac (i := 4) (by kernel_rfl) (Zae rfl (by rfl) ?_)
          go_simp
          refine (ZfJ t g (g + 1) (Zak (ZaH (ZaR n) h) (l.take j)).1 cv (fun b => b < w.heap.size) wa.drew [_, _, _, _] (HMK.o.below (zB _ _).drew) hbl (Tm.rep_lasts.1 _ _ _ _ _ HR.o (Keeps.drew _ _)) (fun b hb => ⟨by have hb' : b < w.heap.size := hb; have := hMB.out.size; simp; omega, fun e => by
            have hb' : b < w.heap.size := hb
            rcases e with e | e
            · omega
            · have := (HCWB.o b e).1; omega⟩)).mono ?_
          rintro e w2 ⟨rfl, cv2, hm2, hc2, ho2⟩
          have ngb : ¬ MkM g cv gb := fun e => by
            rcases e with e | e
            · exact hne1 e
            · exact OwnF.ne_box HMK.o.own HBX.o (by decide) e
          have nee : ¬ MkM g cv ee := fun e => by
            rcases e with e | e
            · omega
            · have h1 := (HCWB.o _ e).2; have h2 := HEE.o; omega
          have nrb : ¬ MkM g cv rb := fun e => by
            rcases e with e | e
            · exact hne2 e
            · exact OwnF.ne_box HMK.o.own HRS.o (by decide) e
          have HB2 := zh (hMB.out.drew.trans (((Ch.refl _ _).trans hc2 (fun _ h => .inl h)).mono (M' := MkM g cv) (fun _ _ h => h) |> fun h => (show Below w.heap.size wa.drew w2 from ⟨h.os, h.tape, h.output, h.size, fun k hk => h.block k (by have := hMB.out.size; simp; omega) (fun e => by
            rcases e with e | e
            · omega
            · have := (HCWB.o k e).1; omega)⟩)))
          have HBX2 := zh ((hc2.block gb (by simpa using Zah HBX.o) ngb).trans (show wa.drew.heap[gb]? = _ from HBX.o))
          have HRS2 := zh ((hc2.block rb (by simpa using Zah HRS.o) nrb).trans (show wa.drew.heap[rb]? = _ from HRS.o))
          have HOW2 := zh (OwnF.kept HOW.o (w' := w2) (fun b hb => hc2.block b (by simpa using (HOW.o.lt b hb).2) (fun e => by
            rcases e with e | e
            · have := (HOW.o.lt b hb).1; omega
            · exact Za0 (by decide) HMK.o.own HOW.o b e hb)))
          have HM2 := zh hm2
          refine ⟨fun k hk hF h13 => ⟨(hc2.block gb (by simpa using Zah HBX.o) ngb).trans (hF h13).1, (hc2.block ee (by simpa using Zah HEL.o) nee).trans (hF h13).2⟩, ?_⟩
          clear hc2 ho2 hm2 ngb nee nrb hW1 HMK HBX HEL HOW HRS HOWB hMB HR
          try simp only [zP]
          refine Zac (i := 5) (by kernel_rfl) (Zae rfl (by rfl) ?_)
          go_simp
          refine ⟨fun k hk hF h13 => ⟨Zag (hF h13).1 _, Zag (hF h13).2 _⟩, ?_⟩
          refine Zac (i := 6) (by kernel_rfl) (Zae rfl (by rfl) ?_)
          have hz2 := HM2.o.base_le
          have hx2l : (Zak (ZaH (ZaR n) h) (l.take j)).1.length ≤ 4194304 := by omega
          refine Zce (.tmp 30) (.tmp 34) 43 rfl (g + 1) 3 1 8 Zbd Zab (.slice na nn nc) (Zak (ZaH (ZaR n) h) (l.take j)).2 rfl (OwnF.ownR Zat HOW2.o (fun _ => True)) ((Zak (ZaH (ZaR n) h) (l.take j)).1.length : Int) [(.int .i64 ((Zak (ZaH (ZaR n) h) (l.take j)).1.length : Int))] rfl rfl ⟨by unfold I64; omega, rfl⟩ ⟨by rw [Za9]; omega, hz2⟩ ?_
          intro v2 w4 hown2 hgrew
          have HO4 := zh (OwnF.of_ownR hown2)
          have HCW2 := HM2.o.own
          have hkc : ∀ b, Zai (.slice na nn nc) = some b → b ≠ gb ∧ b ≠ g ∧ b ≠ rb ∧ Zai cv2 ≠ some b := fun b hb => ⟨fun e => OwnF.ne_box HOW2.o HBX2.o (by decide) (e ▸ hb), fun e => OwnF.ne_box HOW2.o HM2.o.box (by decide) (e ▸ hb), fun e => OwnF.ne_box HOW2.o HRS2.o (by decide) (e ▸ hb), fun e => Za0 (by decide) HCW2 HOW2.o b e hb⟩
          have hgk : ∀ k, k < w2.heap.size → Zai (.slice na nn nc) ≠ some k → w4.heap[k]? = w2.heap[k]? := fun k hk hn => (hgrew.grown.block k (by simp; omega) (fun e => hn e.symm)).trans (Below.heap_alloc _ _ _ hk)
          have HBX4 := zh ((hgk gb (Zah HBX2.o) (fun e => (hkc _ e).1 rfl)).trans HBX2.o)
          have HRS4 := zh ((hgk rb (Zah HRS2.o) (fun e => (hkc _ e).2.2.1 rfl)).trans HRS2.o)
          have HMB4 := zh ((hgk g (Zah HM2.o.box) (fun e => (hkc _ e).2.1 rfl)).trans HM2.o.box)
          have HCW4 := zh (OwnF.kept HCW2 (w' := w4) (fun b hb => hgk b (HCW2.lt b hb).2 (fun e => (hkc b e).2.2.2 hb)))
          have hz4 := hgrew.size
          have HB4 := zh (hgrew.below (HB2.o.alloc HB2.o.size (.cells #[.int .i64 ((Zak (ZaH (ZaR n) h) (l.take j)).1.length : Int)] 3)) (by have := HB2.o.size; simp; omega) (fun b hb => by have := (HOW2.o.lt b hb).1; omega))
          refine ⟨fun k hk hF h13 => ⟨(hgrew.grown.block gb (by have := Zah HBX2.o; simp; omega) (fun e => (hkc _ e.symm).1 rfl)).trans (hF h13).1, (hgrew.grown.block ee (Zah (hF h13).2) (fun e => OwnF.ne_box (OwnF.below HOW2.o ((zB _ _).alloc (zL _) _)) (hF h13).2 (by decide) e.symm)).trans (hF h13).2⟩, ?_⟩
          obtain ⟨va2, vc2, hv2, -, -⟩ := OwnF.val HO4.o
          rw [List.length_append, List.length_singleton] at hv2
          subst hv2
          clear hown2 hgrew hgk hkc HCW2
          try simp only [zP]
          refine Zac (i := 7) (by kernel_rfl) (Zae rfl (by rfl) ?_)
          go_simp
          refine ⟨fun _ _ h => h, ?_⟩
          obtain ⟨y0, y1, y2, y3, yf⟩ := Zbo HBX4.o
          have hgb4 := Zah HBX4.o
          refine Zac (i := 8) (by kernel_rfl) (Zae rfl (by rfl) ?_)
          go_simp
          refine ⟨fun k hk _ h1 => ?_, Zau (by kernel_rfl) ?_ _⟩
          · rcases h1 with h1 | h1
            · subst h1; exact absurd (show waits _ 8 1 = true by kernel_rfl) (by rw [hk]; decide)
            · subst h1; exact absurd (show waits _ 8 3 = true by kernel_rfl) (by rw [hk]; decide)
          go_wp2_with fail
          go_roundw
          case rel =>
            have hgl : (Zak (ZaH (ZaR n) h) (l.take j)).2.length + 1 = ((Zak (ZaH (ZaR n) h) (l.take j)).2 ++ [((Zak (ZaH (ZaR n) h) (l.take j)).1.length : Int)]).length := by simp
            refine ⟨j + 1, cv2, .slice va2 ((Zak (ZaH (ZaR n) h) (l.take j)).2.length + 1) vc2, by omega, by go_num, ?_⟩
            rw [List.take_succ_eq_append_getElem HLT.o, Zej, ← HT.o]
            refine ⟨HB4.o.setCell (by simp only; omega) _, ⟨?_, ?_, HM2.o.lt, HM2.o.len, ?_⟩, (Zal HBX4.o 3 _).trans rfl, ?_, ?_, hgw, hgbw, hne1, hne2, hne3⟩
            · rw [Below.heap_setCell _ _ _ _ (by simp only; exact fun e => hne1 e.symm)]; exact HMB4.o
            · exact OwnF.kept HCW4.o (fun b hb => Below.heap_setCell _ _ _ _ (by simp only; exact fun e => OwnF.ne_box HCW4.o HBX4.o (by decide) (e ▸ hb)))
            · have := Zah HMB4.o; simp; omega
            · exact OwnF.kept HO4.o (fun b hb => Below.heap_setCell _ _ _ _ (by simp only; exact fun e => OwnF.ne_box HO4.o HBX4.o (by decide) (e ▸ hb)))
            · rw [Below.heap_setCell _ _ _ _ (by simp only; exact hne3)]; exact HRS4.o
          case measure => first | (simp [intOf]; done) | (simp [intOf]; omega)
        · have hje : j = l.length := by omega
          subst hje
          have hlt' : ¬ ((l.length : Int) < (l.length : Int)) := by omega
          obtain ⟨ca, cc, rfl, hcl, hcm⟩ := OwnF.val hmk.own
          obtain ⟨m0, mf⟩ := ZkZ hmk.box
          obtain ⟨y0, y1, y2, y3, yf⟩ := Zbo hbox
          obtain ⟨r0, r1, r2, r3, rf⟩ := Zbo hres
          have hgg := Zah hmk.box
          have hrr := Zah hres
          clear hlt hbel hmk hbox hown hres hgsl
          rw [List.take_length] at CD
          have hxl : (Zak (ZaH (ZaR n) h) (l.take l.length)).1 = (Zak (ZaH (ZaR n) h) l).1 := by rw [List.take_length]
          have hgl : (Zak (ZaH (ZaR n) h) (l.take l.length)).2 = (Zak (ZaH (ZaR n) h) l).2 := by rw [List.take_length]
          rw [hxl] at m0 hcl
          rw [hgl] at y3 hnl
          clear hxl hgl
          obtain ⟨X, hX⟩ : ∃ X, X = Zak (ZaH (ZaR n) h) l := ⟨_, rfl⟩
          rw [← hX] at m0 hcl y3 hnl CD
          have HX := zh hX
          clear hX
          go_wp2_with fail
          have hch : Ch (fun b => b = gb ∨ b = rb) wr wr := Ch.refl _ _
          have HCH := (((((hch.setCell (p := ⟨gb, 0, none⟩) (.inl (.inl rfl)) (.slice ca X.1.length cc)).setCell (p := ⟨rb, 0, none⟩) (.inl (.inr rfl)) (.slice ca X.1.length cc)).setCell (p := ⟨rb, 1, none⟩) (.inl (.inr rfl)) (.int .i64 (n : Int))).setCell (p := ⟨rb, 2, none⟩) (.inl (.inr rfl)) (.int .i64 (n : Int))).setCell (p := ⟨rb, 3, none⟩) (.inl (.inr rfl)) (.slice na X.2.length nc))
          have hne3' : ¬ gb = rb := fun e => hne3 e.symm
          have c1 := CD.out.mkr.own
          have c2 := CD.out.own
          have c3 := CD.out.box
          have c4 := CD.out.res
          have hbF := Ch.below (Ch.trans (Ch.of_below (M := fun b => b = gb ∨ b = rb) CD.out.bel) HCH (fun _ h => .inl h)) (fun k hk e => by omega)
          refine bodyPost_ret (v := .tuple #[.agg #[.slice ca X.1.length cc, .int .i64 (n : Int), .int .i64 (n : Int), .slice na X.2.length nc], .int .i64 0]) (by simp [results, Tryd.results54, go_sem, hcs, r0, r1, r2, r3, y0, y1, y2, y3, hne3, hne3']; try rfl) rfl ?_
          rw [HQF.o]
          have hXl := HXL.o
          rw [← HX.o] at hXl
          refine Pure.mk hbF ⟨_, _, rfl, ?_, ?_⟩
          · show CesR _ _ (Zak (ZaH (ZaR n) h) l).1 _
            rw [← HX.o]
            exact OwnF.sl Ce.vals_len Ce.vals_one (OwnF.kept c1 (fun b hb => HCH.block b (c1.lt b hb).2 (fun e => by
              rcases e with e | e
              · exact OwnF.ne_box c1 c3 (by decide) (e ▸ hb)
              · exact OwnF.ne_box c1 c4 (by decide) (e ▸ hb)))) (by omega) (fun b hb => by have := (c1.lt b hb).1; unfold New; omega)
          · show ZbB _ _ (Zak (ZaH (ZaR n) h) l).2 _
            rw [← HX.o]
            have hl2 := Za9 l (ZaH (ZaR n) h)
            rw [← HX.o] at hl2
            exact OwnF.sl Zat Zb7 (OwnF.kept c2 (fun b hb => HCH.block b (c2.lt b hb).2 (fun e => by
              rcases e with e | e
              · exact OwnF.ne_box c2 c3 (by decide) (e ▸ hb)
              · exact OwnF.ne_box c2 c4 (by decide) (e ▸ hb)))) (by omega) (fun b hb => by have := (c2.lt b hb).1; unfold New; omega)
end Go.Proofs.YtlpmfkpefoegeacDoor
namespace Go.Proofs.YtlpmfkpefoegeacDoor
set_option maxRecDepth 100000
set_option maxHeartbeats 16000000
set_option linter.all false
def Laid (L : List Ce) (g : Int → Int) : Int → Tm → Prop
  | a, .mk k n s l => ∃ x, Looks L a x ∧ ((k = 0 ∧ l = [] ∧ s = ByteArray.empty ∧ x = g n ∧ (Zaa L x).kind = 0) ∨ (k = 1 ∧ l = [] ∧ n = 0 ∧ Zaa L x = ⟨1, 0, s⟩) ∨ (k = 2 ∧ l = [] ∧ s = ByteArray.empty ∧ Zaa L x = ⟨2, n, ByteArray.empty⟩) ∨
      (k = 3 ∧ n = 0 ∧ Zaa L x = ⟨3, (l.length : Int), s⟩ ∧ LaidL L g (x + 1) l))
where LaidL (L : List Ce) (g : Int → Int) : Int → List Tm → Prop
  | _, [] => True
  | a, t :: r => Laid L g a t ∧ LaidL L g (a + 1) r
def Agree(L c:List Ce)(k lo hi:Nat)(m:Nat):Prop:=∀i,((k<=i/\i<k+m)\/lo<=i)->i<hi->L[i]?=c[i]?
theorem Zj5:∀(t:Tm)(c:List Ce)(k i:Nat),i<c.length->i≠k->(Zcq c k t)[i]?=c[i]?:=by
 intro t;induction t using Tm.induct with
  |h kd n s l ih=>
   intro c k i hi hne;have hL:∀(r:List Tm),(∀t∈r,t∈l)->∀(c:List Ce)(k i:Nat),i<c.length->(i<k\/k+r.length<=i)->(Zbf c k r)[i]?=c[i]?:=by intro r;induction r with|nil=>intro _ c k i _ _;rfl|cons x r ihr=>intro hm c k i hi hne;simp only[Zbf,List.length_cons]at hne ⊢;rw[ihr (fun t ht=>hm t (List.mem_cons_of_mem _ ht)) _ (k+1) i (by have :=(Zei x c k).1;omega) (by omega)];exact ih x (hm x (List.mem_cons_self ..)) c k i hi (by omega)
   simp only[Zcq];repeat' split
   ·exact List.getElem?_set_ne (Ne.symm hne)
   ·exact List.getElem?_set_ne (Ne.symm hne)
   ·exact List.getElem?_set_ne (Ne.symm hne)
   ·rw[hL l (fun _ h=>h) _ _ i (by simp;omega) (by omega),List.getElem?_append_left (by simpa using hi)];exact List.getElem?_set_ne (Ne.symm hne)
   ·rfl
theorem Zcb:∀(r:List Tm)(c:List Ce)(k i:Nat),i<c.length->(i<k\/k+r.length<=i)->(Zbf c k r)[i]?=c[i]?|[],_,_,_,_,_=>rfl|x::r,c,k,i,hi,hne=>by simp only[Zbf,List.length_cons]at hne ⊢;rw[Zcb r _ (k+1) i (by have :=(Zei x c k).1;omega) (by omega)];exact Zj5 x c k i hi (by omega)
def Zft(L:List Ce)(v:Nat):Prop:=∀i,i<v->L[i]?=some ⟨0,(i:Int),ByteArray.empty⟩
theorem Zba{L:List Ce}{i:Nat}{c:Ce}(h:L[i]?=some c):Zaa L (i:Int)=c/\Inb L (i:Int):=by have hl:i<L.length:=(List.getElem?_eq_some_iff.1 h).1;unfold Zaa Inb;rw[Int.toNat_natCast,h];exact⟨rfl,by omega,by omega⟩
theorem Zj6(v:Nat):∀(t:Tm)(c:List Ce)(k:Nat)(L:List Ce),t.Good (v:Int)->k<c.length->v<=k->Zft L v->Agree L (Zcq c k t) k c.length (Zcq c k t).length 1->Laid L id (k:Int) t:=by
 intro t;induction t using Tm.induct with
  |h kd n s l ih=>
   intro c k L hg hk hv hva hag;have hL:∀(r:List Tm),(∀t∈r,t∈l)->(∀t∈r,t.Good (v:Int))->∀(c:List Ce)(k:Nat),k+r.length<=c.length->v<=k->Agree L (Zbf c k r) k c.length (Zbf c k r).length r.length->Laid.LaidL L id (k:Int) r:=by
    intro r;induction r with
     |nil=>intro _ _ c k _ _ _;simp only[Laid.LaidL]
     |cons x r ihr=>
      intro hm hgr c k hkl hv hag;simp only[List.length_cons]at hkl hag;simp only[Zbf]at hag;have h1:=Zei x c k;have h2:=ZbE r (Zcq c k x) (k+1);simp only[Laid.LaidL];refine⟨ih x (hm x (List.mem_cons_self ..)) c k L (hgr x (List.mem_cons_self ..)) (by omega) hv hva (fun i hi hil=>?_),?_⟩;·rw[hag i (by omega) (by omega)];exact Zcb r _ _ i hil (by omega)
      ·have :=ihr (fun t ht=>hm t (List.mem_cons_of_mem _ ht)) (fun t ht=>hgr t (List.mem_cons_of_mem _ ht)) (Zcq c k x) (k+1) (by omega) (by omega) (fun i hi hil=>hag i (by omega) (by omega));rw[show((k+1:Nat):Int)=(k:Int)+1 by omega]at this;exact this
   have hk0:=hag k (by omega) (by have :=(Zei (.mk kd n s l) c k).1;omega);cases hg with
    |var _ h0 h1=>obtain⟨m,rfl⟩:=Int.eq_ofNat_of_zero_le h0;simp only[Zcq,if_true]at hk0;rw[List.getElem?_set_self hk]at hk0;obtain⟨e1,e2⟩:=Zba hk0;obtain⟨e3,e4⟩:=Zba (hva m (by omega));rw[Laid];refine⟨(m:Int),.next e2 (fun hs=>?_) (by rw[e1];exact .stop e4 (.inr (by rw[e3]))),.inl ⟨rfl,rfl,rfl,rfl,by rw[e3]⟩⟩;unfold Stop at hs;rw[e1]at hs;simp at hs;omega
    |atom _ h=>simp[Zcq]at hk0;rw[List.getElem?_set_self hk]at hk0;obtain⟨e1,e2⟩:=Zba hk0;rw[Laid];exact⟨(k:Int),.stop e2 (.inl (by rw[e1];simp)),.inr (.inl ⟨rfl,rfl,rfl,e1⟩)⟩
    |int _ h0 h1=>simp[Zcq]at hk0;rw[List.getElem?_set_self hk]at hk0;obtain⟨e1,e2⟩:=Zba hk0;rw[Laid];exact⟨(k:Int),.stop e2 (.inl (by rw[e1];simp)),.inr (.inr (.inl ⟨rfl,rfl,rfl,e1⟩))⟩
    |comp _ _ h h1 h2 h3 h4=>
     have hp:Zcq c k (.mk 3 0 s l)=Zbf (c.set k ⟨0,(c.length:Int),ByteArray.empty⟩++⟨3,(l.length:Int),s⟩::List.replicate l.length ⟨0,0,ByteArray.empty⟩) (c.length+1) l:=by simp[Zcq]
     rw[hp]at hag hk0;have hlen:=ZbE l (c.set k ⟨0,(c.length:Int),ByteArray.empty⟩++⟨3,(l.length:Int),s⟩::List.replicate l.length ⟨0,0,ByteArray.empty⟩) (c.length+1);simp only[List.length_append,List.length_set,List.length_cons,List.length_replicate]at hlen;rw[Zcb l _ _ k (by simp;omega) (by omega),List.getElem?_append_left (by simpa using hk),List.getElem?_set_self hk]at hk0;have hf0:=hag c.length (by omega) (by omega);rw[Zcb l _ _ c.length (by simp) (by omega),List.getElem?_append_right (by simp)]at hf0;simp only[List.length_set,Nat.sub_self,List.getElem?_cons_zero]at hf0;obtain⟨e1,e2⟩:=Zba hk0;obtain⟨e3,e4⟩:=Zba hf0;rw[Laid];refine⟨(c.length:Int),.next e2 (fun hs=>?_) (by rw[e1];exact .stop e4 (.inl (by rw[e3];simp))),.inr (.inr (.inr ⟨rfl,rfl,e3,?_⟩))⟩;·unfold Stop at hs;rw[e1]at hs;simp at hs;omega
     ·have :=hL l (fun _ h=>h) h4 (c.set k ⟨0,(c.length:Int),ByteArray.empty⟩++⟨3,(l.length:Int),s⟩::List.replicate l.length ⟨0,0,ByteArray.empty⟩) (c.length+1) (by simp;omega) (by omega) (fun i hi hil=>hag i (by simp only[List.length_append,List.length_set,List.length_cons,List.length_replicate]at hi;omega) hil);rw[show((c.length+1:Nat):Int)=(c.length:Int)+1 by omega]at this;exact this
theorem Zij(v:Nat)(L:List Ce)(hva:Zft L v):∀(r:List Tm)(c:List Ce)(k:Nat),(∀t∈r,t.Good (v:Int))->k+r.length<=c.length->v<=k->Agree L (Zbf c k r) k c.length (Zbf c k r).length r.length->Laid.LaidL L id (k:Int) r
 |[],_,_,_,_,_,_=>by simp only[Laid.LaidL]
 |x::r,c,k,hgr,hkl,hv,hag=>by
  simp only[List.length_cons]at hkl hag;simp only[Zbf]at hag;have h1:=Zei x c k;have h2:=ZbE r (Zcq c k x) (k+1);simp only[Laid.LaidL];refine⟨Zj6 v x c k L (hgr x (List.mem_cons_self ..)) (by omega) hv hva (fun i hi hil=>?_),?_⟩;·rw[hag i (by omega) (by omega)];exact Zcb r _ _ i hil (by omega)
  ·have :=Zij v L hva r (Zcq c k x) (k+1) (fun t ht=>hgr t (List.mem_cons_of_mem _ ht)) (by omega) (by omega) (fun i hi hil=>hag i (by omega) (by omega));rw[show((k+1:Nat):Int)=(k:Int)+1 by omega]at this;exact this
theorem Zik(t:Tm)(c:List Ce)(i:Nat)(hi:i<c.length):(ZaH c t)[i]?=c[i]?:=by
 unfold ZaH;split;·obtain⟨k,n,s,l⟩:=t;rw[Zdb,Zcb l _ _ i (by simp;omega) (by omega),List.getElem?_append_left hi]
 ·rw[Zj5 t _ _ i (by simp;omega) (by omega),List.getElem?_append_left hi]
theorem Zil(v:Nat)(t:Tm)(c L:List Ce)(hg:t.Good (v:Int))(hv:v<=c.length)(hva:Zft L v)(hag:∀i,c.length<=i->i<(ZaH c t).length->L[i]?=(ZaH c t)[i]?):Laid L id (c.length:Int) t:=by
 by_cases h3:t.kind=3
 ·obtain⟨kd,n,s,l⟩:=t;simp only[Tm.kind]at h3;subst h3;have hp:ZaH c (.mk 3 n s l)=Zbf (c++⟨3,(l.length:Int),s⟩::List.replicate l.length ⟨0,0,ByteArray.empty⟩) (c.length+1) l:=by simp[ZaH,Tm.kind,Zdb]
  rw[hp]at hag;have hlen:=ZbE l (c++⟨3,(l.length:Int),s⟩::List.replicate l.length ⟨0,0,ByteArray.empty⟩) (c.length+1);simp only[List.length_append,List.length_cons,List.length_replicate]at hlen;have hf0:=hag c.length (zL _) (by omega);rw[Zcb l _ _ c.length (by simp) (by omega),List.getElem?_append_right (zL _)]at hf0;simp only[Nat.sub_self,List.getElem?_cons_zero]at hf0;obtain⟨e3,e4⟩:=Zba hf0;cases hg with|comp _ _ h h1 h2 h3 h4=>rw[Laid];refine⟨(c.length:Int),.stop e4 (.inl (by rw[e3];simp)),.inr (.inr (.inr ⟨rfl,rfl,e3,?_⟩))⟩;have :=Zij v L hva l (c++⟨3,(l.length:Int),s⟩::List.replicate l.length ⟨0,0,ByteArray.empty⟩) (c.length+1) h4 (by simp;omega) (by omega) (fun i hi hil=>hag i (by simp only[List.length_append,List.length_cons,List.length_replicate]at hi;omega) hil);rw[show((c.length+1:Nat):Int)=(c.length:Int)+1 by omega]at this;exact this
 ·rw[ZaH,if_neg h3]at hag;refine Zj6 v t (c++[⟨0,0,ByteArray.empty⟩]) c.length L hg (by simp) hv hva (fun i hi hil=>hag i (by simp only[List.length_append,List.length_singleton]at hi;omega) hil)
theorem Zcx:∀(l:List Tm)(c:List Ce)(i:Nat),i<c.length->(Zak c l).1[i]?=c[i]?|[],_,_,_=>rfl|x::r,c,i,hi=>by simp only[Zak];rw[Zcx r (ZaH c x) i (by have :=(ZdA x c).1;omega)];exact Zik x c i hi
theorem Zfd(v:Nat)(L:List Ce)(hva:Zft L v):∀(l:List Tm)(c:List Ce),(∀t∈l,t.Good (v:Int))->v<=c.length->(∀i,c.length<=i->i<(Zak c l).1.length->L[i]?=(Zak c l).1[i]?)->∀(j:Nat)(hj:j<l.length),∃a,(Zak c l).2[j]?=some a/\Laid L id a l[j]|[],_,_,_,_,j,hj=>by simp at hj|x::r,c,hg,hv,hag,j,hj=>by simp only[Zak]at hag ⊢;have h1:=ZdA x c;have h2:=ZbA r (ZaH c x);cases j with|zero=>refine⟨(c.length:Int),rfl,Zil v x c L (hg x (List.mem_cons_self ..)) hv hva (fun i hi hil=>?_)⟩;rw[hag i hi (by omega)];exact Zcx r _ i hil|succ j=>obtain⟨a,e,ha⟩:=Zfd v L hva r (ZaH c x) (fun t ht=>hg t (List.mem_cons_of_mem _ ht)) (by omega) (fun i hi hil=>hag i (by omega) hil) j (by simpa using hj);exact⟨a,by simpa using e,by simpa using ha⟩
section
variable {H F : List Ce}
theorem Zbp{a:Int}(h:Inb F a):Zaa (H++F.map (shC H.length)) (a+(H.length:Int))=shC H.length (Zaa F a)/\Inb (H++F.map (shC H.length)) (a+(H.length:Int)):=by
 obtain⟨h0,h1⟩:=h;obtain⟨k,rfl⟩:=Int.eq_ofNat_of_zero_le h0;have hk:k<F.length:=by omega
 have h2:(H++F.map (shC H.length))[H.length+k]?=some (shC H.length F[k]):=by rw[List.getElem?_append_right (by omega),List.getElem?_map,Nat.add_sub_cancel_left,List.getElem?_eq_getElem hk];rfl
 have h3:=Zba h2;rw[show((H.length+k:Nat):Int)=(k:Int)+(H.length:Int)by omega]at h3;rw[ZaC hk];exact h3
theorem Zd1(b:Nat)(c:Ce):(shC b c).kind=c.kind:=by unfold shC;split<;>rfl
theorem Zcr(b:Nat){c:Ce}(h:c.kind≠0):shC b c=c:=by unfold shC;rw[if_neg h]
theorem Zk0(b:Nat){c:Ce}(h:c.kind=0):(shC b c).n=c.n+b:=by unfold shC;rw[if_pos h]
theorem Zi2{a x:Int}(h:Looks F a x):Looks (H++F.map (shC H.length)) (a+(H.length:Int)) (x+(H.length:Int)):=by
 induction h with
  |@stop a0 h1 h2=>
   obtain⟨e1,e2⟩:=Zbp (H:=H) h1;refine .stop e2 ?_;rcases h2 with h2|h2;·exact .inl (by rw[e1,Zd1];exact h2)
   ·by_cases hk:(Zaa F a0).kind=0;·exact .inr (by rw[e1,Zk0 _ hk,h2])
    ·exact .inl (by rw[e1,Zd1];exact hk)
  |@next a0 x0 h1 h2 _ ih=>
   obtain⟨e1,e2⟩:=Zbp (H:=H) h1;have hk:(Zaa F a0).kind=0:=Classical.byContradiction fun hk=>h2 (.inl hk);refine .next e2 (fun hs=>h2 ?_) (by rw[e1,Zk0 _ hk];exact ih);rcases hs with hs|hs;·rw[e1,Zd1]at hs;exact .inl hs
   ·rw[e1,Zk0 _ hk]at hs;exact .inr (by omega)
theorem Zg1:∀(t:Tm)(a:Int),Laid F id a t->Laid (H++F.map (shC H.length)) (fun n=>n+(H.length:Int)) (a+(H.length:Int)) t:=by
 intro t;induction t using Tm.induct with
  |h k n s l ih=>
   intro a h;have hL:∀(r:List Tm),(∀t∈r,t∈l)->∀a,Laid.LaidL F id a r->Laid.LaidL (H++F.map (shC H.length)) (fun n=>n+(H.length:Int)) (a+(H.length:Int)) r:=by intro r;induction r with|nil=>intro _ a _;simp only[Laid.LaidL]|cons x r ihr=>intro hm a h;simp only[Laid.LaidL]at h ⊢;refine⟨ih x (hm x (List.mem_cons_self ..)) a h.1,?_⟩;have :=ihr (fun t ht=>hm t (List.mem_cons_of_mem _ ht)) _ h.2;rw[show a+1+(H.length:Int)=a+(H.length:Int)+1 by omega]at this;exact this
   rw[Laid]at h ⊢;obtain⟨x,hx,hc⟩:=h;obtain⟨e1,e2⟩:=Zbp (H:=H) hx.end_.1;refine⟨x+(H.length:Int),Zi2 hx,?_⟩;rcases hc with⟨h1,h2,h3,h4,h5⟩|⟨h1,h2,h3,h4⟩|⟨h1,h2,h3,h4⟩|⟨h1,h2,h3,h4⟩;·exact .inl ⟨h1,h2,h3,by rw[h4];rfl,by rw[e1,Zd1];exact h5⟩
   ·exact .inr (.inl ⟨h1,h2,h3,by rw[e1,Zcr _ (by rw[h4];simp),h4]⟩)
   ·exact .inr (.inr (.inl ⟨h1,h2,h3,by rw[e1,Zcr _ (by rw[h4];simp),h4]⟩))
   ·refine .inr (.inr (.inr ⟨h1,h2,by rw[e1,Zcr _ (by rw[h3];simp),h3],?_⟩));have :=hL l (fun _ h=>h) _ h4;rw[show x+1+(H.length:Int)=x+(H.length:Int)+1 by omega]at this;exact this
end
/-! the block's cells are valid -/
def OkN(N:Nat)(c:List Ce):Prop:=∀(i:Nat)(x:Ce),c[i]?=some x->x.OkAt N i
theorem OkN.set{N:Nat}{c:List Ce}{k:Nat}{x:Ce}(h:OkN N c)(hx:x.OkAt N k):OkN N (c.set k x):=by
 intro i y hy;rw[List.getElem?_set]at hy;split at hy
 ·rename_i e;subst e;split at hy;·simp only[Option.some.injEq]at hy;subst hy;exact hx
  ·cases hy
 ·exact h i y hy
theorem OkN.append{N:Nat}{c d:List Ce}(h:OkN N c)(hd:∀(i:Nat)(x:Ce),d[i]?=some x->x.OkAt N (c.length+i)):OkN N (c++d):=by
 intro i y hy;rw[List.getElem?_append]at hy;split at hy;·exact h i y hy
 ·rename_i hl;have :=hd _ _ hy;rwa[show c.length+(i - c.length)=i by omega]at this
theorem ZbN:ByteArray.empty.toList=[]:=List.isEmpty_iff.1 (toList_nil.2 rfl)
theorem ZlY{N i:Nat}(h:0<N):(⟨0,0,ByteArray.empty⟩:Ce).OkAt N i:= .inl ⟨rfl,by simp,by simpa using h,ZbN⟩
theorem Zi3{s:ByteArray}(h:Zfm s):s.toList≠[]:=by
 intro e;have h1:=toList_nil.1 (by rw[e];rfl);subst h1;rcases h with h|⟨h, -⟩;·exact absurd h (by decide)
 ·exact absurd h (by decide)
theorem ZeI{N:Nat}{c:List Ce}{s:ByteArray}{n:Nat}(h:OkN N c)(hs:s.toList≠[])(h1:1<=n)(h4:n<=4)(hN:c.length+1+n<=N):OkN N (c++⟨3,(n:Int),s⟩::List.replicate n ⟨0,0,ByteArray.empty⟩):=by
 refine h.append fun i x hx=>?_;cases i with
  |zero=>simp only[List.getElem?_cons_zero,Option.some.injEq]at hx;subst hx;exact .inr (.inr (.inr ⟨rfl,by simp only;omega,by simp only;omega,by simp only;omega,hs⟩))
  |succ i=>
   simp only[List.getElem?_cons_succ,List.getElem?_replicate]at hx;split at hx;·simp only[Option.some.injEq]at hx;subst hx;exact ZlY (by omega)
   ·cases hx
theorem Zj7{v N:Nat}(hvN:v<=N):∀(t:Tm)(c:List Ce)(k:Nat),t.Good (v:Int)->OkN N c->(Zcq c k t).length<=N->OkN N (Zcq c k t):=by
 intro t;induction t using Tm.induct with
  |h kd n s l ih=>
   intro c k hg hc hN;have hL:∀(r:List Tm),(∀t∈r,t∈l)->(∀t∈r,t.Good (v:Int))->∀(c:List Ce)(k:Nat),OkN N c->(Zbf c k r).length<=N->OkN N (Zbf c k r):=by intro r;induction r with|nil=>intro _ _ c k h _;exact h|cons x r ihr=>intro hm hgr c k h hN;simp only[Zbf]at hN ⊢;have h2:=(ZbE r (Zcq c k x) (k+1)).1;exact ihr (fun t ht=>hm t (List.mem_cons_of_mem _ ht)) (fun t ht=>hgr t (List.mem_cons_of_mem _ ht)) _ _ (ih x (hm x (List.mem_cons_self ..)) c k (hgr x (List.mem_cons_self ..)) h (by omega)) hN
   cases hg with
    |var _ h0 h1=>simp only[Zcq,if_true];exact hc.set (.inl ⟨rfl,h0,by simp only;omega,ZbN⟩)
    |atom _ h=>simp[Zcq];exact hc.set (.inr (.inl ⟨rfl,rfl,Zi3 h⟩))
    |int _ h0 h1=>simp[Zcq];exact hc.set (.inr (.inr (.inl ⟨rfl,ZbN⟩)))
    |comp _ _ h h1 h2 h3 h4=>
     have hp:Zcq c k (.mk 3 0 s l)=Zbf (c.set k ⟨0,(c.length:Int),ByteArray.empty⟩++⟨3,(l.length:Int),s⟩::List.replicate l.length ⟨0,0,ByteArray.empty⟩) (c.length+1) l:=by simp[Zcq]
     rw[hp]at hN ⊢;have hlen:=(ZbE l (c.set k ⟨0,(c.length:Int),ByteArray.empty⟩++⟨3,(l.length:Int),s⟩::List.replicate l.length ⟨0,0,ByteArray.empty⟩) (c.length+1)).1;simp only[List.length_append,List.length_set,List.length_cons,List.length_replicate]at hlen;refine hL l (fun _ h=>h) h4 _ _ (ZeI (hc.set (.inl ⟨rfl,by simp only;omega,by simp only;omega,ZbN⟩)) (Zi3 h) h2 h3 (by simp;omega)) hN
theorem Zim{v N:Nat}(hvN:v<=N):∀(r:List Tm)(c:List Ce)(k:Nat),(∀t∈r,t.Good (v:Int))->OkN N c->(Zbf c k r).length<=N->OkN N (Zbf c k r)|[],_,_,_,h,_=>h|x::r,c,k,hgr,h,hN=>by simp only[Zbf]at hN ⊢;have h2:=(ZbE r (Zcq c k x) (k+1)).1;exact Zim hvN r _ _ (fun t ht=>hgr t (List.mem_cons_of_mem _ ht)) (Zj7 hvN x c k (hgr x (List.mem_cons_self ..)) h (by omega)) hN
theorem Zin{v N:Nat}(hvN:v<=N)(t:Tm)(c:List Ce)(hg:t.Good (v:Int))(hc:OkN N c)(hN:(ZaH c t).length<=N)(h0:0<N):OkN N (ZaH c t):=by
 by_cases h3:t.kind=3
 ·obtain⟨kd,n,s,l⟩:=t;simp only[Tm.kind]at h3;subst h3;have hp:ZaH c (.mk 3 n s l)=Zbf (c++⟨3,(l.length:Int),s⟩::List.replicate l.length ⟨0,0,ByteArray.empty⟩) (c.length+1) l:=by simp[ZaH,Tm.kind,Zdb]
  rw[hp]at hN ⊢;have hlen:=(ZbE l (c++⟨3,(l.length:Int),s⟩::List.replicate l.length ⟨0,0,ByteArray.empty⟩) (c.length+1)).1;simp only[List.length_append,List.length_cons,List.length_replicate]at hlen;cases hg with|comp _ _ h h1 h2 h3 h4=>exact Zim hvN l _ _ h4 (ZeI hc (Zi3 h) h2 h3 (by omega)) hN
 ·rw[ZaH,if_neg h3]at hN ⊢;refine Zj7 hvN t _ _ hg (hc.append fun i x hx=>?_) hN;cases i with|zero=>simp only[List.getElem?_cons_zero,Option.some.injEq]at hx;subst hx;exact ZlY h0|succ i=>simp at hx
theorem Zfe{v N:Nat}(hvN:v<=N)(h0:0<N):∀(l:List Tm)(c:List Ce),(∀t∈l,t.Good (v:Int))->OkN N c->(Zak c l).1.length<=N->OkN N (Zak c l).1|[],_,_,h,_=>h|x::r,c,hg,h,hN=>by simp only[Zak]at hN ⊢;have h2:=(ZbA r (ZaH c x)).1;exact Zfe hvN h0 r _ (fun t ht=>hg t (List.mem_cons_of_mem _ ht)) (Zin hvN x c (hg x (List.mem_cons_self ..)) h (by omega) h0) hN
theorem ZlZ{n N:Nat}(h:n<=N):OkN N (ZaR n):=by intro i x hx;have hi:=(List.getElem?_eq_some_iff.1 hx).1;rw[ZaQ]at hi;simp only[ZaR,List.getElem?_map,List.getElem?_range hi,Option.map_some,Option.some.injEq]at hx;subst hx;exact .inl ⟨rfl,by simp,by simp only;omega,ZbN⟩
theorem Zio(n:Nat):Zft (ZaR n) n:=fun i hi=>by simp[ZaR,List.getElem?_range hi]
theorem Ce.OkAt.more{N M i:Nat}{c:Ce}(h:c.OkAt N i)(hM:N<=M):c.OkAt M i:=by
 rcases h with⟨h1,h2,h3,h4⟩|h|h|⟨h1,h2,h3,h4,h5⟩;·exact .inl ⟨h1,h2,by omega,h4⟩
 ·exact .inr (.inl h)
 ·exact .inr (.inr (.inl h))
 ·exact .inr (.inr (.inr ⟨h1,h2,h3,by omega,h5⟩))
theorem Ce.OkAt.moved{N i b:Nat}{c:Ce}(h:c.OkAt N i):(shC b c).OkAt (b+N) (b+i):=by
 rcases h with⟨h1,h2,h3,h4⟩|⟨h1,h2,h3⟩|⟨h1,h2⟩|⟨h1,h2,h3,h4,h5⟩
 ·refine .inl ⟨by rw[Zd1];exact h1,?_,?_,?_⟩;·rw[Zk0 _ h1];omega
  ·rw[Zk0 _ h1];omega
  ·unfold shC;rw[if_pos h1];exact h4
 ·rw[Zcr _ (by rw[h1];decide)];exact .inr (.inl ⟨h1,h2,h3⟩)
 ·rw[Zcr _ (by rw[h1];decide)];exact .inr (.inr (.inl ⟨h1,h2⟩))
 ·rw[Zcr _ (by rw[h1];decide)];exact .inr (.inr (.inr ⟨h1,h2,h3,by omega,h5⟩))
theorem Zgk{h:Hp}{F:List Ce}(hg:h.Good)(hF:GoodC F)(hl:h.cells.length+F.length<=65536):Hp.Good ⟨h.cells++F.map (shC h.cells.length),h.trail⟩:=by
 obtain⟨g1,g2,g3,g4⟩:=hg;refine⟨fun i hi=>?_,fun j hj=>?_,by simpa using hl,g4⟩
 ·simp only[List.length_append,List.length_map]at hi ⊢;rw[List.getElem_append];split;·rename_i hl2;exact(g1 i hl2).more (by omega)
  ·rename_i hl2;rw[List.getElem_map];have :=(hF (i - h.cells.length) (by omega)).moved (b:=h.cells.length);rwa[show h.cells.length+(i - h.cells.length)=i by omega]at this
 ·obtain⟨v,e,hv,hk⟩:=g2 j hj;refine⟨v,e,by simp;omega,?_⟩;simp only;rw[List.getElem_append_left hv];exact hk
theorem ZeJ(t:Tm)(c:List Ce):c.length<(ZaH c t).length:=by
 unfold ZaH;split;·obtain⟨k,n,s,l⟩:=t;have h1:=(ZbE l (c++⟨3,(l.length:Int),s⟩::List.replicate l.length ⟨0,0,ByteArray.empty⟩) (c.length+1)).1;simp only[List.length_append,List.length_cons,List.length_replicate]at h1;simp only[Zdb];omega
 ·rename_i h;rw[Zdz h];simp
theorem Zg2{h:Tm}{l:List Tm}{n:Nat}(hg:(⟨h,l,(n:Int)⟩:Cl).Good)(F:List Ce)(hF:F=(Zak (ZaH (ZaR n) h) l).1):F.length<=296/\GoodC F/\Laid F id (n:Int) h/\∀(j:Nat)(hj:j<l.length),∃a,(Zak (ZaH (ZaR n) h) l).2[j]?=some a/\Laid F id a l[j]:=by
 obtain⟨⟨v0,v8,l5,lg⟩, -,hft, -⟩:=hg;simp only at v0 v8 l5 lg hft;have hnd:=ZdB l (fun g hg=>(lg g hg).2.2);have h1:=ZdA h (ZaR n);have h1p:=ZeJ h (ZaR n);have h2:=ZbA l (ZaH (ZaR n) h);rw[ZaQ]at h1 h1p;have hh:=hft.2;rw[<-hF]at h2;have hlg:∀t∈l,t.Good (n:Int):=fun t ht=>(lg t ht).2.1;have hva:Zft F n:=fun i hi=>by rw[hF,Zcx l _ i (by omega),Zik h _ i (by rw[ZaQ];exact hi)];exact Zio n i hi
 refine⟨by omega,?_,?_,?_⟩;·have hok:=Zfe (v:=n) (N:=F.length) (by omega) (by omega) l (ZaH (ZaR n) h) hlg (Zin (v:=n) (by omega) h _ hft.1 (ZlZ (by omega)) (by omega) (by omega)) (by rw[<-hF];exact zL _);rw[<-hF]at hok;intro i hi;exact hok i _ (List.getElem?_eq_getElem hi)
 ·have :=Zil n h (ZaR n) F hft.1 (by rw[ZaQ];exact zL _) hva (fun i hi hil=>by rw[hF];exact Zcx l _ i hil);rw[ZaQ]at this;exact this
 ·exact Zfd n F hva l (ZaH (ZaR n) h) hlg (by omega) (fun i hi hil=>by rw[hF])
def NF(v:Nat)(c:List Ce):Prop:=∀(i:Nat)(x:Ce),c[i]?=some x->v<=i->x.kind=0->x.n≠(i:Int)
theorem NF.set{v:Nat}{c:List Ce}(h:NF v c){k:Nat}{x:Ce}(hx:x.kind=0->x.n≠(k:Int)):NF v (c.set k x):=by
 intro i y hy hv hk;by_cases e:k=i
 ·subst e;by_cases hl:k<c.length;·rw[List.getElem?_set_self hl]at hy;obtain rfl:=zI hy;exact hx hk
  ·rw[List.getElem?_eq_none (by simp;omega)]at hy;cases hy
 ·rw[List.getElem?_set_ne e]at hy;exact h i y hy hv hk
theorem NF.frame{v:Nat}{c:List Ce}(h:NF v c)(s:ByteArray)(m:Nat):NF v (c++⟨3,(m:Int),s⟩::List.replicate m ⟨0,0,ByteArray.empty⟩):=by
 intro i y hy hv hk;by_cases hl:i<c.length;·rw[List.getElem?_append_left hl]at hy;exact h i y hy hv hk
 ·rw[List.getElem?_append_right (by omega)]at hy;obtain⟨j,hj⟩:∃j,j=i - c.length:=⟨_,rfl⟩;rw[<-hj]at hy;cases j with
   |zero=>simp only[List.getElem?_cons_zero,Option.some.injEq]at hy;subst hy;simp at hk
   |succ j=>
    rw[List.getElem?_cons_succ,List.getElem?_replicate]at hy;split at hy;·obtain rfl:=zI hy;simp only;omega
    ·cases hy
mutual
theorem Zpe (v : Nat) : ∀ (t : Tm) (c : List Ce) (k : Nat), t.Good (v : Int) → NF v c → v ≤ k → k < c.length → NF v (Zcq c k t)
  | .mk kd n s l, c, k, hg, h, hv, hk => by
    rw [Zcq]
    split
    · refine h.set fun _ => ?_
      have := Tm.In.n (t := .mk kd n s l) hg (by assumption)
      simp only [Tm.n] at this
      simp only
      omega
    · split
      · exact h.set fun h => by simp at h
      · split
        · exact h.set fun h => by simp at h
        · split
          · have hl : ∀ t ∈ l, t.Good (v : Int) := fun t ht => Tm.In.arg (t := .mk kd n s l) hg ht
            exact Zi4 v l _ _ hl ((h.set (fun _ => by simp only; omega)).frame s l.length) (by omega) (by simp; omega)
          · exact h
theorem Zi4 (v : Nat) : ∀ (l : List Tm) (c : List Ce) (k : Nat), (∀ t ∈ l, t.Good (v : Int)) → NF v c → v ≤ k → k + l.length ≤ c.length → NF v (Zbf c k l)
  | [], c, k, _, h, _, _ => by rw [Zbf]; exact h
  | t :: r, c, k, hl, h, hv, hk => by
    rw [Zbf]
    simp only [List.length_cons] at hk
    have := Zei t c k
    exact Zi4 v r _ _ (fun x hx => hl x (by simp [hx])) (Zpe v t c k (hl t (by simp)) h hv (by omega)) (by omega) (by omega)
end
theorem Zi5(v:Nat)(t:Tm)(c:List Ce)(hg:t.Good (v:Int))(hk:t.IsGoal)(h:NF v c)(hv:v<=c.length):NF v (ZaH c t)/\(ZaH c t)[c.length]?=some ⟨t.kind,(t.args.length:Int),t.s⟩:=by
 obtain⟨kd,n,s,l⟩:=t;rcases hk with hk|hk<;>simp only[Tm.kind]at hk<;>subst hk
 ·have e0:ZaH c (.mk 1 n s l)=(c++[(⟨0,0,ByteArray.empty⟩:Ce)]).set c.length ⟨1,0,s⟩:=by simp[ZaH,Tm.kind,Zcq]
  rw[e0];show _/\_=some (⟨1,(l.length:Int),s⟩:Ce);have hl:l=[]:=by cases hg;rfl
  subst hl;have e:(c++[(⟨0,0,ByteArray.empty⟩:Ce)]).set c.length ⟨1,0,s⟩=c++[⟨1,0,s⟩]:=by rw[List.set_append_right _ _ (zL _)];simp
  rw[e];refine⟨fun i y hy hv hk=>?_,by simp⟩;by_cases hl:i<c.length;·rw[List.getElem?_append_left hl]at hy;exact h i y hy hv hk
  ·rw[List.getElem?_append_right (by omega)]at hy;cases hq:i - c.length with|zero=>rw[hq]at hy;simp only[List.getElem?_cons_zero,Option.some.injEq]at hy;subst hy;simp at hk|succ j=>rw[hq]at hy;simp at hy
 ·have e0:ZaH c (.mk 3 n s l)=Zbf (c++⟨3,(l.length:Int),s⟩::List.replicate l.length ⟨0,0,ByteArray.empty⟩) (c.length+1) l:=by simp[ZaH,Tm.kind,Zdb]
  rw[e0];show _/\_=some (⟨3,(l.length:Int),s⟩:Ce);have hl:∀t∈l,t.Good (v:Int):=fun t ht=>Tm.In.arg (t:= .mk 3 n s l) hg ht;refine⟨Zi4 v l _ _ hl (h.frame s l.length) (by omega) (by simp;omega),?_⟩;rw[Zcb l _ _ c.length (by simp) (by omega),List.getElem?_append_right (zL _)];simp
theorem ZfK(v:Nat):∀(l:List Tm)(c:List Ce),(∀t∈l,t.IsGoal/\t.Good (v:Int))->NF v c->v<=c.length->NF v (Zak c l).1/\∀(j:Nat)(hj:j<l.length),∃a:Nat,(Zak c l).2[j]?=some (a:Int)/\(Zak c l).1[a]?=some ⟨l[j].kind,(l[j].args.length:Int),l[j].s⟩|[],c,_,h,_=>⟨h,fun j hj=>by simp at hj⟩|t::r,c,hl,h,hv=>by have hp:=ZeJ t c;obtain⟨k1,k2⟩:=Zi5 v t c (hl t (by simp)).2 (hl t (by simp)).1 h hv;obtain⟨k3,k4⟩:=ZfK v r (ZaH c t) (fun x hx=>hl x (by simp[hx])) k1 (by omega);simp only[Zak];refine⟨k3,fun j hj=>?_⟩;cases j with|zero=>exact⟨c.length,rfl,by rw[Zcx r _ _ hp];exact k2⟩|succ j=>obtain⟨a,e1,e2⟩:=k4 j (by simpa using hj);exact⟨a,by simpa using e1,by simpa using e2⟩
theorem Zi6(n:Nat):NF n (ZaR n):=fun i x hx hv _=>by rw[List.getElem?_eq_none (by rw[ZaQ];exact hv)]at hx;cases hx
section
variable {l F : List Ce} {φ : Int → Int} {E : Env} {N : Int}
def Zgl(l:List Ce)(N:Int)(φ:Int->Int)(x:Int):Int:=if x<l.length then φ x else N+(x - l.length)
theorem ZbH{a:Int}(h:Inb l a):Zaa (l++F.map (shC l.length)) a=Zaa l a/\Inb (l++F.map (shC l.length)) a:=by obtain⟨k,rfl,hk,e⟩:=ZaY h;rw[ZaC (show k<(l++F.map (shC l.length)).length by simp;omega),List.getElem_append_left hk,e];exact⟨rfl,zN _,by simp;omega⟩
theorem Znn(hg:GoodC l):Mor l (l++F.map (shC l.length)) (Inb l) id:=by
 have hok:∀a,Inb l a->(Zaa l a).OkAt l.length a.toNat:=fun a ha=>by obtain⟨k,rfl,hk,e⟩:=ZaY ha;rw[e,Int.toNat_natCast];exact hg k hk
 refine⟨fun a ha=>⟨ha,(ZbH ha).2⟩,fun a ha=>?_,fun a ha hk=>?_,fun a ha hk i hi=>?_,fun a b _ _ h=>h⟩;·show Zaa _ a=_;rw[(ZbH ha).1];unfold mvC;split<;>rfl
 ·have :=hok a ha;unfold Ce.OkAt at this;unfold Inb;omega
 ·have h1:=hok a ha;unfold Ce.OkAt at h1;have :=ha.1;exact⟨⟨by omega,by omega⟩,rfl⟩
theorem ZeK{v:Nat}(hF:NF v F){x:Int}(h:Free (l++F.map (shC l.length)) x):(x<l.length/\Free l x)\/((l.length:Int)<=x/\x<l.length+v):=by
 obtain⟨h1,h2,h3⟩:=h;by_cases hl:x<l.length;·have hi:Inb l x:=⟨h1.1,hl⟩;rw[(ZbH hi).1]at h2 h3;exact .inl ⟨hl,hi,h2,h3⟩
 ·refine .inr ⟨by omega,Classical.byContradiction fun hn=>?_⟩;have hi:Inb F (x - l.length):=⟨by omega,by have :=h1.2;simp only[List.length_append,List.length_map]at this;omega⟩;obtain⟨e1,e2⟩:=Zbp (H:=l) hi;rw[show x - (l.length:Int)+l.length=x by omega]at e1;rw[e1,Zd1]at h2;rw[e1,Zk0 _ h2]at h3;obtain⟨k,hk,hkl,e⟩:=ZaY hi;exact hF k _ (List.getElem?_eq_getElem hkl) (by omega) (by rw[<-e];exact h2) (by rw[<-e];omega)
theorem Zhv(hM:Mon N l φ E)(hE:EnvOk N E)(hN:0<=N){v:Nat}(hF:NF v F):Mon (N+v) (l++F.map (shC l.length)) (Zgl l N φ) E:=by
 refine⟨fun x y hx hy hlt=>?_,fun x hx=>?_,fun x hx=>?_⟩
 ·rcases ZeK hF hx with⟨a1,a2⟩|⟨a1,a2⟩<;>rcases ZeK hF hy with⟨b1,b2⟩|⟨b1,b2⟩<;>unfold Zgl;·rw[if_pos a1,if_pos b1];exact hM.lt x y a2 b2 hlt
  ·rw[if_pos a1,if_neg (by omega)];have :=hM.bd x a2;omega
  ·omega
  ·rw[if_neg (by omega),if_neg (by omega)];omega
 ·rcases ZeK hF hx with⟨a1,a2⟩|⟨a1,a2⟩<;>unfold Zgl;·rw[if_pos a1];have :=hM.bd x a2;omega
  ·rw[if_neg (by omega)];omega
 ·rcases ZeK hF hx with⟨a1,a2⟩|⟨a1,a2⟩<;>unfold Zgl;·rw[if_pos a1];exact hM.free x a2
  ·rw[if_neg (by omega),eget_none];intro p hp;have :=hE.key p hp;omega
theorem Zhw(hg:GoodC l){a:Int}{t:Tm}(ha:Inb l a)(h:Hr l φ E (fun _=>True) a t):Hr (l++F.map (shC l.length)) (Zgl l N φ) E (fun _=>True) a t:=(Znn (F:=F) hg).hr (fun x hx _ _=>⟨by show Zgl l N φ x=φ x;unfold Zgl;rw[if_pos hx.2],trivial⟩) h ha
theorem Zl0{L:List Ce}{g φ:Int->Int}{v:Int}(hE:EnvOk N E)(hN:0<=N)(hN2:N<1000000)(hv8:v<=8)(hφ:∀n,0<=n->n<v->φ (g n)=N+n):∀(t:Tm)(a:Int),t.Good v->Laid L g a t->Hr L φ E (fun _=>True) a (Za1 t N):=by
 intro t;induction t using Tm.induct with
  |h k n s l ih=>
   intro a hgd h;rw[Laid]at h;obtain⟨x,hx,hc⟩:=h;rcases hc with⟨rfl,rfl,rfl,rfl,h5⟩|⟨rfl,rfl,rfl,h4⟩|⟨rfl,rfl,rfl,h4⟩|⟨rfl,rfl,h3,h4⟩
   ·have hn:=Tm.In.n (t:= .mk 0 n ByteArray.empty []) hgd rfl;simp only[Tm.n]at hn;have e:Za1 (.mk 0 n ByteArray.empty []) N=tvar (N+n):=by unfold Za1 tvar;simp only[Tm.ren,if_true,Tm.renL,ZgY hn.1 (show n<1099511627776 by omega),ZgY hN (show N<1099511627776 by omega)];rw[Int.add_comm]
    have hst:slook E (tvar (N+n))=tvar (N+n):=ZaG (.inr (by rw[eget_none];intro p hp;have :=hE.key p hp;show p.1≠N+n;omega));rw[e];exact .var hx h5 trivial (by rw[hst];rfl) (by rw[hst,hφ n hn.1 hn.2];rfl)
   ·have e:Za1 (.mk 1 0 s []) N= .mk 1 0 s []:=by simp[Za1,Tm.ren,Tm.renL]
    have hst:slook E (.mk 1 0 s [])= .mk 1 0 s []:=ZaG (.inl (by simp[Tm.kind]));rw[e];exact .leaf hx (by rw[hst,h4]<;>rfl) (by rw[hst];simp[Tm.kind]) (by rw[hst];simp[Tm.kind]) (by rw[hst,h4]<;>rfl) (by rw[hst,h4]<;>rfl) (by rw[hst];rfl)
   ·have e:Za1 (.mk 2 n ByteArray.empty []) N= .mk 2 n ByteArray.empty []:=by simp[Za1,Tm.ren,Tm.renL]
    have hst:slook E (.mk 2 n ByteArray.empty [])= .mk 2 n ByteArray.empty []:=ZaG (.inl (by simp[Tm.kind]));rw[e];exact .leaf hx (by rw[hst,h4]<;>rfl) (by rw[hst];simp[Tm.kind]) (by rw[hst];simp[Tm.kind]) (by rw[hst,h4]<;>rfl) (by rw[hst,h4]<;>rfl) (by rw[hst];rfl)
   ·have e:Za1 (.mk 3 0 s l) N= .mk 3 0 s (l.map fun t=>Za1 t N):=by simp[Za1,Tm.ren,Tm.renL_map]
    have hst:slook E (.mk 3 0 s (l.map fun t=>Za1 t N))= .mk 3 0 s (l.map fun t=>Za1 t N):=ZaG (.inl (by simp[Tm.kind]));rw[e];have hL:∀(r:List Tm)(b:Int),Laid.LaidL L g b r->∀(i:Nat)(hi:i<r.length),Laid L g (b+(i:Nat)) r[i]:=by intro r;induction r with|nil=>intro b _ i hi;simp at hi|cons y r ihr=>intro b hb i hi;simp only[Laid.LaidL]at hb;cases i with|zero=>simpa using hb.1|succ i=>have :=ihr (b+1) hb.2 i (by simpa using hi);rw[show b+((i+1:Nat):Int)=b+1+(i:Nat)by omega];exact this
    refine .comp hx (by rw[h3]) (by rw[hst];rfl) (by rw[hst];rfl) (by rw[hst,h3];simp[Tm.args]) (by rw[hst,h3];rfl) ?_;rw[hst];intro i hi;simp only[Tm.args,List.length_map]at hi;simp only[Tm.args,List.getElem_map];exact ih _ (List.getElem_mem hi) _ (Tm.In.arg (t:= .mk 3 0 s l) hgd (List.getElem_mem hi)) (hL l _ h4 i hi)
end
end Go.Proofs.YtlpmfkpefoegeacDoor
