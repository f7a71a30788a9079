import Derived.Test.YtlpmfkpefoegeacDoorQMach10
import Derived.Test.YtlpmfkpefoegeacDoorQTidy
import Derived.Test.YtlpmfkpefoegeacDoorQTwo
namespace Go.Proofs.YtlpmfkpefoegeacDoor
set_option maxRecDepth 100000
set_option maxHeartbeats 16000000
set_option linter.all false
open Go.RowKit
theorem Zmq(l:List Ce):∀(w:Nat)(s:List Int)(ts:List Tm)(w':Nat),rdL l w s=some (ts,w')->Tm.nodesL ts+w'=w:=by
 intro w;induction w using Nat.strongRecOn with
  |_ w ih=>
   intro s ts w' h;match w,s,ih,h with
    |w,[],_,h=>rw[Zc0]at h;simp at h;obtain⟨rfl,rfl⟩:=h;simp[Tm.nodesL]
    |0,_::_,_,h=>rw[Zer]at h;cases h
    |w+1,a::r,ih,h=>
     rw[rdL]at h;try simp only at h
     split at h;·cases h
     ·split at h
      ·split at h;·simp at h
       ·rename_i _ ts1 w1 h1;have k0:=(ZgP l w _ _ _ h1).1;have k1:=ih w (by omega) _ _ _ h1;rw[Nat.min_eq_right k0]at h;split at h;·simp at h
        ·rename_i _ rs w2 h2;have k2:=ih w1 (by omega) _ _ _ h2;simp only[Option.some.injEq,Prod.mk.injEq]at h;obtain⟨rfl,rfl⟩:=h;simp only[Tm.nodesL,Tm.nodes];omega
      ·split at h;·simp at h
       ·rename_i _ rs w2 h2;have k2:=ih w (by omega) _ _ _ h2;simp only[Option.some.injEq,Prod.mk.injEq]at h;obtain⟨rfl,rfl⟩:=h;simp only[Tm.nodesL];split<;>simp only[Tm.nodes,Tm.nodesL]<;>omega
theorem Zfj{h:Hp}{a:Int}{left:Int}(hl:0<=left/\left<=200)(he:(ZaJ h a left).2.2=0):(((ZaJ h a left).1.nodes:Nat):Int)=(ZaJ h a left).2.1/\(ZaJ h a left).2.1<=left:=by
 have hlo:Zdy left=left:=by unfold Zdy;omega
 unfold ZaJ at he ⊢;split at he;·exact absurd he (by decide)
 ·rename_i hg;rw[if_neg hg];split at he;·exact absurd he (by decide)
  ·rename_i hi;rw[if_neg hi];rw[hlo]at he ⊢;unfold rd1 at he ⊢;cases hr:rdL h.cells left.toNat [a]with|none=>rw[hr]at he;exact absurd he (by simp[Zeb])|some p=>obtain⟨ts,w1⟩:=p;have h1:=(ZgP _ _ _ _ _ hr).2;have h2:=Zmq _ _ _ _ _ hr;cases ts with|nil=>simp at h1|cons t r=>cases r with|cons _ _=>simp at h1|nil=>simp only[Zeb,Tm.nodesL]at h2 ⊢;omega
theorem Zfk{h:Hp}{qr:Int}{j:Nat}:∀{n:Nat},j<=n->Zde h qr j=none->Zde h qr n=none
 |0,hj,e=>by rw[show j=0 by omega]at e;exact e
 |n+1,hj,e=>by
  by_cases hh:j=n+1;·rw[<-hh];exact e
  ·rw[Zde,Zfk (n:=n) (by omega) e]
theorem Zhd{h:Hp}{qr:Int}:∀{j:Nat}{ts:List Tm}{left:Int},Zde h qr j=some (ts,left)->ts.length=j/\0<=left/\(Tm.nodesL ts:Int)+left=200
 |0,ts,left,e=>by simp only[Zde,Option.some.injEq,Prod.mk.injEq]at e;obtain⟨rfl,rfl⟩:=e;simp[Tm.nodesL]
 |j+1,ts,left,e=>by
  rw[Zde]at e;split at e;·cases e
  ·rename_i _ l lf h1;obtain⟨k1,k2,k3⟩:=Zhd h1;split at e;·cases e
   ·rename_i h2;obtain⟨k4,k5⟩:=Zfj ⟨k2,by omega⟩ (Classical.not_not.1 h2);simp only[Option.some.injEq,Prod.mk.injEq]at e;obtain⟨rfl,rfl⟩:=e;refine⟨by simp[k1],by omega,?_⟩;rw[Tm.nodesL_append];simp only[Tm.nodesL];omega
section
variable {base : Nat} {P : List Cl} {q g : Nat} {pv hc ht : Value} {o : Mo} {m : Mv} {w : World}
theorem Zlb(h:MvI base P q g pv hc ht o m w)(hP:GoodP P)(hpre:∀e:Ev,ZeT P m.choices {m with out:=m.out++[e]})(hqr:∀v:Nat,v<q->I64 (m.query+(v:Nat)))(hfew:m.choices.length<900)(hfit:m.goals.length<=5900)(hout:m.out.length+2<=20):Calls Tryd.prog 58 #[.pointer (some ⟨g,0,none⟩)] w (ZgD base P q g pv o (ZbI P q m) w):=by
 have HU:=zh h;have HP:=zh hP;have HPRE:=zh hpre;have HQR:=zh hqr;have HFEW:=zh hfew;have HFIT:=zh hfit;have HOUT:=zh hout;obtain⟨hl1,hl2⟩:=h.lt;obtain⟨gv,cv,ov⟩:=o;obtain⟨pa,pc,ga,gc,ca,cc,oa,oc,ha,hac,hb,hbc,rfl,rfl,rfl,rfl,rfl,rfl, -, -, -, -, -, -,o1,o2⟩:=h.vals;obtain⟨b0,b1,b2,b3,b4,b5,b6,b7,b8,b9,bf⟩:=ZaM h.box;simp only at b3 b4 b9;unfold maxLen at o2;have hq8:=h.qq;have hqb:=h.qb;have hAF:ZbI P q m=match Zde m.h m.query q with|none=>(.off,m.put 4)|some (l,_)=>if m.out.length+1≥12 then(.off,({m with out:=m.out++[⟨1,tidy l⟩]}:Mv).put 6)else Zcs P m.choices {m with out:=m.out++[⟨1,tidy l⟩]}:=by unfold ZbI;cases Zde m.h m.query q with|none=>rfl|some p=>simp only[List.length_append,List.length_singleton]
 have HAF:=zh hAF;clear h hP hpre hqr hfew hfit hout hAF;go_enter Tryd.func58,Tryd.ntmps58;go_wp2_with fail;go_loopw[13,3,4](fun i lf v wr=>∃(j:Nat)(left:Int)(ts:List Tm),j<=q/\i= .int .i64 (j:Int)/\lf= .int .i64 left/\Zde m.h m.query j=some (ts,left)/\Below w.heap.size w wr/\OwnR wr w.heap.size 27 4 Tm.rep (fun b=>w.heap.size<=b) ts v)(fun i _ _ _=>q - (intOf i).toNat);case atStart=>exact⟨0,200,[],Nat.zero_le _,rfl,rfl,rfl,zB _ _,OwnR.nil ..⟩
 case round=>
  obtain⟨j,left,ts,hj,rfl,rfl,htk,hbw,hown⟩:=hrel;obtain⟨htl,hl0,hnn⟩:=Zhd htk;have HTK:=zh htk;have HTL:=zh htl;have HNN:=zh hnn;have HBW:=zh hbw;have HO:=zh hown;have HV:=zh (HU.o.below hbw);have hsz:=hbw.size;have hl200:left<=200:=by omega
  obtain⟨va,vc,rfl,hvc⟩:=hown.val;have htl4:ts.length<=8:=by omega
  clear htk htl hnn hbw hown b0 b1 b2 b3 b4 b5 b6 b7 b8 b9 bf;obtain⟨b0,b1,b2,b3,b4,b5,b6,b7,b8,b9,bf⟩:=ZaM HV.o.box;simp only at b1 b2 b3 b4 b9;have hgl2:=HV.o.lt.1;by_cases hlt:j<q
  ·have hlt':(j:Int)<(q:Int):=by omega
   have hj0:(0:Int)<=(j:Int):=zN _;have hIq:=HQR.o j hlt;have HIQ:=zh hIq;obtain⟨pl,hpl⟩:∃pl,pl=m.query+(j:Int):=⟨_,rfl⟩;have HPL:=zh hpl;have hwr:IntKind.i64.wrap (m.query+(j:Int))=pl:=by rw[hpl];exact IntWalk.i64_in _ hIq
   have HNX:=zh (show Zde m.h m.query (j+1)=if(ZaJ m.h pl left).2.2≠0 then none else some (ts++[(ZaJ m.h pl left).1],left - (ZaJ m.h pl left).2.1)by rw[Zde,HTK.o,hpl]);have HA:=zh (fun(W:World)(hbw:Below wr.heap.size wr W)=>(show W.cell? ⟨g,1,none⟩=some (.slice ha m.h.cells.length hac)/\W.cell? ⟨g,2,none⟩=some (.slice hb m.h.trail.length hbc)/\W.cell? ⟨g,7,none⟩=some (.int .i64 m.query)from⟨bc hbw b1,bc hbw b2,bc hbw b7⟩));have HTE:=zh (fun(W:World)(hbw:Below wr.heap.size wr W)=>Zmp m.h pl left (by rw[HPL.o];exact HIQ.o) (by unfold I64;omega) _ W _ (HV.o.below hbw).heap);have htl2:left<9223372036854775808:=by omega
   clear hpl hIq;go_wp2_with fail;have HF:∀{k:Nat},Below wr.heap.size wr wr.drew:=fun{k}=>(zB _ _).drew;refine ZaF (F:=fun k w'=>Below wr.heap.size wr w') (by kernel_rfl) ?_;refine ZaO (i:=0) (v:=?_) rfl (Or.inl ⟨by rfl,?_⟩) (HF (k:=0)) ?_;rotate_left;·(intro w' hw;clear hw;go_simp<;>with_reducible rfl)
   try simp only[zP]
   refine ZaO (i:=1) (v:=?_) rfl (Or.inl ⟨by rfl,?_⟩) (HF (k:=0)) ?_;rotate_left;·(intro w' hw;clear hw;go_simp<;>with_reducible rfl)
   try simp only[zP]
   refine ZaO (i:=2) (v:=?_) rfl (Or.inl ⟨by rfl,?_⟩) (HF (k:=0)) ?_;rotate_left;·(intro w' hw;clear hw;go_simp<;>with_reducible rfl)
   try simp only[zP]
   refine ZaO (i:=3) (v:= .agg #[.slice ha m.h.cells.length hac,.slice hb m.h.trail.length hbc]) rfl (Or.inl ⟨by rfl,?_⟩) (HF (k:=0)) ?_;·(intro w' hw;obtain⟨d1,d2,d3⟩:=HA.o w' hw;clear hw;go_simp)
   try simp only[zP]
   refine ZaO (i:=4) (v:=?_) rfl (Or.inl ⟨by rfl,?_⟩) (HF (k:=0)) ?_;rotate_left;·(intro w' hw;clear hw;go_simp<;>with_reducible rfl)
   try simp only[zP]
   refine ZaO (i:=5) (v:=?_) rfl (Or.inl ⟨by rfl,?_⟩) (HF (k:=0)) ?_;rotate_left;·(intro w' hw;clear hw;go_simp<;>with_reducible rfl)
   try simp only[zP]
   refine ZaO (i:=6) (v:=?_) rfl (Or.inl ⟨by rfl,?_⟩) (HF (k:=0)) ?_;rotate_left;·(intro w' hw;clear hw;go_simp<;>with_reducible rfl)
   try simp only[zP]
   refine ZaO (i:=7) (v:=?_) rfl (Or.inl ⟨by rfl,?_⟩) (HF (k:=0)) ?_;rotate_left;·(intro w' hw;obtain⟨d1,d2,d3⟩:=HA.o w' hw;clear hw;go_simp<;>with_reducible rfl)
   try simp only[zP]
   refine ZaO (i:=8) (v:=?_) rfl (Or.inl ⟨by rfl,?_⟩) (HF (k:=0)) ?_;rotate_left;·(intro w' hw;clear hw;go_simp<;>with_reducible rfl)
   try simp only[zP]
   refine ZaO (i:=9) (v:= .int .i64 pl) rfl (Or.inl ⟨by rfl,?_⟩) (HF (k:=0)) ?_;·(intro w' hw;clear hw;go_simp)
   try simp only[zP]
   refine ZaO (i:=10) (v:=?_) rfl (Or.inl ⟨by rfl,?_⟩) (HF (k:=0)) ?_;rotate_left;·(intro w' hw;clear hw;go_simp<;>with_reducible rfl)
   try simp only[zP]
   clear HF;have HBWd:=zh (show Below wr.heap.size wr wr.drew from(zB _ _).drew);have hzd:wr.heap.size<=wr.drew.heap.size:=zL _;generalize wr.drew=Wd at*;refine Zcw (i:=11) (j:=16) (by kernel_rfl) (Zae rfl (by rfl) ?_) (Zae rfl (by rfl) ?_)
   ·go_simp;refine(HTE.o Wd HBWd.o).mono ?_;rintro e w5⟨r,rfl,hb5,us,rfl,hus⟩;obtain⟨sa,sc,rfl, -⟩:=Tm.rep4 hus;have HB5:=zh (HBWd.o.trans (hb5.mono HBWd.o.size));have hz5:=hb5.size;have HUS:=zh hus;clear hb5 hus;refine⟨fun _ _ _=>HB5.o,?_⟩;try simp only[zP]
    refine ZaO (i:=12) (v:=?_) rfl (Or.inl ⟨by rfl,?_⟩) HB5.o ?_;rotate_left;·(intro w' hw;clear hw;go_simp<;>with_reducible rfl)
    try simp only[zP]
    refine ZaO (i:=13) (v:=?_) rfl (Or.inl ⟨by rfl,?_⟩) HB5.o ?_;rotate_left;·(intro w' hw;clear hw;go_simp<;>with_reducible rfl)
    try simp only[zP]
    refine ZaO (i:=14) (v:=?_) rfl (Or.inl ⟨by rfl,?_⟩) HB5.o ?_;rotate_left;·(intro w' hw;clear hw;go_simp<;>with_reducible rfl)
    try simp only[zP]
    refine ZaO (i:=15) (v:=?_) rfl (Or.inl ⟨by rfl,?_⟩) HB5.o ?_;rotate_left;·(intro w' hw;clear hw;go_simp<;>with_reducible rfl)
    try simp only[zP]
    refine Zac (i:=16) (by kernel_rfl) (Zae rfl (by rfl) ?_);go_simp;have HX6:=zh (show(w5.alloc (.cells #[.int .i64 0,.int .i64 0,.string {data:=#[]},.slice none 0 0] 27)).heap[w5.heap.size]?=_ from Zar _ _);have HB6:=zh (HB5.o.alloc HB5.o.size (.cells #[.int .i64 0,.int .i64 0,.string {data:=#[]},.slice none 0 0] 27));have HT6:=zh (Tm.rep_lasts.1 _ _ (w5.alloc (.cells #[.int .i64 0,.int .i64 0,.string {data:=#[]},.slice none 0 0] 27)) _ _ (Tm.rep_lasts.2.1 _ (fun b=>wr.heap.size<=b/\b≠w5.heap.size) _ _ _ HUS.o (fun b hb h=>⟨by unfold New at h;omega,by omega⟩)) (Keeps.alloc _ w5 _));have hbx:wr.heap.size<=w5.heap.size:=HB5.o.size;obtain⟨bx,hbxe⟩:∃bx,bx=w5.heap.size:=⟨_,rfl⟩;rw[<-hbxe]at HX6 HT6 hbx;rw[<-hbxe];clear hbxe;refine⟨fun _ _ _=>HB6.o,?_⟩;generalize w5.alloc (.cells #[.int .i64 0,.int .i64 0,.string {data:=#[]},.slice none 0 0] 27)=W6 at*;try simp only[zP]
    obtain⟨x0,x1,x2,x3,xf⟩:=Zbo HX6.o;have hxl6:=Zah HX6.o;have hcs:=Zap;refine Zac (i:=17) (by kernel_rfl) (Zae rfl (by rfl) ?_);go_simp;have HBX:=zh (show Below wr.heap.size wr ((((W6.setCell ⟨bx,0,none⟩ (.int .i64 (ZaJ m.h pl left).1.kind)).setCell ⟨bx,1,none⟩ (.int .i64 (ZaJ m.h pl left).1.n)).setCell ⟨bx,2,none⟩ (.string (ZaJ m.h pl left).1.s)).setCell ⟨bx,3,none⟩ (.slice sa (ZaJ m.h pl left).1.args.length sc))from(((HB6.o.setCell hbx _).setCell hbx _).setCell hbx _).setCell hbx _);have HTX:=zh (show Tm.rep (fun b=>wr.heap.size<=b/\b≠bx) ((((W6.setCell ⟨bx,0,none⟩ (.int .i64 (ZaJ m.h pl left).1.kind)).setCell ⟨bx,1,none⟩ (.int .i64 (ZaJ m.h pl left).1.n)).setCell ⟨bx,2,none⟩ (.string (ZaJ m.h pl left).1.s)).setCell ⟨bx,3,none⟩ (.slice sa (ZaJ m.h pl left).1.args.length sc)) (ZaJ m.h pl left).1 [.int .i64 (ZaJ m.h pl left).1.kind,.int .i64 (ZaJ m.h pl left).1.n,.string (ZaJ m.h pl left).1.s,.slice sa (ZaJ m.h pl left).1.args.length sc]from Tm.rep_lasts.1 _ _ _ _ _ HT6.o ((((Keeps.setCell _ W6 ⟨bx,0,none⟩ _ (fun h=>h.2 rfl)).trans (Keeps.setCell _ _ ⟨bx,1,none⟩ _ (fun h=>h.2 rfl))).trans (Keeps.setCell _ _ ⟨bx,2,none⟩ _ (fun h=>h.2 rfl))).trans (Keeps.setCell _ _ ⟨bx,3,none⟩ _ (fun h=>h.2 rfl))));have HXX:=zh (show((((W6.setCell ⟨bx,0,none⟩ (.int .i64 (ZaJ m.h pl left).1.kind)).setCell ⟨bx,1,none⟩ (.int .i64 (ZaJ m.h pl left).1.n)).setCell ⟨bx,2,none⟩ (.string (ZaJ m.h pl left).1.s)).setCell ⟨bx,3,none⟩ (.slice sa (ZaJ m.h pl left).1.args.length sc)).heap[bx]?=some (.cells #[.int .i64 (ZaJ m.h pl left).1.kind,.int .i64 (ZaJ m.h pl left).1.n,.string (ZaJ m.h pl left).1.s,.slice sa (ZaJ m.h pl left).1.args.length sc] 27 (0,0))from(Zal ((Zal ((Zal ((Zal HX6.o 0 _).trans rfl) 1 _).trans rfl) 2 _).trans rfl) 3 _).trans rfl);refine⟨fun _ _ _=>HBX.o,?_⟩;generalize(((W6.setCell ⟨bx,0,none⟩ (.int .i64 (ZaJ m.h pl left).1.kind)).setCell ⟨bx,1,none⟩ (.int .i64 (ZaJ m.h pl left).1.n)).setCell ⟨bx,2,none⟩ (.string (ZaJ m.h pl left).1.s)).setCell ⟨bx,3,none⟩ (.slice sa (ZaJ m.h pl left).1.args.length sc)=W8 at*;try simp only[zP]
    clear x0 x1 x2 x3 xf;refine Zac (i:=18) (by kernel_rfl) (Zae rfl (by rfl) ?_);go_simp;refine⟨fun _ _ h=>h,?_⟩;try simp only[zP]
    refine Zac (i:=19) (by kernel_rfl) (Zae rfl (by rfl) ?_);go_simp;refine⟨fun _ _ h=>h,Zau (by kernel_rfl) ?_ _⟩;have hz8:=HBX.o.size;have HV8:=zh (HV.o.below HBX.o);have HO8:=zh (HO.o.below Tm.rep_lasts HBX.o);have hgl8:g<W8.heap.size:=by omega
    have hxl8:=Zah HXX.o;by_cases he0:(ZaJ m.h pl left).2.2=0
    ·have HNX2:=zh (HNX.o.trans (if_neg (not_not_intro he0)));obtain⟨hle1,hle2⟩:=Zfj ⟨hl0,hl200⟩ he0;have hle3:(0:Int)<=((ZaJ m.h pl left).1.nodes:Int):=zN _;rw[he0];have hwr2:IntKind.i64.wrap (left - (ZaJ m.h pl left).2.1)=left - (ZaJ m.h pl left).2.1:=IntWalk.i64_in _ (by omega);have HL0:=zh (show 0<=left - (ZaJ m.h pl left).2.1 by omega);clear hle1 hle2 hle3 he0 hlt' hwr b0 b1 b2 b3 b4 b5 b6 b7 b8 b9 bf;obtain⟨x0,x1,x2,x3,xf⟩:=Zbo HXX.o;have hq9:j+1<=q:=hlt;have hLn:=zh (show ts.length<4194304/\w.heap.size<=W8.heap.size by omega);have HLT:=zh HO.o.lt;go_wp2_with(at_builtin;go_must(refine Zas rfl (.tmp 39) (.tmp 41) 22 rfl w.heap.size 27 4 56 Zfn Tm.rep_lasts (A:=fun b=>w.heap.size<=b) _ _ rfl HO8.o (ZaJ m.h pl left).1 [_,_,_,_] rfl rfl (Tm.rep_lasts.2.1 _ _ _ _ _ HTX.o (fun b hb h=>⟨by omega,fun e=>by have :=(HLT.o b e).2;have :=h.1;omega⟩)) hLn.out ?_);go_must(intro v2 w6 hown2 hgrew;obtain⟨va2,vc2,hv2,hvc2⟩:=hown2.val;rw[show(ts++[(ZaJ m.h pl left).1]).length=ts.length+1 by simp]at hv2;subst hv2;have HO2:=zh hown2;have HG2:=zh hgrew;clear hown2 hgrew));have HB9:=zh (HG2.o.below ((HBW.o.trans (HBX.o.mono hsz)).alloc (by omega) _) (by simp;omega) (fun k hk=>(HLT.o k hk).1));go_roundw;case rel=>exact⟨j+1,_,ts++[(ZaJ m.h pl left).1],hq9,by go_num,rfl,HNX2.o,HB9.o,HO2.o⟩
     case measure=>simp[intOf];omega
    ·have HNX2:=zh (HNX.o.trans (if_pos he0));have hres:=zh (show ZbI P q m=(.off,m.put 4)by rw[HAF.o,Zfk (j:=j+1) hlt HNX2.o]);have HEN:=zh (Zch 4 (by unfold I64;omega) HV8.o (by have :=HOUT.o;omega));clear hlt' hwr b0 b1 b2 b3 b4 b5 b6 b7 b8 b9 bf;go_wp2_with fail;refine HEN.o.mono ?_;rintro e W9⟨rfl,hst⟩;have HST:=zh (MaStep.trans (Ch.of_below (HBW.o.trans (HBX.o.mono hsz))) (MGrow.refl w _) hst);clear hst;go_wp2_with fail;go_ret;rw[hres.o];exact⟨rfl,HST.o⟩
   ·go_simp;have HX3:=zh (show(Wd.alloc (.cells #[.int .i64 0,.int .i64 0,.string {data:=#[]},.slice none 0 0] 27)).heap[Wd.heap.size]?=_ from Zar _ _);have HBW3:=zh (HBWd.o.alloc HBWd.o.size (.cells #[.int .i64 0,.int .i64 0,.string {data:=#[]},.slice none 0 0] 27));obtain⟨bx,hbxe⟩:∃bx,bx=Wd.heap.size:=⟨_,rfl⟩;have hbx:wr.heap.size<=bx:=by omega
    have hs3:(Wd.alloc (.cells #[.int .i64 0,.int .i64 0,.string {data:=#[]},.slice none 0 0] 27)).heap.size=bx+1:=by simp[hbxe]
    rw[<-hbxe]at HX3;rw[<-hbxe];clear hbxe;refine⟨fun _ _ _=>HBW3.o,?_⟩;generalize Wd.alloc (.cells #[.int .i64 0,.int .i64 0,.string {data:=#[]},.slice none 0 0] 27)=W3 at*;try simp only[zP]
    refine Zac (i:=11) (by kernel_rfl) (Zae rfl (by rfl) ?_);go_simp;refine(HTE.o W3 HBW3.o).mono ?_;rintro e w5⟨r,rfl,hb5,us,rfl,hus⟩;obtain⟨sa,sc,rfl, -⟩:=Tm.rep4 hus;have HB5:=zh (HBW3.o.trans (hb5.mono HBW3.o.size));have hz5:=hb5.size;have HUS:=zh hus;have HX6:=zh (Zad HX3.o hb5);clear hb5 hus;refine⟨fun _ _ _=>HB5.o,?_⟩;try simp only[zP]
    refine ZaO (i:=12) (v:=?_) rfl (Or.inl ⟨by rfl,?_⟩) HB5.o ?_;rotate_left;·(intro w' hw;clear hw;go_simp<;>with_reducible rfl)
    try simp only[zP]
    refine ZaO (i:=13) (v:=?_) rfl (Or.inl ⟨by rfl,?_⟩) HB5.o ?_;rotate_left;·(intro w' hw;clear hw;go_simp<;>with_reducible rfl)
    try simp only[zP]
    refine ZaO (i:=14) (v:=?_) rfl (Or.inl ⟨by rfl,?_⟩) HB5.o ?_;rotate_left;·(intro w' hw;clear hw;go_simp<;>with_reducible rfl)
    try simp only[zP]
    refine ZaO (i:=15) (v:=?_) rfl (Or.inl ⟨by rfl,?_⟩) HB5.o ?_;rotate_left;·(intro w' hw;clear hw;go_simp<;>with_reducible rfl)
    try simp only[zP]
    have HB6:=zh HB5.o;have HT6:=zh (Tm.rep_lasts.2.1 _ (fun b=>wr.heap.size<=b/\b≠bx) _ _ _ HUS.o (fun b hb h=>⟨by unfold New at h;omega,by unfold New at h;omega⟩));generalize w5=W6 at*;obtain⟨x0,x1,x2,x3,xf⟩:=Zbo HX6.o;have hxl6:=Zah HX6.o;have hcs:=Zap;refine Zac (i:=17) (by kernel_rfl) (Zae rfl (by rfl) ?_);go_simp;have HBX:=zh (show Below wr.heap.size wr ((((W6.setCell ⟨bx,0,none⟩ (.int .i64 (ZaJ m.h pl left).1.kind)).setCell ⟨bx,1,none⟩ (.int .i64 (ZaJ m.h pl left).1.n)).setCell ⟨bx,2,none⟩ (.string (ZaJ m.h pl left).1.s)).setCell ⟨bx,3,none⟩ (.slice sa (ZaJ m.h pl left).1.args.length sc))from(((HB6.o.setCell hbx _).setCell hbx _).setCell hbx _).setCell hbx _);have HTX:=zh (show Tm.rep (fun b=>wr.heap.size<=b/\b≠bx) ((((W6.setCell ⟨bx,0,none⟩ (.int .i64 (ZaJ m.h pl left).1.kind)).setCell ⟨bx,1,none⟩ (.int .i64 (ZaJ m.h pl left).1.n)).setCell ⟨bx,2,none⟩ (.string (ZaJ m.h pl left).1.s)).setCell ⟨bx,3,none⟩ (.slice sa (ZaJ m.h pl left).1.args.length sc)) (ZaJ m.h pl left).1 [.int .i64 (ZaJ m.h pl left).1.kind,.int .i64 (ZaJ m.h pl left).1.n,.string (ZaJ m.h pl left).1.s,.slice sa (ZaJ m.h pl left).1.args.length sc]from Tm.rep_lasts.1 _ _ _ _ _ HT6.o ((((Keeps.setCell _ W6 ⟨bx,0,none⟩ _ (fun h=>h.2 rfl)).trans (Keeps.setCell _ _ ⟨bx,1,none⟩ _ (fun h=>h.2 rfl))).trans (Keeps.setCell _ _ ⟨bx,2,none⟩ _ (fun h=>h.2 rfl))).trans (Keeps.setCell _ _ ⟨bx,3,none⟩ _ (fun h=>h.2 rfl))));have HXX:=zh (show((((W6.setCell ⟨bx,0,none⟩ (.int .i64 (ZaJ m.h pl left).1.kind)).setCell ⟨bx,1,none⟩ (.int .i64 (ZaJ m.h pl left).1.n)).setCell ⟨bx,2,none⟩ (.string (ZaJ m.h pl left).1.s)).setCell ⟨bx,3,none⟩ (.slice sa (ZaJ m.h pl left).1.args.length sc)).heap[bx]?=some (.cells #[.int .i64 (ZaJ m.h pl left).1.kind,.int .i64 (ZaJ m.h pl left).1.n,.string (ZaJ m.h pl left).1.s,.slice sa (ZaJ m.h pl left).1.args.length sc] 27 (0,0))from(Zal ((Zal ((Zal ((Zal HX6.o 0 _).trans rfl) 1 _).trans rfl) 2 _).trans rfl) 3 _).trans rfl);refine⟨fun _ _ _=>HBX.o,?_⟩;generalize(((W6.setCell ⟨bx,0,none⟩ (.int .i64 (ZaJ m.h pl left).1.kind)).setCell ⟨bx,1,none⟩ (.int .i64 (ZaJ m.h pl left).1.n)).setCell ⟨bx,2,none⟩ (.string (ZaJ m.h pl left).1.s)).setCell ⟨bx,3,none⟩ (.slice sa (ZaJ m.h pl left).1.args.length sc)=W8 at*;try simp only[zP]
    clear x0 x1 x2 x3 xf;refine Zac (i:=18) (by kernel_rfl) (Zae rfl (by rfl) ?_);go_simp;refine⟨fun _ _ h=>h,?_⟩;try simp only[zP]
    refine Zac (i:=19) (by kernel_rfl) (Zae rfl (by rfl) ?_);go_simp;refine⟨fun _ _ h=>h,Zau (by kernel_rfl) ?_ _⟩;have hz8:=HBX.o.size;have HV8:=zh (HV.o.below HBX.o);have HO8:=zh (HO.o.below Tm.rep_lasts HBX.o);have hgl8:g<W8.heap.size:=by omega
    have hxl8:=Zah HXX.o;by_cases he0:(ZaJ m.h pl left).2.2=0
    ·have HNX2:=zh (HNX.o.trans (if_neg (not_not_intro he0)));obtain⟨hle1,hle2⟩:=Zfj ⟨hl0,hl200⟩ he0;have hle3:(0:Int)<=((ZaJ m.h pl left).1.nodes:Int):=zN _;rw[he0];have hwr2:IntKind.i64.wrap (left - (ZaJ m.h pl left).2.1)=left - (ZaJ m.h pl left).2.1:=IntWalk.i64_in _ (by omega);have HL0:=zh (show 0<=left - (ZaJ m.h pl left).2.1 by omega);clear hle1 hle2 hle3 he0 hlt' hwr b0 b1 b2 b3 b4 b5 b6 b7 b8 b9 bf;obtain⟨x0,x1,x2,x3,xf⟩:=Zbo HXX.o;have hq9:j+1<=q:=hlt;have hLn:=zh (show ts.length<4194304/\w.heap.size<=W8.heap.size by omega);have HLT:=zh HO.o.lt;go_wp2_with(at_builtin;go_must(refine Zas rfl (.tmp 39) (.tmp 41) 22 rfl w.heap.size 27 4 56 Zfn Tm.rep_lasts (A:=fun b=>w.heap.size<=b) _ _ rfl HO8.o (ZaJ m.h pl left).1 [_,_,_,_] rfl rfl (Tm.rep_lasts.2.1 _ _ _ _ _ HTX.o (fun b hb h=>⟨by omega,fun e=>by have :=(HLT.o b e).2;have :=h.1;omega⟩)) hLn.out ?_);go_must(intro v2 w6 hown2 hgrew;obtain⟨va2,vc2,hv2,hvc2⟩:=hown2.val;rw[show(ts++[(ZaJ m.h pl left).1]).length=ts.length+1 by simp]at hv2;subst hv2;have HO2:=zh hown2;have HG2:=zh hgrew;clear hown2 hgrew));have HB9:=zh (HG2.o.below ((HBW.o.trans (HBX.o.mono hsz)).alloc (by omega) _) (by simp;omega) (fun k hk=>(HLT.o k hk).1));go_roundw;case rel=>exact⟨j+1,_,ts++[(ZaJ m.h pl left).1],hq9,by go_num,rfl,HNX2.o,HB9.o,HO2.o⟩
     case measure=>simp[intOf];omega
    ·have HNX2:=zh (HNX.o.trans (if_pos he0));have hres:=zh (show ZbI P q m=(.off,m.put 4)by rw[HAF.o,Zfk (j:=j+1) hlt HNX2.o]);have HEN:=zh (Zch 4 (by unfold I64;omega) HV8.o (by have :=HOUT.o;omega));clear hlt' hwr b0 b1 b2 b3 b4 b5 b6 b7 b8 b9 bf;go_wp2_with fail;refine HEN.o.mono ?_;rintro e W9⟨rfl,hst⟩;have HST:=zh (MaStep.trans (Ch.of_below (HBW.o.trans (HBX.o.mono hsz))) (MGrow.refl w _) hst);clear hst;go_wp2_with fail;go_ret;rw[hres.o];exact⟨rfl,HST.o⟩
  ·have hje:j=q:=by omega
   have hAF2:=HTK.o;rw[hje]at hAF2;have HAF2:=zh (show ZbI P q m=if m.out.length+1≥12 then(.off,({m with out:=m.out++[⟨1,tidy ts⟩]}:Mv).put 6)else Zcs P m.choices {m with out:=m.out++[⟨1,tidy ts⟩]}by rw[HAF.o,hAF2]);clear hje hAF2;have HTS:=zh (HO.o.sl Tm.rep_lasts (A:=fun b=>w.heap.size<=b) (by omega) (fun b hb=>hb));have hnd:=zh (show Tm.nodesL ts<=4194303 by have :=HNN.o;omega);have hM1:wr.drew.cell? ⟨g,9,none⟩=some (.slice oa m.out.length oc):=b9;go_wp2_with fail;refine ZaF (F:=fun k w'=>k=4->w'.cell? ⟨g,9,none⟩=some (.slice oa m.out.length oc)) (by kernel_rfl) ?_;refine ZaO (i:=0) (v:=?_) rfl (Or.inl ⟨by rfl,?_⟩) (fun _=>hM1) ?_;rotate_left;·(intro w' hw;clear hw;go_simp<;>with_reducible rfl)
   try simp only[zP]
   refine ZaO (i:=1) (v:=?_) rfl (Or.inl ⟨by rfl,?_⟩) (fun _=>hM1) ?_;rotate_left;·(intro w' hw;clear hw;go_simp<;>with_reducible rfl)
   try simp only[zP]
   refine ZaO (i:=2) (v:=?_) rfl (Or.inl ⟨by rfl,?_⟩) (fun _=>hM1) ?_;rotate_left;·(intro w' hw;clear hw;go_simp<;>with_reducible rfl)
   try simp only[zP]
   refine ZaO (i:=3) (v:=?_) rfl (Or.inl ⟨by rfl,?_⟩) (fun _=>hM1) ?_;rotate_left;·(intro w' hw;clear hw;go_simp<;>with_reducible rfl)
   try simp only[zP]
   refine ZaO (i:=4) (v:=?_) rfl (Or.inl ⟨by rfl,?_⟩) (fun _=>hM1) ?_;rotate_left;·(intro w' hw;have q0:=hw rfl;clear hw;go_simp<;>with_reducible rfl)
   try simp only[zP]
   refine ZaO (i:=5) (v:=?_) rfl (Or.inl ⟨by rfl,?_⟩) (fun _=>hM1) ?_;rotate_left;·(intro w' hw;clear hw;go_simp<;>with_reducible rfl)
   try simp only[zP]
   refine Zac (i:=6) (by kernel_rfl) (Zae rfl (by rfl) ?_);go_simp;refine(ZoN ts hnd.out (fun b=>w.heap.size<=b) wr.drew _ (SlR.keeps Tm.rep_lasts HTS.o (Keeps.drew _ _))).mono ?_;rintro e w5⟨lv,rfl,hb5,hlv⟩;have HB5:=zh (show Below wr.heap.size wr w5 from((Below.refl _ wr).drew).trans hb5);have HLV:=zh (show TmsR (New wr.drew) w5 (tidy ts) lv from hlv);obtain⟨la,lc, -, -,hlve, -⟩:=SlR.at hlv;subst hlve;have HV5:=zh (HV.o.below HB5.o);have HO5:=zh HV5.o.out;have hz5:=hb5.size;simp only[World.size_drew]at hz5;have hF5:=zh (show w5.cell? ⟨g,9,none⟩=some (.slice oa m.out.length oc)from(ZaM HV5.o.box).2.2.2.2.2.2.2.2.2.1);clear hb5 hlv;refine⟨fun _ _ _ _=>hF5.out,?_⟩;try simp only[zP]
   refine ZaO (i:=7) (v:=?_) rfl (Or.inl ⟨by rfl,?_⟩) (fun _=>hF5.out) ?_;rotate_left;·(intro w' hw;clear hw;go_simp<;>with_reducible rfl)
   try simp only[zP]
   refine Zac (i:=8) (by kernel_rfl) (Zae rfl (by rfl) ?_);go_simp;refine⟨fun _ _ _ _=>(Keeps.alloc (fun _=>True) w5 _).cell trivial hF5.out,?_⟩;try simp only[zP]
   refine Zac (i:=9) (by kernel_rfl) (Zae rfl (by rfl) ?_);have hml:=zh HV5.o.mm_lt;refine Zce (.tmp 48) (.tmp 52) 62 rfl base 66 2 32 Zpg evR_lasts (A:=MA g ⟨.slice ga m.goals.length gc,.slice ca m.choices.length cc,.slice oa m.out.length oc⟩) (.slice oa m.out.length oc) m.out rfl HO5.o ⟨1,tidy ts⟩ [.int .i64 1,.slice la (tidy ts).length lc] rfl rfl ⟨_,rfl,SlR.mono Tm.rep_lasts (by omega) HLV.o (fun b _ hb=>⟨fun hs=>by have h1:=(HV.o.mm_lt b hs).2;have h2:wr.drew.heap.size<=b:=hb;simp only[World.size_drew]at h2;omega,fun e=>by have h1:=(HV.o.out.lt b e).2;have h2:wr.drew.heap.size<=b:=hb;simp only[World.size_drew]at h2;omega⟩),show I64 1 by unfold I64;omega⟩ ⟨by have :=HOUT.o;omega,by have :=HV5.o.lt;omega⟩ ?_;intro v2 w6 hown2 hgrew;have hog:Zai (.slice oa m.out.length oc)≠some g:=fun e=>HV5.o.apart.og e;have HG6:=zh (show w6.heap[g]?=_ from(hgrew.grown.block g (by simp;omega) (fun e=>HV5.o.apart.og e.symm)).trans (Zag HV5.o.box _));obtain⟨va2,vc2,hv2,hvl2,hvm2⟩:=OwnR.val' hown2;rw[show(m.out++[(⟨1,tidy ts⟩:Ev)]).length=m.out.length+1 by simp]at hv2;subst hv2;have HST6:=zh (HV5.o.tell (by have :=HOUT.o;omega) hown2 hgrew);have hgg6:g<w6.heap.size:=Zah HG6.o;have hzz6:=hgrew.size;refine⟨fun _ _ _ _=>?_,?_⟩;·exact(hgrew.keeps (A:=fun b=>Zai (.slice oa m.out.length oc)≠some b) (fun _ h=>h)).cell hog ((Keeps.alloc (fun _=>True) w5 _).cell trivial hF5.out)
   clear hown2 hgrew b0 b1 b2 b3 b4 b5 b6 b7 b8 b9 bf;obtain⟨b0,b1,b2,b3,b4,b5,b6,b7,b8,b9,bf⟩:=ZaM HG6.o;simp only at b3 b4 b9;try simp only[zP]
   refine ZaO (i:=10) (v:=?_) rfl (Or.inl ⟨by rfl,?_⟩) (fun h=>by omega) ?_;rotate_left;·(intro w' hw;clear hw;go_simp<;>with_reducible rfl)
   try simp only[zP]
   refine ZaO (i:=11) (v:=?_) rfl (Or.inl ⟨by rfl,?_⟩) (fun h=>by omega) ?_;rotate_left;·(intro w' hw;clear hw;go_simp<;>with_reducible rfl)
   try simp only[zP]
   refine Zac (i:=12) (by kernel_rfl) (Zae rfl (by rfl) ?_);go_simp;refine⟨fun k0 hk0 _ h12=>?_,Zau (by kernel_rfl) ?_ _⟩;·subst h12;exact absurd (show waits _ 12 4=true by kernel_rfl) (by rw[hk0];decide)
   clear b0 b1 b2 b3 b4 b5 b6 b7 b8 b9 bf;generalize w6.setCell ⟨g,9,none⟩ (.slice va2 (m.out.length+1) vc2)=w7 at*;obtain⟨hc7,ht7,o7,hmv7,hch7,hgr7⟩:=HST6.o;have HV7:=zh hmv7;have HSTEP:=zh (fun(m':Mv)(W':World)(hh:MaStep base P q g (.slice pa P.length pc) o7 m' w7 W')=>(MaStep.trans (Ch.of_below (HBW.o.trans (HB5.o.mono hsz))) (MGrow.refl w _) (MaStep.trans hch7 hgr7 hh)));obtain⟨-, -, -, -, -, -,o7a,o7c, -, -, -, -, -, -, -,ho7, -⟩:=hmv7.vals;obtain⟨b0,b1,b2,b3,b4,b5,b6,b7,b8,b9,bf⟩:=ZaM hmv7.box;have hgl7:=hmv7.lt.1;rw[ho7]at b9;simp only[List.length_append,List.length_singleton]at b9;have hout18:m.out.length<=18:=by have :=HOUT.o;omega
   have HBK:=zh (fun(h12:¬m.out.length+1≥12)=>ZhJ hmv7 HP.o (HPRE.o _) HFEW.o HFIT.o (by simp;omega));have HEN:=zh (Zch 6 (by unfold I64;omega) hmv7 (by simp;omega));clear hmv7 hch7 hgr7 ho7;by_cases h12:m.out.length+1≥12;·have hres:=zh (HAF2.o.trans (if_pos h12));go_wp2_with fail;refine HEN.o.mono ?_;rintro e W9⟨rfl,hst⟩;have HST:=zh (HSTEP.o _ _ hst);clear hst;go_wp2_with fail;go_ret;rw[hres.o];exact⟨rfl,HST.o⟩
   ·have hres:=zh (HAF2.o.trans (if_neg h12));go_wp2_with fail;refine(HBK.o h12).mono ?_;rintro e W9⟨rfl,hst⟩;have HST:=zh (HSTEP.o _ _ hst);clear hst;go_wp2_with fail;go_ret;rw[hres.o];exact⟨rfl,HST.o⟩
end
end Go.Proofs.YtlpmfkpefoegeacDoor
