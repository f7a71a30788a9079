import Derived.Test.YtlpmfkpefoegeacGreatDoorQMach10
import Derived.Test.YtlpmfkpefoegeacGreatDoorQTidy
namespace Go.Proofs.YtlpmfkpefoegeacGreatDoor
set_option maxRecDepth 99999
set_option maxHeartbeats 0
set_option linter.all false
open Go.RowKit
theorem arj(l:List Ce):∀(w:Nat)(s:List Int)(ts:List Tm)(w':Nat),eG l w s=some (ts,w')->Tm.bq ts+w'=w:=by
 intro w;induction w using Nat.strongRecOn with
  |_ w ih=>
   intro s ts w' h;match w,s,ih,h with
    |w,[],_,h=>rw[AL]at h;simp at h;obtain⟨rfl,rfl⟩:=h;simp[Tm.bq]
    |0,_::_,_,h=>rw[JW]at h;cases h
    |w+1,a::r,ih,h=>
     rw[eG]at h;try simp only at h
     split at h;·cases h
     ·split at h
      ·split at h;·simp at h
       ·rename_i _ JY w1 h1;have k0:=(GG l w _ _ _ h1).1;have k1:=ih w (by omega) _ _ _ h1;rw[Ga k0]at h;split at h;·simp at h
        ·rename_i _ rs w2 h2;have k2:=ih w1 (by omega) _ _ _ h2;simp only[dm,lD]at h;obtain⟨rfl,rfl⟩:=h;simp only[Tm.bq,Tm.nodes];omega
      ·split at h;·simp at h
       ·rename_i _ rs w2 h2;have k2:=ih w (by omega) _ _ _ h2;simp only[dm,lD]at h;obtain⟨rfl,rfl⟩:=h;simp only[Tm.bq];split<;>simp only[Tm.nodes,Tm.bq]<;>omega
theorem agS{h:Hp}{a:Int}{left:Int}(hl:0<=left/\left<=200)(he:(dU h a left).2.2=0):(((dU h a left).1.nodes:Nat):Int)=(dU h a left).2.1/\(dU h a left).2.1<=left:=by
 have hlo:leftOf left=left:=by unfold leftOf;omega
 unfold dU at he ⊢;split at he;·exact absurd he (by decide)
 ·rename_i hg;rw[ag hg];split at he;·exact absurd he (by decide)
  ·rename_i hi;rw[ag hi];rw[hlo]at he ⊢;unfold jD at he ⊢;cases hr:eG h.cells left.toNat [a]with|none=>rw[hr]at he;exact absurd he (by simp[zH])|some p=>obtain⟨ts,w1⟩:=p;have h1:=(GG _ _ _ _ _ hr).2;have h2:=arj _ _ _ _ _ hr;cases ts with|nil=>simp at h1|cons t r=>cases r with|cons _ _=>simp at h1|nil=>simp only[zH,Tm.bq]at h2 ⊢;omega
theorem agT{h:Hp}{qr:Int}{j:Nat}:∀{n:Nat},j<=n->oI h qr j=none->oI h qr n=none
 |0,hj,e=>by rw[show j=0 by omega]at e;exact e
 |n+1,hj,e=>by
  by_cases hh:j=n+1;·rw[<-hh];exact e
  ·rw[oI,agT (n:=n) (by omega) e]
theorem agU{h:Hp}{qr:Int}:∀{j:Nat}{ts:List Tm}{left:Int},oI h qr j=some (ts,left)->ts.length=j/\0<=left/\(Tm.bq ts:Int)+left=200
 |0,ts,left,e=>by simp only[oI,dm,lD]at e;obtain⟨rfl,rfl⟩:=e;simp[Tm.bq]
 |j+1,ts,left,e=>by
  rw[oI]at e;split at e;·cases e
  ·rename_i _ l lf h1;obtain⟨k1,k2,k3⟩:=agU h1;split at e;·cases e
   ·rename_i h2;obtain⟨k4,k5⟩:=agS ⟨k2,by omega⟩ (Vm.1 h2);simp only[dm,lD]at e;obtain⟨rfl,rfl⟩:=e;refine⟨by simp[k1],by omega,?_⟩;rw[Tm.JI];simp only[Tm.bq];omega
section
variable {base : Nat} {P : List Cl} {q g : Nat} {pv hc ht : Value} {o : Mo} {m : Mv} {w : World}
theorem ark(h:bZ base P q g pv hc ht o m w)(hP:dW P)(hpre:∀e:Ev,uB P m.choices {m with out:=m.out++[e]})(uG:∀v:Nat,v<q->aA (m.query+(v:Nat)))(sH:m.choices.length<900)(hfit:m.goals.length<=5900)(hout:m.out.length+2<=20):Calls Tryz.prog 35 #[.pointer (some ⟨g,0,none⟩)] w (YH base P q g pv o (ui P q m) w):=by
 have HU:=zh h;have HP:=zh hP;have uC:=zh hpre;have Dz:=zh uG;have L9:=zh sH;have Bj:=zh hfit;have ig:=zh hout;obtain⟨hl1,hl2⟩:=h.lt;obtain⟨gv,cv,ov⟩:=o;obtain⟨pa,pc,ga,gc,ca,cc,oa,oc,ha,hac,hb,hbc,rfl,rfl,rfl,rfl,rfl,rfl, -, -, -, -, -, -,o1,o2⟩:=h.vals;obtain⟨b0,b1,b2,b3,b4,b5,b6,b7,b8,b9,bf⟩:=bV h.box;simp only at b3 b4 b9;unfold maxLen at o2;have hq8:=h.qq;have MC:ui P q m=match oI m.h m.query q with|none=>(.off,m.put 4)|some (l,_)=>if m.out.length+1≥12 then(.off,({m with out:=m.out++[⟨1,tidy l⟩]}:Mv).put 6)else kF P m.choices {m with out:=m.out++[⟨1,tidy l⟩]}:=by unfold ui;cases oI m.h m.query q with|none=>rfl|some p=>simp only[bT,jr]
 have ME:=zh MC;clear h hP hpre uG sH hfit hout MC;go_enter Tryz.func35,Tryz.ntmps35;go_wp2_with fail;go_loopw[13,3,4](fun i lf v wr=>∃(j:Nat)(left:Int)(ts:List Tm),j<=q/\i= .int .i64 (j:Int)/\lf= .int .i64 left/\oI m.h m.query j=some (ts,left)/\Below w.heap.size w wr/\aG wr w.heap.size 34 4 Tm.rep (fun b=>w.heap.size<=b) ts v)(fun i _ _ _=>q - (intOf i).toNat);case atStart=>exact⟨0,200,[],dn _,rfl,rfl,rfl,zB _ _,aG.nil ..⟩
 case round=>
  obtain⟨j,left,ts,hj,rfl,rfl,htk,hbw,hown⟩:=hrel;obtain⟨htl,hl0,hnn⟩:=agU htk;have fT:=zh htk;have uX:=zh hnn;have fA:=zh hbw;have HO:=zh hown;have HV:=zh (HU.o.below hbw);have hsz:=hbw.size;have arl:left<=200:=by omega
  obtain⟨va,vc,rfl,qG⟩:=hown.val;have QT:ts.length<=8:=by omega
  clear htk htl hnn hbw hown b0 b1 b2 b3 b4 b5 b6 b7 b8 b9 bf;obtain⟨b0,b1,b2,b3,b4,b5,b6,b7,b8,b9,bf⟩:=bV HV.o.box;simp only at b1 b2 b3 b4 b9;have azg:=HV.o.lt.1;by_cases hlt:j<q
  ·have hlt':(j:Int)<(q:Int):=by omega
   have Ze:=Dz.o j hlt;have DC:=zh Ze;obtain⟨pl,hpl⟩:∃pl,pl=m.query+(j:Int):=⟨_,rfl⟩;have QE:=zh hpl;have hwr:IntKind.i64.wrap (m.query+(j:Int))=pl:=by rw[hpl];exact Cn _ Ze
   have ji:=zh (show oI m.h m.query (j+1)=if(dU m.h pl left).2.2≠0 then none else some (ts++[(dU m.h pl left).1],left - (dU m.h pl left).2.1)by rw[oI,fT.o,hpl]);have HA:=zh (fun(W:World)(hbw:Below wr.heap.size wr W)=>(show W.cell? ⟨g,1,none⟩=some (.slice ha m.h.cells.length hac)/\W.cell? ⟨g,2,none⟩=some (.slice hb m.h.trail.length hbc)/\W.cell? ⟨g,7,none⟩=some (.int .i64 m.query)from⟨bc hbw b1,bc hbw b2,bc hbw b7⟩));have Sk:=zh (fun(W:World)(hbw:Below wr.heap.size wr W)=>aq1 m.h pl left (by rw[QE.o];exact DC.o) (by unfold aA;omega) _ W _ (HV.o.below hbw).heap);clear hpl Ze;go_wp2_with fail;have HF:∀{k:Nat},Below wr.heap.size wr wr.drew:=fun{k}=>(zB _ _).drew;refine iG (F:=fun k w'=>Below wr.heap.size wr w') (by kernel_rfl) ?_;refine aD (i:=0) (v:=?_) rfl (Or.inl ⟨by rfl,?_⟩) (HF (k:=0)) ?_;rotate_left;·(intro w' hw;clear hw;go_simp<;>with_reducible rfl)
   try simp only[zP]
   refine aD (i:=1) (v:=?_) rfl (Or.inl ⟨by rfl,?_⟩) (HF (k:=0)) ?_;rotate_left;·(intro w' hw;clear hw;go_simp<;>with_reducible rfl)
   try simp only[zP]
   refine aD (i:=2) (v:=?_) rfl (Or.inl ⟨by rfl,?_⟩) (HF (k:=0)) ?_;rotate_left;·(intro w' hw;clear hw;go_simp<;>with_reducible rfl)
   try simp only[zP]
   refine aD (i:=3) (v:= .agg #[.slice ha m.h.cells.length hac,.slice hb m.h.trail.length hbc]) rfl (Or.inl ⟨by rfl,?_⟩) (HF (k:=0)) ?_;·(intro w' hw;obtain⟨d1,d2,d3⟩:=HA.o w' hw;clear hw;go_simp)
   try simp only[zP]
   refine aD (i:=4) (v:=?_) rfl (Or.inl ⟨by rfl,?_⟩) (HF (k:=0)) ?_;rotate_left;·(intro w' hw;clear hw;go_simp<;>with_reducible rfl)
   try simp only[zP]
   refine aD (i:=5) (v:=?_) rfl (Or.inl ⟨by rfl,?_⟩) (HF (k:=0)) ?_;rotate_left;·(intro w' hw;clear hw;go_simp<;>with_reducible rfl)
   try simp only[zP]
   refine aD (i:=6) (v:=?_) rfl (Or.inl ⟨by rfl,?_⟩) (HF (k:=0)) ?_;rotate_left;·(intro w' hw;clear hw;go_simp<;>with_reducible rfl)
   try simp only[zP]
   refine aD (i:=7) (v:=?_) rfl (Or.inl ⟨by rfl,?_⟩) (HF (k:=0)) ?_;rotate_left;·(intro w' hw;obtain⟨d1,d2,d3⟩:=HA.o w' hw;clear hw;go_simp<;>with_reducible rfl)
   try simp only[zP]
   refine aD (i:=8) (v:=?_) rfl (Or.inl ⟨by rfl,?_⟩) (HF (k:=0)) ?_;rotate_left;·(intro w' hw;clear hw;go_simp<;>with_reducible rfl)
   try simp only[zP]
   refine aD (i:=9) (v:= .int .i64 pl) rfl (Or.inl ⟨by rfl,?_⟩) (HF (k:=0)) ?_;·(intro w' hw;clear hw;go_simp)
   try simp only[zP]
   refine aD (i:=10) (v:=?_) rfl (Or.inl ⟨by rfl,?_⟩) (HF (k:=0)) ?_;rotate_left;·(intro w' hw;clear hw;go_simp<;>with_reducible rfl)
   try simp only[zP]
   clear HF;have MF:=zh (show Below wr.heap.size wr wr.drew from(zB _ _).drew);have hzd:wr.heap.size<=wr.drew.heap.size:=zL _;generalize wr.drew=Wd at*;refine GZ (i:=11) (j:=16) (by kernel_rfl) (aF rfl (by rfl) ?_) (aF rfl (by rfl) ?_);case' _=>
    go_simp;refine(Sk.o Wd MF.o).mono ?_;rintro e w5⟨r,rfl,hb5,us,rfl,qA⟩;obtain⟨sa,sc,rfl, -⟩:=Tm.dw qA;have dF:=zh (MF.o.trans (hb5.mono MF.o.size));have oO:=hb5.size;have Zf:=zh qA;clear hb5 qA;refine⟨fun _ _ _=>dF.o,?_⟩;try simp only[zP]
    refine aD (i:=12) (v:=?_) rfl (Or.inl ⟨by rfl,?_⟩) dF.o ?_;rotate_left;·(intro w' hw;clear hw;go_simp<;>with_reducible rfl)
    try simp only[zP]
    refine aD (i:=13) (v:=?_) rfl (Or.inl ⟨by rfl,?_⟩) dF.o ?_;rotate_left;·(intro w' hw;clear hw;go_simp<;>with_reducible rfl)
    try simp only[zP]
    refine aD (i:=14) (v:=?_) rfl (Or.inl ⟨by rfl,?_⟩) dF.o ?_;rotate_left;·(intro w' hw;clear hw;go_simp<;>with_reducible rfl)
    try simp only[zP]
    refine aD (i:=15) (v:=?_) rfl (Or.inl ⟨by rfl,?_⟩) dF.o ?_;rotate_left;·(intro w' hw;clear hw;go_simp<;>with_reducible rfl)
    try simp only[zP]
    refine aM (i:=16) (by kernel_rfl) (aF rfl (by rfl) ?_);go_simp;have oP:=zh (show(w5.alloc (.cells #[.int .i64 0,.int .i64 0,.string {data:=#[]},.slice none 0 0] 34)).heap[w5.heap.size]?=_ from bJ _ _);have gy:=zh (dF.o.alloc dF.o.size (.cells #[.int .i64 0,.int .i64 0,.string {data:=#[]},.slice none 0 0] 34));have MH:=zh (Tm.aj.1 _ _ (w5.alloc (.cells #[.int .i64 0,.int .i64 0,.string {data:=#[]},.slice none 0 0] 34)) _ _ (Tm.aj.2.1 _ (fun b=>wr.heap.size<=b/\b≠w5.heap.size) _ _ _ Zf.o (fun b hb h=>⟨by unfold New at h;omega,by omega⟩)) (af.alloc _ w5 _));have hbx:wr.heap.size<=w5.heap.size:=dF.o.size;obtain⟨bx,DD⟩:∃bx,bx=w5.heap.size:=⟨_,rfl⟩;rw[<-DD]at oP MH hbx;rw[<-DD];clear DD;refine⟨fun _ _ _=>gy.o,?_⟩;generalize w5.alloc (.cells #[.int .i64 0,.int .i64 0,.string {data:=#[]},.slice none 0 0] 34)=W6 at*;try simp only[zP]
   rotate_left;case' _=>
    go_simp;have jL:=zh (show(Wd.alloc (.cells #[.int .i64 0,.int .i64 0,.string {data:=#[]},.slice none 0 0] 34)).heap[Wd.heap.size]?=_ from bJ _ _);have Sl:=zh (MF.o.alloc MF.o.size (.cells #[.int .i64 0,.int .i64 0,.string {data:=#[]},.slice none 0 0] 34));obtain⟨bx,DD⟩:∃bx,bx=Wd.heap.size:=⟨_,rfl⟩;have hbx:wr.heap.size<=bx:=by omega
    have hs3:(Wd.alloc (.cells #[.int .i64 0,.int .i64 0,.string {data:=#[]},.slice none 0 0] 34)).heap.size=bx+1:=by simp[DD]
    rw[<-DD]at jL;rw[<-DD];clear DD;refine⟨fun _ _ _=>Sl.o,?_⟩;generalize Wd.alloc (.cells #[.int .i64 0,.int .i64 0,.string {data:=#[]},.slice none 0 0] 34)=W3 at*;try simp only[zP]
    refine aM (i:=11) (by kernel_rfl) (aF rfl (by rfl) ?_);go_simp;refine(Sk.o W3 Sl.o).mono ?_;rintro e w5⟨r,rfl,hb5,us,rfl,qA⟩;obtain⟨sa,sc,rfl, -⟩:=Tm.dw qA;have dF:=zh (Sl.o.trans (hb5.mono Sl.o.size));have oO:=hb5.size;have Zf:=zh qA;have oP:=zh (aL jL.o hb5);clear hb5 qA;refine⟨fun _ _ _=>dF.o,?_⟩;try simp only[zP]
    refine aD (i:=12) (v:=?_) rfl (Or.inl ⟨by rfl,?_⟩) dF.o ?_;rotate_left;·(intro w' hw;clear hw;go_simp<;>with_reducible rfl)
    try simp only[zP]
    refine aD (i:=13) (v:=?_) rfl (Or.inl ⟨by rfl,?_⟩) dF.o ?_;rotate_left;·(intro w' hw;clear hw;go_simp<;>with_reducible rfl)
    try simp only[zP]
    refine aD (i:=14) (v:=?_) rfl (Or.inl ⟨by rfl,?_⟩) dF.o ?_;rotate_left;·(intro w' hw;clear hw;go_simp<;>with_reducible rfl)
    try simp only[zP]
    refine aD (i:=15) (v:=?_) rfl (Or.inl ⟨by rfl,?_⟩) dF.o ?_;rotate_left;·(intro w' hw;clear hw;go_simp<;>with_reducible rfl)
    try simp only[zP]
    have gy:=zh dF.o;have MH:=zh (Tm.aj.2.1 _ (fun b=>wr.heap.size<=b/\b≠bx) _ _ _ Zf.o (fun b hb h=>⟨by unfold New at h;omega,by unfold New at h;omega⟩));generalize w5=W6 at*
   rotate_left;all_goals
    obtain⟨x0,x1,x2,x3,xf⟩:=aU oP.o;have hcs:=dH;refine aM (i:=17) (by kernel_rfl) (aF rfl (by rfl) ?_);go_simp;have fH:=zh (show Below wr.heap.size wr ((((W6.setCell ⟨bx,0,none⟩ (.int .i64 (dU m.h pl left).1.kind)).setCell ⟨bx,1,none⟩ (.int .i64 (dU m.h pl left).1.n)).setCell ⟨bx,2,none⟩ (.string (dU m.h pl left).1.s)).setCell ⟨bx,3,none⟩ (.slice sa (dU m.h pl left).1.args.length sc))from(((gy.o.setCell hbx _).setCell hbx _).setCell hbx _).setCell hbx _);have V7:=zh (show Tm.rep (fun b=>wr.heap.size<=b/\b≠bx) ((((W6.setCell ⟨bx,0,none⟩ (.int .i64 (dU m.h pl left).1.kind)).setCell ⟨bx,1,none⟩ (.int .i64 (dU m.h pl left).1.n)).setCell ⟨bx,2,none⟩ (.string (dU m.h pl left).1.s)).setCell ⟨bx,3,none⟩ (.slice sa (dU m.h pl left).1.args.length sc)) (dU m.h pl left).1 [.int .i64 (dU m.h pl left).1.kind,.int .i64 (dU m.h pl left).1.n,.string (dU m.h pl left).1.s,.slice sa (dU m.h pl left).1.args.length sc]from Tm.aj.1 _ _ _ _ _ MH.o ((((af.setCell _ W6 ⟨bx,0,none⟩ _ (fun h=>h.2 rfl)).trans (af.setCell _ _ ⟨bx,1,none⟩ _ (fun h=>h.2 rfl))).trans (af.setCell _ _ ⟨bx,2,none⟩ _ (fun h=>h.2 rfl))).trans (af.setCell _ _ ⟨bx,3,none⟩ _ (fun h=>h.2 rfl))));have yM:=zh (show((((W6.setCell ⟨bx,0,none⟩ (.int .i64 (dU m.h pl left).1.kind)).setCell ⟨bx,1,none⟩ (.int .i64 (dU m.h pl left).1.n)).setCell ⟨bx,2,none⟩ (.string (dU m.h pl left).1.s)).setCell ⟨bx,3,none⟩ (.slice sa (dU m.h pl left).1.args.length sc)).heap[bx]?=some (.cells #[.int .i64 (dU m.h pl left).1.kind,.int .i64 (dU m.h pl left).1.n,.string (dU m.h pl left).1.s,.slice sa (dU m.h pl left).1.args.length sc] 34 (0,0))from(bG ((bG ((bG ((bG oP.o 0 _).trans rfl) 1 _).trans rfl) 2 _).trans rfl) 3 _).trans rfl);refine⟨fun _ _ _=>fH.o,?_⟩;generalize(((W6.setCell ⟨bx,0,none⟩ (.int .i64 (dU m.h pl left).1.kind)).setCell ⟨bx,1,none⟩ (.int .i64 (dU m.h pl left).1.n)).setCell ⟨bx,2,none⟩ (.string (dU m.h pl left).1.s)).setCell ⟨bx,3,none⟩ (.slice sa (dU m.h pl left).1.args.length sc)=W8 at*;try simp only[zP]
    clear x0 x1 x2 x3 xf;refine aM (i:=18) (by kernel_rfl) (aF rfl (by rfl) ?_);go_simp;refine⟨fun _ _ h=>h,?_⟩;try simp only[zP]
    refine aM (i:=19) (by kernel_rfl) (aF rfl (by rfl) ?_);go_simp;refine⟨fun _ _ h=>h,fO (by kernel_rfl) ?_ _⟩;have y8:=zh (HV.o.below fH.o);have Zg:=zh (HO.o.below Tm.aj fH.o);have azh:=aJ yM.o;by_cases he0:(dU m.h pl left).2.2=0
    ·have Zh:=zh (ji.o.trans (ag (dJ he0)));obtain⟨hle1,hle2⟩:=agS ⟨hl0,arl⟩ he0;rw[he0];have hwr2:IntKind.i64.wrap (left - (dU m.h pl left).2.1)=left - (dU m.h pl left).2.1:=Cn _ (by omega);clear hle1 hle2 he0 hlt' hwr b0 b1 b2 b3 b4 b5 b6 b7 b8 b9 bf;obtain⟨x0,x1,x2,x3,xf⟩:=aU yM.o;have hq9:j+1<=q:=hlt;have hLn:=zh (show ts.length<4194304/\w.heap.size<=W8.heap.size by omega);have ky:=zh HO.o.lt;go_wp2_with(at_builtin;go_must(refine jf rfl (.tmp 39) (.tmp 41) 23 rfl w.heap.size 34 4 56 rz Tm.aj (A:=fun b=>w.heap.size<=b) _ _ rfl Zg.o (dU m.h pl left).1 [_,_,_,_] rfl rfl (Tm.aj.2.1 _ _ _ _ _ V7.o (fun b hb h=>⟨by omega,fun e=>by have :=(ky.o b e).2;have :=h.1;omega⟩)) hLn.out ?_);go_must(intro v2 w6 hown2 aB;obtain⟨aY,aZ,hv2,zy⟩:=hown2.val;rw[show(ts++[(dU m.h pl left).1]).length=ts.length+1 by simp]at hv2;subst hv2;have bA:=zh hown2;have HG2:=zh aB;clear hown2 aB));have iP:=zh (HG2.o.below ((fA.o.trans (fH.o.mono hsz)).alloc (by omega) _) (by simp;omega) (fun k hk=>(ky.o k hk).1));go_roundw;case rel=>exact⟨j+1,_,ts++[(dU m.h pl left).1],hq9,by go_num,rfl,Zh.o,iP.o,bA.o⟩
     case measure=>simp[intOf];omega
    ·have Zh:=zh (ji.o.trans (ai he0));have hres:=zh (show ui P q m=(.off,m.put 4)by rw[ME.o,agT (j:=j+1) hlt Zh.o]);have xx:=zh (yF 4 (by unfold aA;omega) y8.o (by have :=ig.o;omega));clear hlt' hwr b0 b1 b2 b3 b4 b5 b6 b7 b8 b9 bf;go_wp2_with fail;refine xx.o.mono ?_;rintro e W9⟨rfl,hst⟩;have HST:=zh (bP.trans (Ch.of_below (fA.o.trans (fH.o.mono hsz))) (cu.refl w _) hst);clear hst;go_wp2_with fail;go_ret;rw[hres.o];exact⟨rfl,HST.o⟩
  ·have eH:j=q:=by omega
   have Zi:=fT.o;rw[eH]at Zi;have MI:=zh (show ui P q m=if m.out.length+1≥12 then(.off,({m with out:=m.out++[⟨1,tidy ts⟩]}:Mv).put 6)else kF P m.choices {m with out:=m.out++[⟨1,tidy ts⟩]}by rw[ME.o,Zi]);clear eH Zi;have BG:=zh (HO.o.sl Tm.aj (A:=fun b=>w.heap.size<=b) (by omega) (fun b hb=>hb));have hnd:=zh (show Tm.bq ts<=4194303 by have :=uX.o;omega);have hM1:wr.drew.cell? ⟨g,9,none⟩=some (.slice oa m.out.length oc):=b9;go_wp2_with fail;refine iG (F:=fun k w'=>k=4->w'.cell? ⟨g,9,none⟩=some (.slice oa m.out.length oc)) (by kernel_rfl) ?_;refine aD (i:=0) (v:=?_) rfl (Or.inl ⟨by rfl,?_⟩) (fun _=>hM1) ?_;rotate_left;·(intro w' hw;clear hw;go_simp<;>with_reducible rfl)
   try simp only[zP]
   refine aD (i:=1) (v:=?_) rfl (Or.inl ⟨by rfl,?_⟩) (fun _=>hM1) ?_;rotate_left;·(intro w' hw;clear hw;go_simp<;>with_reducible rfl)
   try simp only[zP]
   refine aD (i:=2) (v:=?_) rfl (Or.inl ⟨by rfl,?_⟩) (fun _=>hM1) ?_;rotate_left;·(intro w' hw;clear hw;go_simp<;>with_reducible rfl)
   try simp only[zP]
   refine aD (i:=3) (v:=?_) rfl (Or.inl ⟨by rfl,?_⟩) (fun _=>hM1) ?_;rotate_left;·(intro w' hw;clear hw;go_simp<;>with_reducible rfl)
   try simp only[zP]
   refine aD (i:=4) (v:=?_) rfl (Or.inl ⟨by rfl,?_⟩) (fun _=>hM1) ?_;rotate_left;·(intro w' hw;have q0:=hw rfl;clear hw;go_simp<;>with_reducible rfl)
   try simp only[zP]
   refine aD (i:=5) (v:=?_) rfl (Or.inl ⟨by rfl,?_⟩) (fun _=>hM1) ?_;rotate_left;·(intro w' hw;clear hw;go_simp<;>with_reducible rfl)
   try simp only[zP]
   refine aM (i:=6) (by kernel_rfl) (aF rfl (by rfl) ?_);go_simp;refine(ari ts hnd.out (fun b=>w.heap.size<=b) wr.drew _ (au.keeps Tm.aj BG.o (af.drew _ _))).mono ?_;rintro e w5⟨lv,rfl,hb5,hlv⟩;have dF:=zh (show Below wr.heap.size wr w5 from((iF _ wr).drew).trans hb5);have Zj:=zh (show eP (New wr.drew) w5 (tidy ts) lv from hlv);obtain⟨la,lc, -, -,Zk, -⟩:=au.at hlv;subst Zk;have HV5:=zh (HV.o.below dF.o);have Zl:=zh HV5.o.out;have oO:=hb5.size;simp only[eZ]at oO;have BH:=zh (show w5.cell? ⟨g,9,none⟩=some (.slice oa m.out.length oc)from(bV HV5.o.box).2.2.2.2.2.2.2.2.2.1);clear hb5 hlv;refine⟨fun _ _ _ _=>BH.out,?_⟩;try simp only[zP]
   refine aD (i:=7) (v:=?_) rfl (Or.inl ⟨by rfl,?_⟩) (fun _=>BH.out) ?_;rotate_left;·(intro w' hw;clear hw;go_simp<;>with_reducible rfl)
   try simp only[zP]
   refine aM (i:=8) (by kernel_rfl) (aF rfl (by rfl) ?_);go_simp;refine⟨fun _ _ _ _=>(af.alloc (fun _=>True) w5 _).cell trivial BH.out,?_⟩;try simp only[zP]
   refine aM (i:=9) (by kernel_rfl) (aF rfl (by rfl) ?_);refine oh (.tmp 48) (.tmp 52) 24 rfl base 42 2 32 QI nN (A:=MA g ⟨.slice ga m.goals.length gc,.slice ca m.choices.length cc,.slice oa m.out.length oc⟩) (.slice oa m.out.length oc) m.out rfl Zl.o ⟨1,tidy ts⟩ [.int .i64 1,.slice la (tidy ts).length lc] rfl rfl ⟨_,rfl,au.mono Tm.aj (by omega) Zj.o (fun b _ hb=>⟨fun hs=>by have h1:=(HV.o.uj b hs).2;have h2:wr.drew.heap.size<=b:=hb;simp only[eZ]at h2;omega,fun e=>by have h1:=(HV.o.out.lt b e).2;have h2:wr.drew.heap.size<=b:=hb;simp only[eZ]at h2;omega⟩),show aA 1 by unfold aA;omega⟩ ⟨by have :=ig.o;omega,by have :=HV5.o.lt;omega⟩ ?_;intro v2 w6 hown2 aB;have hog:ownB (.slice oa m.out.length oc)≠some g:=fun e=>HV5.o.apart.og e;have DF:=zh (show w6.heap[g]?=_ from(aB.grown.block g (by simp;omega) (fun e=>HV5.o.apart.og e.symm)).trans (aX HV5.o.box _));obtain⟨aY,aZ,hv2,nI,rY⟩:=aG.pO hown2;rw[show(m.out++[(⟨1,tidy ts⟩:Ev)]).length=m.out.length+1 by simp]at hv2;subst hv2;have MJ:=zh (HV5.o.tell (by have :=ig.o;omega) hown2 aB);refine⟨fun _ _ _ _=>?_,?_⟩;·exact(aB.keeps (A:=fun b=>ownB (.slice oa m.out.length oc)≠some b) (fun _ h=>h)).cell hog ((af.alloc (fun _=>True) w5 _).cell trivial BH.out)
   clear hown2 aB b0 b1 b2 b3 b4 b5 b6 b7 b8 b9 bf;obtain⟨b0,b1,b2,b3,b4,b5,b6,b7,b8,b9,bf⟩:=bV DF.o;simp only at b3 b4 b9;try simp only[zP]
   refine aD (i:=10) (v:=?_) rfl (Or.inl ⟨by rfl,?_⟩) (fun h=>by omega) ?_;rotate_left;·(intro w' hw;clear hw;go_simp<;>with_reducible rfl)
   try simp only[zP]
   refine aD (i:=11) (v:=?_) rfl (Or.inl ⟨by rfl,?_⟩) (fun h=>by omega) ?_;rotate_left;·(intro w' hw;clear hw;go_simp<;>with_reducible rfl)
   try simp only[zP]
   refine aM (i:=12) (by kernel_rfl) (aF rfl (by rfl) ?_);go_simp;refine⟨fun k0 hk0 _ h12=>?_,fO (by kernel_rfl) ?_ _⟩;·subst h12;exact absurd (show waits _ 12 4=true by kernel_rfl) (by rw[hk0];decide)
   clear b0 b1 b2 b3 b4 b5 b6 b7 b8 b9 bf;generalize w6.setCell ⟨g,9,none⟩ (.slice aY (m.out.length+1) aZ)=w7 at*;obtain⟨hc7,ht7,o7,Ac,yY,Me⟩:=MJ.o;have Af:=zh (fun(m':Mv)(W':World)(hh:bP base P q g (.slice pa P.length pc) o7 m' w7 W')=>(bP.trans (Ch.of_below (fA.o.trans (dF.o.mono hsz))) (cu.refl w _) (bP.trans yY Me hh)));obtain⟨-, -, -, -, -, -,o7a,o7c, -, -, -, -, -, -, -,Sn, -⟩:=Ac.vals;obtain⟨b0,b1,b2,b3,b4,b5,b6,b7,b8,b9,bf⟩:=bV Ac.box;rw[Sn]at b9;simp only[bT,jr]at b9;have arq:m.out.length<=18:=by have :=ig.o;omega
   have RV:=zh (fun(h12:¬m.out.length+1≥12)=>YJ Ac HP.o (uC.o _) L9.o Bj.o (by simp;omega));have xx:=zh (yF 6 (by unfold aA;omega) Ac (by simp;omega));clear Ac yY Me Sn;by_cases h12:m.out.length+1≥12;·have hres:=zh (MI.o.trans (ai h12));go_wp2_with fail;refine xx.o.mono ?_;rintro e W9⟨rfl,hst⟩;have HST:=zh (Af.o _ _ hst);clear hst;go_wp2_with fail;go_ret;rw[hres.o];exact⟨rfl,HST.o⟩
   ·have hres:=zh (MI.o.trans (ag h12));go_wp2_with fail;refine(RV.o h12).mono ?_;rintro e W9⟨rfl,hst⟩;have HST:=zh (Af.o _ _ hst);clear hst;go_wp2_with fail;go_ret;rw[hres.o];exact⟨rfl,HST.o⟩
end
