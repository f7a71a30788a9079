import Derived.Test.YtlpmfkpefoegeacGreatDoorQMach10
import Derived.Test.YtlpmfkpefoegeacGreatDoorQTidy
namespace Go.Proofs.YtlpmfkpefoegeacGreatDoor
set_option maxRecDepth 99999
set_option maxHeartbeats 0
set_option linter.all false
open Go.RowKit
theorem aog(l:List Ce):∀(w:Nat)(s:List Int)(ts:List Tm)(w':Nat),dX l w s=some (ts,w')->Tm.aH ts+w'=w:=by
 intro w;induction w using Nat.strongRecOn with
  |_ w ih=>
   intro s ts w' h;match w,s,ih,h with
    |w,[],_,h=>rw[yK]at h;simp at h;obtain⟨rfl,rfl⟩:=h;simp[Tm.aH]
    |0,_::_,_,h=>rw[Ie]at h;cases h
    |w+1,a::r,ih,h=>
     rw[dX]at h;try simp only at h
     split at h;·cases h
     ·split at h
      ·split at h;·simp at h
       ·rename_i _ EK w1 h1;have k0:=(EJ l w _ _ _ h1).1;have k1:=ih w (by omega) _ _ _ h1;rw[Eu k0]at h;split at h;·simp at h
        ·rename_i _ rs w2 h2;have k2:=ih w1 (by omega) _ _ _ h2;simp only[cZ,fG]at h;obtain⟨rfl,rfl⟩:=h;simp only[Tm.aH,Tm.nodes];omega
      ·split at h;·simp at h
       ·rename_i _ rs w2 h2;have k2:=ih w (by omega) _ _ _ h2;simp only[cZ,fG]at h;obtain⟨rfl,rfl⟩:=h;simp only[Tm.aH];split<;>simp only[Tm.nodes,Tm.aH]<;>omega
theorem ad4{h:Hp}{a:Int}{left:Int}(hl:0<=left/\left<=200)(he:(dF h a left).2.2=0):(((dF h a left).1.nodes:Nat):Int)=(dF h a left).2.1/\(dF h a left).2.1<=left:=by
 have hlo:leftOf left=left:=by unfold leftOf;omega
 unfold dF at he ⊢;split at he;·exact absurd he (by decide)
 ·rename_i hg;rw[ae hg];split at he;·exact absurd he (by decide)
  ·rename_i hi;rw[ae hi];rw[hlo]at he ⊢;unfold iT at he ⊢;cases hr:dX h.cells left.toNat [a]with|none=>rw[hr]at he;exact absurd he (by simp[xM])|some p=>obtain⟨ts,w1⟩:=p;have h1:=(EJ _ _ _ _ _ hr).2;have h2:=aog _ _ _ _ _ hr;cases ts with|nil=>simp at h1|cons t r=>cases r with|cons _ _=>simp at h1|nil=>simp only[xM,Tm.aH]at h2 ⊢;omega
theorem ad5{h:Hp}{qr:Int}{j:Nat}:∀{n:Nat},j<=n->mU h qr j=none->mU h qr n=none
 |0,hj,e=>by rw[show j=0 by omega]at e;exact e
 |n+1,hj,e=>by
  by_cases hh:j=n+1;·rw[<-hh];exact e
  ·rw[mU,ad5 (n:=n) (by omega) e]
theorem ad6{h:Hp}{qr:Int}:∀{j:Nat}{ts:List Tm}{left:Int},mU h qr j=some (ts,left)->ts.length=j/\0<=left/\(Tm.aH ts:Int)+left=200
 |0,ts,left,e=>by simp only[mU,cZ,fG]at e;obtain⟨rfl,rfl⟩:=e;simp[Tm.aH]
 |j+1,ts,left,e=>by
  rw[mU]at e;split at e;·cases e
  ·rename_i _ l lf h1;obtain⟨k1,k2,k3⟩:=ad6 h1;split at e;·cases e
   ·rename_i h2;obtain⟨k4,k5⟩:=ad4 ⟨k2,by omega⟩ (Qk.1 h2);simp only[cZ,fG]at e;obtain⟨rfl,rfl⟩:=e;refine⟨by simp[k1],by omega,?_⟩;rw[Tm.ED];simp only[Tm.aH];omega
section
variable {base : Nat} {P : List Cl} {q g : Nat} {pv hc ht : Value} {o : Mo} {m : Mv} {w : World}
theorem aoh(h:bT base P q g pv hc ht o m w)(hP:fJ P)(hpre:∀e:Ev,rz P m.choices {m with out:=m.out++[e]})(xW:∀v:Nat,v<q->au (m.query+(v:Nat)))(oZ:m.choices.length<900)(hfit:m.goals.length<=5900)(hout:m.out.length+2<=20):Calls Tryz.prog 35 #[.pointer (some ⟨g,0,none⟩)] w (U6 base P q g pv o (qV P q m) w):=by
 have HU:=zh h;have HP:=zh hP;have rA:=zh hpre;have KH:=zh xW;have Kc:=zh oZ;have zS:=zh hfit;have nQ:=zh hout;obtain⟨hl1,hl2⟩:=h.lt;obtain⟨gv,cv,ov⟩:=o;obtain⟨pa,pc,ga,gc,ca,cc,oa,oc,ha,hac,hb,hbc,rfl,rfl,rfl,rfl,rfl,rfl, -, -, -, -, -, -,o1,o2⟩:=h.vals;obtain⟨b0,b1,b2,b3,b4,b5,b6,b7,b8,b9,bf⟩:=bP h.box;simp only at b3 b4 b9;unfold maxLen at o2;have hq8:=h.qq;have hAF:qV P q m=match mU m.h m.query q with|none=>(.off,m.put 4)|some (l,_)=>if m.out.length+1≥12 then(.off,({m with out:=m.out++[⟨1,tidy l⟩]}:Mv).put 6)else jJ P m.choices {m with out:=m.out++[⟨1,tidy l⟩]}:=by unfold qV;cases mU m.h m.query q with|none=>rfl|some p=>simp only[bA,dW]
 have Gw:=zh hAF;clear h hP hpre xW oZ hfit hout hAF;go_enter Tryz.func35,Tryz.ntmps35;go_wp2_with fail;go_loopw[13,3,4](fun i lf v wr=>∃(j:Nat)(left:Int)(ts:List Tm),j<=q/\i= .int .i64 (j:Int)/\lf= .int .i64 left/\mU m.h m.query j=some (ts,left)/\Below w.heap.size w wr/\aI wr w.heap.size 34 4 Tm.rep (fun b=>w.heap.size<=b) ts v)(fun i _ _ _=>q - (intOf i).toNat);case atStart=>exact⟨0,200,[],dD _,rfl,rfl,rfl,zB _ _,aI.nil ..⟩
 case round=>
  obtain⟨j,left,ts,hj,rfl,rfl,htk,hbw,hown⟩:=hrel;obtain⟨htl,hl0,hnn⟩:=ad6 htk;have fB:=zh htk;have Ij:=zh hnn;have gM:=zh hbw;have HO:=zh hown;have HV:=zh (HU.o.below hbw);have hsz:=hbw.size;have aoi:left<=200:=by omega
  obtain⟨va,vc,rfl,yQ⟩:=hown.val;have ab0:ts.length<=8:=by omega
  clear htk htl hnn hbw hown b0 b1 b2 b3 b4 b5 b6 b7 b8 b9 bf;obtain⟨b0,b1,b2,b3,b4,b5,b6,b7,b8,b9,bf⟩:=bP HV.o.box;simp only at b1 b2 b3 b4 b9;have ZU:=HV.o.lt.1;by_cases hlt:j<q
  ·have hlt':(j:Int)<(q:Int):=by omega
   have VJ:=KH.o j hlt;have KI:=zh VJ;obtain⟨pl,hpl⟩:∃pl,pl=m.query+(j:Int):=⟨_,rfl⟩;have Np:=zh hpl;have hwr:IntKind.i64.wrap (m.query+(j:Int))=pl:=by rw[hpl];exact Cw _ VJ
   have fV:=zh (show mU m.h m.query (j+1)=if(dF m.h pl left).2.2≠0 then none else some (ts++[(dF m.h pl left).1],left - (dF m.h pl left).2.1)by rw[mU,fB.o,hpl]);have HA:=zh (fun(W:World)(hbw:Below wr.heap.size wr W)=>(show W.cell? ⟨g,1,none⟩=some (.slice ha m.h.cells.length hac)/\W.cell? ⟨g,2,none⟩=some (.slice hb m.h.trail.length hbc)/\W.cell? ⟨g,7,none⟩=some (.int .i64 m.query)from⟨bc hbw b1,bc hbw b2,bc hbw b7⟩));have O9:=zh (fun(W:World)(hbw:Below wr.heap.size wr W)=>anV m.h pl left (by rw[Np.o];exact KI.o) (by unfold au;omega) _ W _ (HV.o.below hbw).heap);clear hpl VJ;go_wp2_with fail;have HF:∀{k:Nat},Below wr.heap.size wr wr.drew:=fun{k}=>(zB _ _).drew;refine iY (F:=fun k w'=>Below wr.heap.size wr w') (by kernel_rfl) ?_;refine aC (i:=0) (v:=?_) rfl (Or.inl ⟨by rfl,?_⟩) (HF (k:=0)) ?_;rotate_left;·(intro w' hw;clear hw;go_simp<;>with_reducible rfl)
   try simp only[zP]
   refine aC (i:=1) (v:=?_) rfl (Or.inl ⟨by rfl,?_⟩) (HF (k:=0)) ?_;rotate_left;·(intro w' hw;clear hw;go_simp<;>with_reducible rfl)
   try simp only[zP]
   refine aC (i:=2) (v:=?_) rfl (Or.inl ⟨by rfl,?_⟩) (HF (k:=0)) ?_;rotate_left;·(intro w' hw;clear hw;go_simp<;>with_reducible rfl)
   try simp only[zP]
   refine aC (i:=3) (v:= .agg #[.slice ha m.h.cells.length hac,.slice hb m.h.trail.length hbc]) rfl (Or.inl ⟨by rfl,?_⟩) (HF (k:=0)) ?_;·(intro w' hw;obtain⟨d1,d2,d3⟩:=HA.o w' hw;clear hw;go_simp)
   try simp only[zP]
   refine aC (i:=4) (v:=?_) rfl (Or.inl ⟨by rfl,?_⟩) (HF (k:=0)) ?_;rotate_left;·(intro w' hw;clear hw;go_simp<;>with_reducible rfl)
   try simp only[zP]
   refine aC (i:=5) (v:=?_) rfl (Or.inl ⟨by rfl,?_⟩) (HF (k:=0)) ?_;rotate_left;·(intro w' hw;clear hw;go_simp<;>with_reducible rfl)
   try simp only[zP]
   refine aC (i:=6) (v:=?_) rfl (Or.inl ⟨by rfl,?_⟩) (HF (k:=0)) ?_;rotate_left;·(intro w' hw;clear hw;go_simp<;>with_reducible rfl)
   try simp only[zP]
   refine aC (i:=7) (v:=?_) rfl (Or.inl ⟨by rfl,?_⟩) (HF (k:=0)) ?_;rotate_left;·(intro w' hw;obtain⟨d1,d2,d3⟩:=HA.o w' hw;clear hw;go_simp<;>with_reducible rfl)
   try simp only[zP]
   refine aC (i:=8) (v:=?_) rfl (Or.inl ⟨by rfl,?_⟩) (HF (k:=0)) ?_;rotate_left;·(intro w' hw;clear hw;go_simp<;>with_reducible rfl)
   try simp only[zP]
   refine aC (i:=9) (v:= .int .i64 pl) rfl (Or.inl ⟨by rfl,?_⟩) (HF (k:=0)) ?_;·(intro w' hw;clear hw;go_simp)
   try simp only[zP]
   refine aC (i:=10) (v:=?_) rfl (Or.inl ⟨by rfl,?_⟩) (HF (k:=0)) ?_;rotate_left;·(intro w' hw;clear hw;go_simp<;>with_reducible rfl)
   try simp only[zP]
   clear HF;have KJ:=zh (show Below wr.heap.size wr wr.drew from(zB _ _).drew);have hzd:wr.heap.size<=wr.drew.heap.size:=zL _;generalize wr.drew=Wd at*;refine CY (i:=11) (j:=16) (by kernel_rfl) (aF rfl (by rfl) ?_) (aF rfl (by rfl) ?_);case' _=>
    go_simp;refine(O9.o Wd KJ.o).mono ?_;rintro e w5⟨r,rfl,hb5,us,rfl,nY⟩;obtain⟨sa,sc,rfl, -⟩:=Tm.nk nY;have dx:=zh (KJ.o.trans (hb5.mono KJ.o.size));have uM:=hb5.size;have VK:=zh nY;clear hb5 nY;refine⟨fun _ _ _=>dx.o,?_⟩;try simp only[zP]
    refine aC (i:=12) (v:=?_) rfl (Or.inl ⟨by rfl,?_⟩) dx.o ?_;rotate_left;·(intro w' hw;clear hw;go_simp<;>with_reducible rfl)
    try simp only[zP]
    refine aC (i:=13) (v:=?_) rfl (Or.inl ⟨by rfl,?_⟩) dx.o ?_;rotate_left;·(intro w' hw;clear hw;go_simp<;>with_reducible rfl)
    try simp only[zP]
    refine aC (i:=14) (v:=?_) rfl (Or.inl ⟨by rfl,?_⟩) dx.o ?_;rotate_left;·(intro w' hw;clear hw;go_simp<;>with_reducible rfl)
    try simp only[zP]
    refine aC (i:=15) (v:=?_) rfl (Or.inl ⟨by rfl,?_⟩) dx.o ?_;rotate_left;·(intro w' hw;clear hw;go_simp<;>with_reducible rfl)
    try simp only[zP]
    refine aM (i:=16) (by kernel_rfl) (aF rfl (by rfl) ?_);go_simp;have ru:=zh (show(w5.alloc (.cells #[.int .i64 0,.int .i64 0,.string {data:=#[]},.slice none 0 0] 34)).heap[w5.heap.size]?=_ from bV _ _);have jT:=zh (dx.o.alloc dx.o.size (.cells #[.int .i64 0,.int .i64 0,.string {data:=#[]},.slice none 0 0] 34));have KL:=zh (Tm.aA.1 _ _ (w5.alloc (.cells #[.int .i64 0,.int .i64 0,.string {data:=#[]},.slice none 0 0] 34)) _ _ (Tm.aA.2.1 _ (fun b=>wr.heap.size<=b/\b≠w5.heap.size) _ _ _ VK.o (fun b hb h=>⟨by unfold New at h;omega,by omega⟩)) (ag.alloc _ w5 _));have hbx:wr.heap.size<=w5.heap.size:=dx.o.size;obtain⟨bx,BZ⟩:∃bx,bx=w5.heap.size:=⟨_,rfl⟩;rw[<-BZ]at ru KL hbx;rw[<-BZ];clear BZ;refine⟨fun _ _ _=>jT.o,?_⟩;generalize w5.alloc (.cells #[.int .i64 0,.int .i64 0,.string {data:=#[]},.slice none 0 0] 34)=W6 at*;try simp only[zP]
   rotate_left;case' _=>
    go_simp;have jY:=zh (show(Wd.alloc (.cells #[.int .i64 0,.int .i64 0,.string {data:=#[]},.slice none 0 0] 34)).heap[Wd.heap.size]?=_ from bV _ _);have mP:=zh (KJ.o.alloc KJ.o.size (.cells #[.int .i64 0,.int .i64 0,.string {data:=#[]},.slice none 0 0] 34));obtain⟨bx,BZ⟩:∃bx,bx=Wd.heap.size:=⟨_,rfl⟩;have hbx:wr.heap.size<=bx:=by omega
    have hs3:(Wd.alloc (.cells #[.int .i64 0,.int .i64 0,.string {data:=#[]},.slice none 0 0] 34)).heap.size=bx+1:=by simp[BZ]
    rw[<-BZ]at jY;rw[<-BZ];clear BZ;refine⟨fun _ _ _=>mP.o,?_⟩;generalize Wd.alloc (.cells #[.int .i64 0,.int .i64 0,.string {data:=#[]},.slice none 0 0] 34)=W3 at*;try simp only[zP]
    refine aM (i:=11) (by kernel_rfl) (aF rfl (by rfl) ?_);go_simp;refine(O9.o W3 mP.o).mono ?_;rintro e w5⟨r,rfl,hb5,us,rfl,nY⟩;obtain⟨sa,sc,rfl, -⟩:=Tm.nk nY;have dx:=zh (mP.o.trans (hb5.mono mP.o.size));have uM:=hb5.size;have VK:=zh nY;have ru:=zh (aL jY.o hb5);clear hb5 nY;refine⟨fun _ _ _=>dx.o,?_⟩;try simp only[zP]
    refine aC (i:=12) (v:=?_) rfl (Or.inl ⟨by rfl,?_⟩) dx.o ?_;rotate_left;·(intro w' hw;clear hw;go_simp<;>with_reducible rfl)
    try simp only[zP]
    refine aC (i:=13) (v:=?_) rfl (Or.inl ⟨by rfl,?_⟩) dx.o ?_;rotate_left;·(intro w' hw;clear hw;go_simp<;>with_reducible rfl)
    try simp only[zP]
    refine aC (i:=14) (v:=?_) rfl (Or.inl ⟨by rfl,?_⟩) dx.o ?_;rotate_left;·(intro w' hw;clear hw;go_simp<;>with_reducible rfl)
    try simp only[zP]
    refine aC (i:=15) (v:=?_) rfl (Or.inl ⟨by rfl,?_⟩) dx.o ?_;rotate_left;·(intro w' hw;clear hw;go_simp<;>with_reducible rfl)
    try simp only[zP]
    have jT:=zh dx.o;have KL:=zh (Tm.aA.2.1 _ (fun b=>wr.heap.size<=b/\b≠bx) _ _ _ VK.o (fun b hb h=>⟨by unfold New at h;omega,by unfold New at h;omega⟩));generalize w5=W6 at*
   rotate_left;all_goals
    obtain⟨x0,x1,x2,x3,xf⟩:=aW ru.o;have hcs:=dz;refine aM (i:=17) (by kernel_rfl) (aF rfl (by rfl) ?_);go_simp;have fq:=zh (show Below wr.heap.size wr ((((W6.setCell ⟨bx,0,none⟩ (.int .i64 (dF m.h pl left).1.kind)).setCell ⟨bx,1,none⟩ (.int .i64 (dF m.h pl left).1.n)).setCell ⟨bx,2,none⟩ (.string (dF m.h pl left).1.s)).setCell ⟨bx,3,none⟩ (.slice sa (dF m.h pl left).1.args.length sc))from(((jT.o.setCell hbx _).setCell hbx _).setCell hbx _).setCell hbx _);have Sc:=zh (show Tm.rep (fun b=>wr.heap.size<=b/\b≠bx) ((((W6.setCell ⟨bx,0,none⟩ (.int .i64 (dF m.h pl left).1.kind)).setCell ⟨bx,1,none⟩ (.int .i64 (dF m.h pl left).1.n)).setCell ⟨bx,2,none⟩ (.string (dF m.h pl left).1.s)).setCell ⟨bx,3,none⟩ (.slice sa (dF m.h pl left).1.args.length sc)) (dF m.h pl left).1 [.int .i64 (dF m.h pl left).1.kind,.int .i64 (dF m.h pl left).1.n,.string (dF m.h pl left).1.s,.slice sa (dF m.h pl left).1.args.length sc]from Tm.aA.1 _ _ _ _ _ KL.o ((((ag.setCell _ W6 ⟨bx,0,none⟩ _ (fun h=>h.2 rfl)).trans (ag.setCell _ _ ⟨bx,1,none⟩ _ (fun h=>h.2 rfl))).trans (ag.setCell _ _ ⟨bx,2,none⟩ _ (fun h=>h.2 rfl))).trans (ag.setCell _ _ ⟨bx,3,none⟩ _ (fun h=>h.2 rfl))));have wO:=zh (show((((W6.setCell ⟨bx,0,none⟩ (.int .i64 (dF m.h pl left).1.kind)).setCell ⟨bx,1,none⟩ (.int .i64 (dF m.h pl left).1.n)).setCell ⟨bx,2,none⟩ (.string (dF m.h pl left).1.s)).setCell ⟨bx,3,none⟩ (.slice sa (dF m.h pl left).1.args.length sc)).heap[bx]?=some (.cells #[.int .i64 (dF m.h pl left).1.kind,.int .i64 (dF m.h pl left).1.n,.string (dF m.h pl left).1.s,.slice sa (dF m.h pl left).1.args.length sc] 34 (0,0))from(bI ((bI ((bI ((bI ru.o 0 _).trans rfl) 1 _).trans rfl) 2 _).trans rfl) 3 _).trans rfl);refine⟨fun _ _ _=>fq.o,?_⟩;generalize(((W6.setCell ⟨bx,0,none⟩ (.int .i64 (dF m.h pl left).1.kind)).setCell ⟨bx,1,none⟩ (.int .i64 (dF m.h pl left).1.n)).setCell ⟨bx,2,none⟩ (.string (dF m.h pl left).1.s)).setCell ⟨bx,3,none⟩ (.slice sa (dF m.h pl left).1.args.length sc)=W8 at*;try simp only[zP]
    clear x0 x1 x2 x3 xf;refine aM (i:=18) (by kernel_rfl) (aF rfl (by rfl) ?_);go_simp;refine⟨fun _ _ h=>h,?_⟩;try simp only[zP]
    refine aM (i:=19) (by kernel_rfl) (aF rfl (by rfl) ?_);go_simp;refine⟨fun _ _ h=>h,fU (by kernel_rfl) ?_ _⟩;have wV:=zh (HV.o.below fq.o);have VL:=zh (HO.o.below Tm.aA fq.o);have atH:=aD wO.o;by_cases he0:(dF m.h pl left).2.2=0
    ·have VM:=zh (fV.o.trans (ae (dL he0)));obtain⟨hle1,hle2⟩:=ad4 ⟨hl0,aoi⟩ he0;rw[he0];have hwr2:IntKind.i64.wrap (left - (dF m.h pl left).2.1)=left - (dF m.h pl left).2.1:=Cw _ (by omega);clear hle1 hle2 he0 hlt' hwr b0 b1 b2 b3 b4 b5 b6 b7 b8 b9 bf;obtain⟨x0,x1,x2,x3,xf⟩:=aW wO.o;have hq9:j+1<=q:=hlt;have hLn:=zh (show ts.length<4194304/\w.heap.size<=W8.heap.size by omega);have iJ:=zh HO.o.lt;go_wp2_with(at_builtin;go_must(refine iH rfl (.tmp 39) (.tmp 41) 23 rfl w.heap.size 34 4 56 AL Tm.aA (A:=fun b=>w.heap.size<=b) _ _ rfl VL.o (dF m.h pl left).1 [_,_,_,_] rfl rfl (Tm.aA.2.1 _ _ _ _ _ Sc.o (fun b hb h=>⟨by omega,fun e=>by have :=(iJ.o b e).2;have :=h.1;omega⟩)) hLn.out ?_);go_must(intro v2 w6 hown2 az;obtain⟨bN,bO,hv2,N7⟩:=hown2.val;rw[show(ts++[(dF m.h pl left).1]).length=ts.length+1 by simp]at hv2;subst hv2;have bE:=zh hown2;have HG2:=zh az;clear hown2 az));have iC:=zh (HG2.o.below ((gM.o.trans (fq.o.mono hsz)).alloc (by omega) _) (by simp;omega) (fun k hk=>(iJ.o k hk).1));go_roundw;case rel=>exact⟨j+1,_,ts++[(dF m.h pl left).1],hq9,by go_num,rfl,VM.o,iC.o,bE.o⟩
     case measure=>simp[intOf];omega
    ·have VM:=zh (fV.o.trans (ah he0));have hres:=zh (show qV P q m=(.off,m.put 4)by rw[Gw.o,ad5 (j:=j+1) hlt VM.o]);have oL:=zh (wI 4 (by unfold au;omega) wV.o (by have :=nQ.o;omega));clear hlt' hwr b0 b1 b2 b3 b4 b5 b6 b7 b8 b9 bf;go_wp2_with fail;refine oL.o.mono ?_;rintro e W9⟨rfl,hst⟩;have HST:=zh (bJ.trans (Ch.of_below (gM.o.trans (fq.o.mono hsz))) (bU.refl w _) hst);clear hst;go_wp2_with fail;go_ret;rw[hres.o];exact⟨rfl,HST.o⟩
  ·have dm:j=q:=by omega
   have VN:=fB.o;rw[dm]at VN;have Ca:=zh (show qV P q m=if m.out.length+1≥12 then(.off,({m with out:=m.out++[⟨1,tidy ts⟩]}:Mv).put 6)else jJ P m.choices {m with out:=m.out++[⟨1,tidy ts⟩]}by rw[Gw.o,VN]);clear dm VN;have HTS:=zh (HO.o.sl Tm.aA (A:=fun b=>w.heap.size<=b) (by omega) (fun b hb=>hb));have hnd:=zh (show Tm.aH ts<=4194303 by have :=Ij.o;omega);have hM1:wr.drew.cell? ⟨g,9,none⟩=some (.slice oa m.out.length oc):=b9;go_wp2_with fail;refine iY (F:=fun k w'=>k=4->w'.cell? ⟨g,9,none⟩=some (.slice oa m.out.length oc)) (by kernel_rfl) ?_;refine aC (i:=0) (v:=?_) rfl (Or.inl ⟨by rfl,?_⟩) (fun _=>hM1) ?_;rotate_left;·(intro w' hw;clear hw;go_simp<;>with_reducible rfl)
   try simp only[zP]
   refine aC (i:=1) (v:=?_) rfl (Or.inl ⟨by rfl,?_⟩) (fun _=>hM1) ?_;rotate_left;·(intro w' hw;clear hw;go_simp<;>with_reducible rfl)
   try simp only[zP]
   refine aC (i:=2) (v:=?_) rfl (Or.inl ⟨by rfl,?_⟩) (fun _=>hM1) ?_;rotate_left;·(intro w' hw;clear hw;go_simp<;>with_reducible rfl)
   try simp only[zP]
   refine aC (i:=3) (v:=?_) rfl (Or.inl ⟨by rfl,?_⟩) (fun _=>hM1) ?_;rotate_left;·(intro w' hw;clear hw;go_simp<;>with_reducible rfl)
   try simp only[zP]
   refine aC (i:=4) (v:=?_) rfl (Or.inl ⟨by rfl,?_⟩) (fun _=>hM1) ?_;rotate_left;·(intro w' hw;have q0:=hw rfl;clear hw;go_simp<;>with_reducible rfl)
   try simp only[zP]
   refine aC (i:=5) (v:=?_) rfl (Or.inl ⟨by rfl,?_⟩) (fun _=>hM1) ?_;rotate_left;·(intro w' hw;clear hw;go_simp<;>with_reducible rfl)
   try simp only[zP]
   refine aM (i:=6) (by kernel_rfl) (aF rfl (by rfl) ?_);go_simp;refine(aof ts hnd.out (fun b=>w.heap.size<=b) wr.drew _ (aj.keeps Tm.aA HTS.o (ag.drew _ _))).mono ?_;rintro e w5⟨lv,rfl,hb5,hlv⟩;have dx:=zh (show Below wr.heap.size wr w5 from((gJ _ wr).drew).trans hb5);have HLV:=zh (show iP (New wr.drew) w5 (tidy ts) lv from hlv);obtain⟨la,lc, -, -,aom, -⟩:=aj.at hlv;subst aom;have HV5:=zh (HV.o.below dx.o);have HO5:=zh HV5.o.out;have uM:=hb5.size;simp only[ig]at uM;have Pb:=zh (show w5.cell? ⟨g,9,none⟩=some (.slice oa m.out.length oc)from(bP HV5.o.box).2.2.2.2.2.2.2.2.2.1);clear hb5 hlv;refine⟨fun _ _ _ _=>Pb.out,?_⟩;try simp only[zP]
   refine aC (i:=7) (v:=?_) rfl (Or.inl ⟨by rfl,?_⟩) (fun _=>Pb.out) ?_;rotate_left;·(intro w' hw;clear hw;go_simp<;>with_reducible rfl)
   try simp only[zP]
   refine aM (i:=8) (by kernel_rfl) (aF rfl (by rfl) ?_);go_simp;refine⟨fun _ _ _ _=>(ag.alloc (fun _=>True) w5 _).cell trivial Pb.out,?_⟩;try simp only[zP]
   refine aM (i:=9) (by kernel_rfl) (aF rfl (by rfl) ?_);refine rH (.tmp 48) (.tmp 52) 24 rfl base 42 2 32 abS uy (A:=MA g ⟨.slice ga m.goals.length gc,.slice ca m.choices.length cc,.slice oa m.out.length oc⟩) (.slice oa m.out.length oc) m.out rfl HO5.o ⟨1,tidy ts⟩ [.int .i64 1,.slice la (tidy ts).length lc] rfl rfl ⟨_,rfl,aj.mono Tm.aA (by omega) HLV.o (fun b _ hb=>⟨fun hs=>by have h1:=(HV.o.qY b hs).2;have h2:wr.drew.heap.size<=b:=hb;simp only[ig]at h2;omega,fun e=>by have h1:=(HV.o.out.lt b e).2;have h2:wr.drew.heap.size<=b:=hb;simp only[ig]at h2;omega⟩),show au 1 by unfold au;omega⟩ ⟨by have :=nQ.o;omega,by have :=HV5.o.lt;omega⟩ ?_;intro v2 w6 hown2 az;have hog:ownB (.slice oa m.out.length oc)≠some g:=fun e=>HV5.o.apart.og e;have HG6:=zh (show w6.heap[g]?=_ from(az.grown.block g (by simp;omega) (fun e=>HV5.o.apart.og e.symm)).trans (aX HV5.o.box _));obtain⟨bN,bO,hv2,qK,qL⟩:=aI.j5 hown2;rw[show(m.out++[(⟨1,tidy ts⟩:Ev)]).length=m.out.length+1 by simp]at hv2;subst hv2;have aop:=zh (HV5.o.tell (by have :=nQ.o;omega) hown2 az);refine⟨fun _ _ _ _=>?_,?_⟩;·exact(az.keeps (A:=fun b=>ownB (.slice oa m.out.length oc)≠some b) (fun _ h=>h)).cell hog ((ag.alloc (fun _=>True) w5 _).cell trivial Pb.out)
   clear hown2 az b0 b1 b2 b3 b4 b5 b6 b7 b8 b9 bf;obtain⟨b0,b1,b2,b3,b4,b5,b6,b7,b8,b9,bf⟩:=bP HG6.o;simp only at b3 b4 b9;try simp only[zP]
   refine aC (i:=10) (v:=?_) rfl (Or.inl ⟨by rfl,?_⟩) (fun h=>by omega) ?_;rotate_left;·(intro w' hw;clear hw;go_simp<;>with_reducible rfl)
   try simp only[zP]
   refine aC (i:=11) (v:=?_) rfl (Or.inl ⟨by rfl,?_⟩) (fun h=>by omega) ?_;rotate_left;·(intro w' hw;clear hw;go_simp<;>with_reducible rfl)
   try simp only[zP]
   refine aM (i:=12) (by kernel_rfl) (aF rfl (by rfl) ?_);go_simp;refine⟨fun k0 hk0 _ h12=>?_,fU (by kernel_rfl) ?_ _⟩;·subst h12;exact absurd (show waits _ 12 4=true by kernel_rfl) (by rw[hk0];decide)
   clear b0 b1 b2 b3 b4 b5 b6 b7 b8 b9 bf;generalize w6.setCell ⟨g,9,none⟩ (.slice bN (m.out.length+1) bO)=w7 at*;obtain⟨hc7,ht7,o7,yl,Kh,Ki⟩:=aop.o;have Ec:=zh (fun(m':Mv)(W':World)(hh:bJ base P q g (.slice pa P.length pc) o7 m' w7 W')=>(bJ.trans (Ch.of_below (gM.o.trans (dx.o.mono hsz))) (bU.refl w _) (bJ.trans Kh Ki hh)));obtain⟨-, -, -, -, -, -,o7a,o7c, -, -, -, -, -, -, -,ho7, -⟩:=yl.vals;obtain⟨b0,b1,b2,b3,b4,b5,b6,b7,b8,b9,bf⟩:=bP yl.box;rw[ho7]at b9;simp only[bA,dW]at b9;have atK:m.out.length<=18:=by have :=nQ.o;omega
   have OJ:=zh (fun(h12:¬m.out.length+1≥12)=>U8 yl HP.o (rA.o _) Kc.o zS.o (by simp;omega));have oL:=zh (wI 6 (by unfold au;omega) yl (by simp;omega));clear yl Kh Ki ho7;by_cases h12:m.out.length+1≥12;·have hres:=zh (Ca.o.trans (ah h12));go_wp2_with fail;refine oL.o.mono ?_;rintro e W9⟨rfl,hst⟩;have HST:=zh (Ec.o _ _ hst);clear hst;go_wp2_with fail;go_ret;rw[hres.o];exact⟨rfl,HST.o⟩
   ·have hres:=zh (Ca.o.trans (ae h12));go_wp2_with fail;refine(OJ.o h12).mono ?_;rintro e W9⟨rfl,hst⟩;have HST:=zh (Ec.o _ _ hst);clear hst;go_wp2_with fail;go_ret;rw[hres.o];exact⟨rfl,HST.o⟩
end
