import Derived.Test.YtlpmfkpefoegeacGreatDoorQMach10
import Derived.Test.YtlpmfkpefoegeacGreatDoorQTidy
namespace Go.Proofs.YtlpmfkpefoegeacGreatDoor
set_option maxRecDepth 99999
set_option maxHeartbeats 0
set_option linter.all false
open Go.RowKit
theorem avh(l:List Ce):∀(w:Nat)(s:List Int)(ts:List Tm)(w':Nat),eO l w s=some (ts,w')->Tm.aC ts+w'=w:=by
 intro w;induction w using Nat.strongRecOn with
  |_ w ih=>
   intro s ts w' h;match w,s,ih,h with
    |w,[],_,h=>rw[Cj]at h;simp at h;obtain⟨rfl,rfl⟩:=h;simp[Tm.aC]
    |0,_::_,_,h=>rw[ML]at h;cases h
    |w+1,a::r,ih,h=>
     rw[eO]at h;try simp only at h
     split at h;·cases h
     ·split at h
      ·split at h;·simp at h
       ·rename_i _ Gr w1 h1;have k0:=(Js l w _ _ _ h1).1;have k1:=ih w (by omega) _ _ _ h1;rw[F9 k0]at h;split at h;·simp at h
        ·rename_i _ rs w2 h2;have k2:=ih w1 (by omega) _ _ _ h2;simp only[bW,gI]at h;obtain⟨rfl,rfl⟩:=h;simp only[Tm.aC,Tm.nodes];omega
      ·split at h;·simp at h
       ·rename_i _ rs w2 h2;have k2:=ih w (by omega) _ _ _ h2;simp only[bW,gI]at h;obtain⟨rfl,rfl⟩:=h;simp only[Tm.aC];split<;>simp only[Tm.nodes,Tm.aC]<;>omega
theorem ajT{h:Hp}{a:Int}{left:Int}(hl:0<=left/\left<=200)(he:(dK h a left).2.2=0):(((dK h a left).1.nodes:Nat):Int)=(dK h a left).2.1/\(dK h a left).2.1<=left:=by
 have hlo:leftOf left=left:=by unfold leftOf;omega
 unfold dK at he ⊢;split at he;·exact absurd he (by decide)
 ·rename_i hg;rw[O hg];split at he;·exact absurd he (by decide)
  ·rename_i hi;rw[O hi];rw[hlo]at he ⊢;unfold jV at he ⊢;cases hr:eO h.cells left.toNat [a]with|none=>rw[hr]at he;exact absurd he (by simp[AY])|some p=>obtain⟨ts,w1⟩:=p;have h1:=(Js _ _ _ _ _ hr).2;have h2:=avh _ _ _ _ _ hr;cases ts with|nil=>simp at h1|cons t r=>cases r with|cons _ _=>simp at h1|nil=>simp only[AY,Tm.aC]at h2 ⊢;omega
theorem ajU{h:Hp}{qr:Int}{j:Nat}:∀{n:Nat},j<=n->qy h qr j=none->qy h qr n=none
 |0,hj,e=>by rw[show j=0 by omega]at e;exact e
 |n+1,hj,e=>by
  by_cases hh:j=n+1;·rw[<-hh];exact e
  ·rw[qy,ajU (n:=n) (by omega) e]
theorem ajV{h:Hp}{qr:Int}:∀{j:Nat}{ts:List Tm}{left:Int},qy h qr j=some (ts,left)->ts.length=j/\0<=left/\(Tm.aC ts:Int)+left=200
 |0,ts,left,e=>by simp only[qy,bW,gI]at e;obtain⟨rfl,rfl⟩:=e;simp[Tm.aC]
 |j+1,ts,left,e=>by
  rw[qy]at e;split at e;·cases e
  ·rename_i _ l lf h1;obtain⟨k1,k2,k3⟩:=ajV h1;split at e;·cases e
   ·rename_i h2;obtain⟨k4,k5⟩:=ajT ⟨k2,by omega⟩ (Wt.1 h2);simp only[bW,gI]at e;obtain⟨rfl,rfl⟩:=e;refine⟨by simp[k1],by omega,?_⟩;rw[Tm.Jn];simp only[Tm.aC];omega
section
variable {base : Nat} {P : List Cl} {q g : Nat} {pv hc ht : Value} {o : Mo} {m : Mv} {w : World}
theorem avi(h:bS base P q g pv hc ht o m w)(hP:fV P)(hpre:∀e:Ev,vk P m.choices {m with out:=m.out++[e]})(Be:∀v:Nat,v<q->ah (m.query+(v:Nat)))(nM:m.choices.length<900)(hfit:m.goals.length<=5900)(hout:m.out.length+2<=20):Calls Tryz.prog 35 #[.pointer (some ⟨g,0,none⟩)] w (aaV base P q g pv o (uU P q m) w):=by
 have HU:=Y h;have HP:=Y hP;have vo:=Y hpre;have Lh:=Y Be;have xX:=Y nM;have xU:=Y hfit;have dE:=Y hout;obtain⟨hl1,hl2⟩:=h.lt;obtain⟨gv,cv,ov⟩:=o;obtain⟨pa,pc,ga,gc,ca,cc,oa,oc,ha,hac,hb,hbc,rfl,rfl,rfl,rfl,rfl,rfl, -, -, -, -, -, -,o1,o2⟩:=h.vals;obtain⟨b0,b1,b2,b3,b4,b5,b6,b7,b8,b9,bf⟩:=bM h.box;simp only at b3 b4 b9;unfold maxLen at o2;have hq8:=h.qq;have hqb:=h.qb;have PU:uU P q m=match qy m.h m.query q with|none=>(.off,m.put 4)|some (l,_)=>if m.out.length+1≥12 then(.off,({m with out:=m.out++[⟨1,tidy l⟩]}:Mv).put 6)else lZ P m.choices {m with out:=m.out++[⟨1,tidy l⟩]}:=by unfold uU;cases qy m.h m.query q with|none=>rfl|some p=>simp only[bB,dZ]
 have pU:=Y PU;clear h hP hpre Be nM hfit hout PU;go_enter Tryz.func35,Tryz.ntmps35;go_wp2_with fail;go_loopw[13,3,4](fun i lf v wr=>∃(j:Nat)(left:Int)(ts:List Tm),j<=q/\i= .int .i64 (j:Int)/\lf= .int .i64 left/\qy m.h m.query j=some (ts,left)/\Below w.heap.size w wr/\az wr w.heap.size 34 4 Tm.rep (fun b=>w.heap.size<=b) ts v)(fun i _ _ _=>q - (intOf i).toNat);case atStart=>exact⟨0,200,[],dA _,rfl,rfl,rfl,Z _ _,az.nil ..⟩
 case round=>
  obtain⟨j,left,ts,hj,rfl,rfl,htk,hbw,hown⟩:=hrel;obtain⟨htl,hl0,hnn⟩:=ajV htk;have dD:=Y htk;have fw:=Y htl;have MS:=Y hnn;have fM:=Y hbw;have HO:=Y hown;have HV:=Y (HU.o.below hbw);have hsz:=hbw.size;have avj:left<=200:=by omega
  obtain⟨va,vc,rfl,yE⟩:=hown.val;have TW:ts.length<=8:=by omega
  clear htk htl hnn hbw hown b0 b1 b2 b3 b4 b5 b6 b7 b8 b9 bf;obtain⟨b0,b1,b2,b3,b4,b5,b6,b7,b8,b9,bf⟩:=bM HV.o.box;simp only at b1 b2 b3 b4 b9;have xx:=HV.o.lt.1;by_cases hlt:j<q
  ·have hlt':(j:Int)<(q:Int):=by omega
   have hj0:(0:Int)<=(j:Int):=zN _;have hIq:=Lh.o j hlt;have IK:=Y hIq;obtain⟨pl,hpl⟩:∃pl,pl=m.query+(j:Int):=⟨_,rfl⟩;have SS:=Y hpl;have hwr:IntKind.i64.wrap (m.query+(j:Int))=pl:=by rw[hpl];exact Gb _ hIq
   have dW:=Y (show qy m.h m.query (j+1)=if(dK m.h pl left).2.2≠0 then none else some (ts++[(dK m.h pl left).1],left - (dK m.h pl left).2.1)by rw[qy,dD.o,hpl]);have HA:=Y (fun(W:World)(hbw:Below wr.heap.size wr W)=>(show W.cell? ⟨g,1,none⟩=some (.slice ha m.h.cells.length hac)/\W.cell? ⟨g,2,none⟩=some (.slice hb m.h.trail.length hbc)/\W.cell? ⟨g,7,none⟩=some (.int .i64 m.query)from⟨bc hbw b1,bc hbw b2,bc hbw b7⟩));have UY:=Y (fun(W:World)(hbw:Below wr.heap.size wr W)=>auY m.h pl left (by rw[SS.o];exact IK.o) (by unfold ah;omega) _ W _ (HV.o.below hbw).heap);have ajX:left<9223372036854775808:=by omega
   clear hpl hIq;go_wp2_with fail;have HF:∀{k:Nat},Below wr.heap.size wr wr.drew:=fun{k}=>(Z _ _).drew;refine jd (F:=fun k w'=>Below wr.heap.size wr w') (by kernel_rfl) ?_;refine zT 0 (HF (k:=0)) ?_;try simp only[U]
   refine zT 1 (HF (k:=0)) ?_;try simp only[U]
   refine zT 2 (HF (k:=0)) ?_;try simp only[U]
   refine zY (v:= .agg #[.slice ha m.h.cells.length hac,.slice hb m.h.trail.length hbc]) 3 (HF (k:=0)) ?_ (z:=by intro w' hw;obtain⟨d1,d2,d3⟩:=HA.o w' hw;clear hw;go_simp);try simp only[U]
   refine zT 4 (HF (k:=0)) ?_;try simp only[U]
   refine zT 5 (HF (k:=0)) ?_;try simp only[U]
   refine zT 6 (HF (k:=0)) ?_;try simp only[U]
   refine zY 7 (HF (k:=0)) ?_ (z:=by intro w' hw;obtain⟨d1,d2,d3⟩:=HA.o w' hw;clear hw;go_simp<;>with_reducible rfl);try simp only[U]
   refine zT 8 (HF (k:=0)) ?_;try simp only[U]
   refine zY (v:= .int .i64 pl) 9 (HF (k:=0)) ?_ (z:=by intro w' hw;clear hw;go_simp);try simp only[U]
   refine zT 10 (HF (k:=0)) ?_;try simp only[U]
   clear HF;have PV:=Y (show Below wr.heap.size wr wr.drew from(Z _ _).drew);have hzd:wr.heap.size<=wr.drew.heap.size:=zL _;generalize wr.drew=Wd at*;refine JP (i:=11) (j:=16) (by kernel_rfl) (lK rfl (by rfl) ?_) (lK rfl (by rfl) ?_);case' _=>
    go_simp;refine(UY.o Wd PV.o).mono ?_;rintro e w5⟨r,rfl,hb5,us,rfl,rF⟩;obtain⟨sa,sc,rfl, -⟩:=Tm.dV rF;have bH:=Y (PV.o.trans (hb5.mono PV.o.size));have rU:=hb5.size;have HUS:=Y rF;clear hb5 rF;refine⟨fun _ _ _=>bH.o,?_⟩;try simp only[U]
    refine zT 12 bH.o ?_;try simp only[U]
    refine zT 13 bH.o ?_;try simp only[U]
    refine zT 14 bH.o ?_;try simp only[U]
    refine zT 15 bH.o ?_;try simp only[U]
    refine zO 16 ?_;go_simp;have kK:=Y (show(w5.alloc (.cells #[.int .i64 0,.int .i64 0,.string {data:=#[]},.slice none 0 0] 34)).heap[w5.heap.size]?=_ from bq _ _);have gz:=Y (bH.o.alloc bH.o.size (.cells #[.int .i64 0,.int .i64 0,.string {data:=#[]},.slice none 0 0] 34));have PW:=Y (Tm.ae.1 _ _ (w5.alloc (.cells #[.int .i64 0,.int .i64 0,.string {data:=#[]},.slice none 0 0] 34)) _ _ (Tm.ae.2.1 _ (fun b=>wr.heap.size<=b/\b≠w5.heap.size) _ _ _ HUS.o (fun b hb h=>⟨by unfold New at h;omega,by omega⟩)) (J.alloc _ w5 _));have hbx:wr.heap.size<=w5.heap.size:=bH.o.size;obtain⟨bx,FC⟩:∃bx,bx=w5.heap.size:=⟨_,rfl⟩;rw[<-FC]at kK PW hbx;rw[<-FC];clear FC;refine⟨fun _ _ _=>gz.o,?_⟩;generalize w5.alloc (.cells #[.int .i64 0,.int .i64 0,.string {data:=#[]},.slice none 0 0] 34)=W6 at*;try simp only[U]
   rotate_left;case' _=>
    go_simp;have iQ:=Y (show(Wd.alloc (.cells #[.int .i64 0,.int .i64 0,.string {data:=#[]},.slice none 0 0] 34)).heap[Wd.heap.size]?=_ from bq _ _);have Eu:=Y (PV.o.alloc PV.o.size (.cells #[.int .i64 0,.int .i64 0,.string {data:=#[]},.slice none 0 0] 34));obtain⟨bx,FC⟩:∃bx,bx=Wd.heap.size:=⟨_,rfl⟩;have hbx:wr.heap.size<=bx:=by omega
    have hs3:(Wd.alloc (.cells #[.int .i64 0,.int .i64 0,.string {data:=#[]},.slice none 0 0] 34)).heap.size=bx+1:=by simp[FC]
    rw[<-FC]at iQ;rw[<-FC];clear FC;refine⟨fun _ _ _=>Eu.o,?_⟩;generalize Wd.alloc (.cells #[.int .i64 0,.int .i64 0,.string {data:=#[]},.slice none 0 0] 34)=W3 at*;try simp only[U]
    refine zO 11 ?_;go_simp;refine(UY.o W3 Eu.o).mono ?_;rintro e w5⟨r,rfl,hb5,us,rfl,rF⟩;obtain⟨sa,sc,rfl, -⟩:=Tm.dV rF;have bH:=Y (Eu.o.trans (hb5.mono Eu.o.size));have rU:=hb5.size;have HUS:=Y rF;have kK:=Y (aA iQ.o hb5);clear hb5 rF;refine⟨fun _ _ _=>bH.o,?_⟩;try simp only[U]
    refine zT 12 bH.o ?_;try simp only[U]
    refine zT 13 bH.o ?_;try simp only[U]
    refine zT 14 bH.o ?_;try simp only[U]
    refine zT 15 bH.o ?_;try simp only[U]
    have gz:=Y bH.o;have PW:=Y (Tm.ae.2.1 _ (fun b=>wr.heap.size<=b/\b≠bx) _ _ _ HUS.o (fun b hb h=>⟨by unfold New at h;omega,by unfold New at h;omega⟩));generalize w5=W6 at*
   rotate_left;all_goals
    obtain⟨x0,x1,x2,x3,xf⟩:=aF kK.o;have ajp:=ax kK.o;have hcs:=bF;refine zO 17 ?_;go_simp;have fO:=Y (show Below wr.heap.size wr ((((W6.setCell ⟨bx,0,none⟩ (.int .i64 (dK m.h pl left).1.kind)).setCell ⟨bx,1,none⟩ (.int .i64 (dK m.h pl left).1.n)).setCell ⟨bx,2,none⟩ (.string (dK m.h pl left).1.s)).setCell ⟨bx,3,none⟩ (.slice sa (dK m.h pl left).1.args.length sc))from(((gz.o.setCell hbx _).setCell hbx _).setCell hbx _).setCell hbx _);have YA:=Y (show Tm.rep (fun b=>wr.heap.size<=b/\b≠bx) ((((W6.setCell ⟨bx,0,none⟩ (.int .i64 (dK m.h pl left).1.kind)).setCell ⟨bx,1,none⟩ (.int .i64 (dK m.h pl left).1.n)).setCell ⟨bx,2,none⟩ (.string (dK m.h pl left).1.s)).setCell ⟨bx,3,none⟩ (.slice sa (dK m.h pl left).1.args.length sc)) (dK m.h pl left).1 [.int .i64 (dK m.h pl left).1.kind,.int .i64 (dK m.h pl left).1.n,.string (dK m.h pl left).1.s,.slice sa (dK m.h pl left).1.args.length sc]from Tm.ae.1 _ _ _ _ _ PW.o ((((J.setCell _ W6 ⟨bx,0,none⟩ _ (fun h=>h.2 rfl)).trans (J.setCell _ _ ⟨bx,1,none⟩ _ (fun h=>h.2 rfl))).trans (J.setCell _ _ ⟨bx,2,none⟩ _ (fun h=>h.2 rfl))).trans (J.setCell _ _ ⟨bx,3,none⟩ _ (fun h=>h.2 rfl))));have uW:=Y (show((((W6.setCell ⟨bx,0,none⟩ (.int .i64 (dK m.h pl left).1.kind)).setCell ⟨bx,1,none⟩ (.int .i64 (dK m.h pl left).1.n)).setCell ⟨bx,2,none⟩ (.string (dK m.h pl left).1.s)).setCell ⟨bx,3,none⟩ (.slice sa (dK m.h pl left).1.args.length sc)).heap[bx]?=some (.cells #[.int .i64 (dK m.h pl left).1.kind,.int .i64 (dK m.h pl left).1.n,.string (dK m.h pl left).1.s,.slice sa (dK m.h pl left).1.args.length sc] 34 (0,0))from(aX ((aX ((aX ((aX kK.o 0 _).trans rfl) 1 _).trans rfl) 2 _).trans rfl) 3 _).trans rfl);refine⟨fun _ _ _=>fO.o,?_⟩;generalize(((W6.setCell ⟨bx,0,none⟩ (.int .i64 (dK m.h pl left).1.kind)).setCell ⟨bx,1,none⟩ (.int .i64 (dK m.h pl left).1.n)).setCell ⟨bx,2,none⟩ (.string (dK m.h pl left).1.s)).setCell ⟨bx,3,none⟩ (.slice sa (dK m.h pl left).1.args.length sc)=W8 at*;try simp only[U]
    clear x0 x1 x2 x3 xf;refine zO 18 ?_;go_simp;refine⟨fun _ _ h=>h,?_⟩;try simp only[U]
    refine zO 19 ?_;go_simp;refine⟨fun _ _ h=>h,zQ ?_⟩;have SQ:=fO.o.size;have yh:=Y (HV.o.below fO.o);have HO8:=Y (HO.o.below Tm.ae fO.o);have Nw:g<W8.heap.size:=by omega
    have aCI:=ax uW.o;by_cases he0:(dK m.h pl left).2.2=0
    ·have IL:=Y (dW.o.trans (O (dY he0)));obtain⟨hle1,hle2⟩:=ajT ⟨hl0,avj⟩ he0;have hle3:(0:Int)<=((dK m.h pl left).1.nodes:Int):=zN _;rw[he0];have hwr2:IntKind.i64.wrap (left - (dK m.h pl left).2.1)=left - (dK m.h pl left).2.1:=Gb _ (by omega);have vV:=Y (show 0<=left - (dK m.h pl left).2.1 by omega);clear hle1 hle2 hle3 he0 hlt' hwr b0 b1 b2 b3 b4 b5 b6 b7 b8 b9 bf;obtain⟨x0,x1,x2,x3,xf⟩:=aF uW.o;have hq9:j+1<=q:=hlt;have hLn:=Y (show ts.length<4194304/\w.heap.size<=W8.heap.size by omega);have nT:=Y HO.o.lt;go_wp2_with(at_builtin;go_must(refine ja rfl (.tmp 39) (.tmp 41) 23 rfl w.heap.size 34 4 56 Au Tm.ae (A:=fun b=>w.heap.size<=b) _ _ rfl HO8.o (dK m.h pl left).1 [_,_,_,_] rfl rfl (Tm.ae.2.1 _ _ _ _ _ YA.o (fun b hb h=>⟨by omega,fun e=>by have :=(nT.o b e).2;have :=h.1;omega⟩)) hLn.out ?_);go_must(intro v2 w6 hown2 aj;obtain⟨aS,aT,hv2,Gi⟩:=hown2.val;rw[show(ts++[(dK m.h pl left).1]).length=ts.length+1 by simp]at hv2;subst hv2;have bA:=Y hown2;have HG2:=Y aj;clear hown2 aj));have lX:=Y (HG2.o.below ((fM.o.trans (fO.o.mono hsz)).alloc (by omega) _) (by simp;omega) (fun k hk=>(nT.o k hk).1));go_roundw;case rel=>exact⟨j+1,_,ts++[(dK m.h pl left).1],hq9,by go_num,rfl,IL.o,lX.o,bA.o⟩
     case measure=>simp[intOf];omega
    ·have IL:=Y (dW.o.trans (G he0));have hres:=Y (show uU P q m=(.off,m.put 4)by rw[pU.o,ajU (j:=j+1) hlt IL.o]);have kY:=Y (zt 4 (by unfold ah;omega) yh.o (by have :=dE.o;omega));clear hlt' hwr b0 b1 b2 b3 b4 b5 b6 b7 b8 b9 bf;go_wp2_with fail;refine kY.o.mono ?_;rintro e W9⟨rfl,hst⟩;have HST:=Y (bD.trans (Ch.of_below (fM.o.trans (fO.o.mono hsz))) (bR.refl w _) hst);clear hst;go_wp2_with fail;go_ret;rw[hres.o];exact⟨rfl,HST.o⟩
  ·have bZ:j=q:=by omega
   have abz:=dD.o;rw[bZ]at abz;have zV:=Y (show uU P q m=if m.out.length+1≥12 then(.off,({m with out:=m.out++[⟨1,tidy ts⟩]}:Mv).put 6)else lZ P m.choices {m with out:=m.out++[⟨1,tidy ts⟩]}by rw[pU.o,abz]);clear bZ abz;have HTS:=Y (HO.o.sl Tm.ae (A:=fun b=>w.heap.size<=b) (by omega) (fun b hb=>hb));have hnd:=Y (show Tm.aC ts<=4194303 by have :=MS.o;omega);have hM1:wr.drew.cell? ⟨g,9,none⟩=some (.slice oa m.out.length oc):=b9;go_wp2_with fail;refine jd (F:=fun k w'=>k=4->w'.cell? ⟨g,9,none⟩=some (.slice oa m.out.length oc)) (by kernel_rfl) ?_;refine zT 0 (fun _=>hM1) ?_;try simp only[U]
   refine zT 1 (fun _=>hM1) ?_;try simp only[U]
   refine zT 2 (fun _=>hM1) ?_;try simp only[U]
   refine zT 3 (fun _=>hM1) ?_;try simp only[U]
   refine zY 4 (fun _=>hM1) ?_ (z:=by intro w' hw;have q0:=hw rfl;clear hw;go_simp<;>with_reducible rfl);try simp only[U]
   refine zT 5 (fun _=>hM1) ?_;try simp only[U]
   refine zO 6 ?_;go_simp;refine(ajS ts hnd.out (fun b=>w.heap.size<=b) wr.drew _ (ag.keeps Tm.ae HTS.o (J.drew _ _))).mono ?_;rintro e w5⟨lv,rfl,hb5,hlv⟩;have bH:=Y (show Below wr.heap.size wr w5 from((gQ _ wr).drew).trans hb5);have HLV:=Y (show iN (New wr.drew) w5 (tidy ts) lv from hlv);obtain⟨la,lc, -, -,abC, -⟩:=ag.at hlv;subst abC;have HV5:=Y (HV.o.below bH.o);have HO5:=Y HV5.o.out;have rU:=hb5.size;simp only[dG]at rU;have Dy:=Y (show w5.cell? ⟨g,9,none⟩=some (.slice oa m.out.length oc)from(bM HV5.o.box).2.2.2.2.2.2.2.2.2.1);clear hb5 hlv;refine⟨fun _ _ _ _=>Dy.out,?_⟩;try simp only[U]
   refine zT 7 (fun _=>Dy.out) ?_;try simp only[U]
   refine zO 8 ?_;go_simp;refine⟨fun _ _ _ _=>(J.alloc (fun _=>True) w5 _).cell trivial Dy.out,?_⟩;try simp only[U]
   refine zO 9 ?_;have jX:=Y HV5.o.rX;refine uC (.tmp 48) (.tmp 52) 24 rfl base 42 2 32 TM iL (A:=MA g ⟨.slice ga m.goals.length gc,.slice ca m.choices.length cc,.slice oa m.out.length oc⟩) (.slice oa m.out.length oc) m.out rfl HO5.o ⟨1,tidy ts⟩ [.int .i64 1,.slice la (tidy ts).length lc] rfl rfl ⟨_,rfl,ag.mono Tm.ae (by omega) HLV.o (fun b _ hb=>⟨fun hs=>by have h1:=(HV.o.rX b hs).2;have h2:wr.drew.heap.size<=b:=hb;simp only[dG]at h2;omega,fun e=>by have h1:=(HV.o.out.lt b e).2;have h2:wr.drew.heap.size<=b:=hb;simp only[dG]at h2;omega⟩),show ah 1 by unfold ah;omega⟩ ⟨by have :=dE.o;omega,by have :=HV5.o.lt;omega⟩ ?_;intro v2 w6 hown2 aj;have hog:ownB (.slice oa m.out.length oc)≠some g:=fun e=>HV5.o.apart.og e;have PX:=Y (show w6.heap[g]?=_ from(aj.grown.block g (by simp;omega) (fun e=>HV5.o.apart.og e.symm)).trans (aI HV5.o.box _));obtain⟨aS,aT,hv2,kX,rO⟩:=az.kG hown2;rw[show(m.out++[(⟨1,tidy ts⟩:Ev)]).length=m.out.length+1 by simp]at hv2;subst hv2;have abE:=Y (HV5.o.tell (by have :=dE.o;omega) hown2 aj);have avl:g<w6.heap.size:=ax PX.o;have avm:=aj.size;refine⟨fun _ _ _ _=>?_,?_⟩;·exact(aj.keeps (A:=fun b=>ownB (.slice oa m.out.length oc)≠some b) (fun _ h=>h)).cell hog ((J.alloc (fun _=>True) w5 _).cell trivial Dy.out)
   clear hown2 aj b0 b1 b2 b3 b4 b5 b6 b7 b8 b9 bf;obtain⟨b0,b1,b2,b3,b4,b5,b6,b7,b8,b9,bf⟩:=bM PX.o;simp only at b3 b4 b9;try simp only[U]
   refine zT 10 (fun h=>by omega) ?_;try simp only[U]
   refine zT 11 (fun h=>by omega) ?_;try simp only[U]
   refine zO 12 ?_;go_simp;refine⟨fun k0 hk0 _ h12=>?_,zQ ?_⟩;·subst h12;exact absurd (show waits _ 12 4=true by kernel_rfl) (by rw[hk0];decide)
   clear b0 b1 b2 b3 b4 b5 b6 b7 b8 b9 bf;generalize w6.setCell ⟨g,9,none⟩ (.slice aS (m.out.length+1) aT)=w7 at*;obtain⟨hc7,ht7,o7,yg,zM,Pq⟩:=abE.o;have HV7:=Y yg;have kL:=Y (fun(m':Mv)(W':World)(hh:bD base P q g (.slice pa P.length pc) o7 m' w7 W')=>(bD.trans (Ch.of_below (fM.o.trans (bH.o.mono hsz))) (bR.refl w _) (bD.trans zM Pq hh)));obtain⟨-, -, -, -, -, -,o7a,o7c, -, -, -, -, -, -, -,UZ, -⟩:=yg.vals;obtain⟨b0,b1,b2,b3,b4,b5,b6,b7,b8,b9,bf⟩:=bM yg.box;have Yh:=yg.lt.1;rw[UZ]at b9;simp only[bB,dZ]at b9;have avp:m.out.length<=18:=by have :=dE.o;omega
   have IE:=Y (fun(h12:¬m.out.length+1≥12)=>aaX yg HP.o (vo.o _) xX.o xU.o (by simp;omega));have kY:=Y (zt 6 (by unfold ah;omega) yg (by simp;omega));clear yg zM Pq UZ;by_cases h12:m.out.length+1≥12;·have hres:=Y (zV.o.trans (G h12));go_wp2_with fail;refine kY.o.mono ?_;rintro e W9⟨rfl,hst⟩;have HST:=Y (kL.o _ _ hst);clear hst;go_wp2_with fail;go_ret;rw[hres.o];exact⟨rfl,HST.o⟩
   ·have hres:=Y (zV.o.trans (O h12));go_wp2_with fail;refine(IE.o h12).mono ?_;rintro e W9⟨rfl,hst⟩;have HST:=Y (kL.o _ _ hst);clear hst;go_wp2_with fail;go_ret;rw[hres.o];exact⟨rfl,HST.o⟩
end
