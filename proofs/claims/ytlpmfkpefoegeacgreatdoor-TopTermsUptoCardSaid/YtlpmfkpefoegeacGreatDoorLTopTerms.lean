import Derived.Test.YtlpmfkpefoegeacGreatDoorQTop
import Derived.Test.YtlpmfkpefoegeacGreatDoorQSolveZ
namespace Go.Proofs.YtlpmfkpefoegeacGreatDoor
set_option maxRecDepth 99999
set_option maxHeartbeats 0
set_option linter.all false
open Go.RowKit
theorem az7(p q:ByteArray)(fuel every:Int)(hp:p.size<=1048576)(hq:q.size<=1048576)(hf:ah fuel)(hy:ah every)(w:World)(ht:qh w.heap.size w)(hn:Ey w.heap.size w):Calls Tryz.prog 7 #[.string p,.string q,.int .i64 fuel,.int .i64 every] w (Pure w (fun r _=>r= .bool true)):=by
 obtain⟨P,hP⟩:∃P:Str,p=bs P:=⟨p.data.toList,(Rt p).symm⟩;obtain⟨Q,hQ⟩:∃Q:Str,q=bs Q:=⟨q.data.toList,(Rt q).symm⟩;subst hP hQ;rw[eP]at hp hq;have kW:=Y (fun(W:World)(hb:Below w.heap.size w W)=>ax8 w.heap.size W hb.size (ht.below hb) (hn.below (zL _) hb));have JR:=Y (fun(W:World)(hb:Below w.heap.size w W)(x:Ev)(A:Nat->Prop)(us:List Value)(hnd:Tm.aC x.terms<=200)(hr:uK A W x us)=>afo x w.heap.size A W us hb.size (ht.below hb) (hn.below (zL _) hb) (by omega) hr);obtain⟨aET,hY⟩:∃aET,aET=max 0 every:=⟨_,rfl⟩;have hY0:0<=aET:=by omega
 have iY:ah aET:=⟨by omega,by have :=hy.2;omega⟩;have adq:=Y (fun(W:World)(hb:Below w.heap.size w W)=>alv P Q fuel aET hp hq hf iY w.heap.size W hb.size (ht.below hb) (hn.below (zL _) hb));rw[aht P Q fuel aET hY0]at adq;have HRP:=Y (afP P hp w.heap.size w (zL _) ht);have HRQ:=Y (fun(W:World)(hb:Below w.heap.size w W)=>afM Q hq w.heap.size W hb.size (ht.below hb));have hpn:=aeS P;have Bf:=aeT Q;have hbd:=Tu P;have hbq:=Tu Q;have pU:=Y (show Ot (fun P Q v=>jU P Q v fuel) P Q=if(gF P).2≠0 then([],(gF P).2)else if(dI Q).2.2≠0 then([],(dI Q).2.2)else if(jU (gF P).1 (dI Q).1 (dI Q).2.1 fuel).2≠0 then([],(jU (gF P).1 (dI Q).1 (dI Q).2.1 fuel).2)else((jU (gF P).1 (dI Q).1 (dI Q).2.1 fuel).1.map qO,0)from rfl);have hmx:max 0 every=aET:=hY.symm;clear hp hq hy ht hn hY hY0 iY;generalize Ot (fun P Q v=>jU P Q v fuel) P Q=ra at*;obtain⟨la,ea⟩:=ra;generalize gF P=rp at*;obtain⟨cl,e1⟩:=rp;generalize dI Q=rq at*;obtain⟨gl,vs,e2⟩:=rq;simp only at hpn Bf hbd hbq pU;have HV:=Y (show ah vs by unfold ah;omega);have HF:=Y hf;have Vw:=Y hpn;have LQ:=Y Bf;clear hf hpn Bf hbd hbq;go_enter Tryz.func7,Tryz.ntmps7;go_wp2_with fail;refine(HRP.o).mono ?_;rintro e w1⟨pv,rfl,hb1,hr1⟩;have HB1:=Y hb1;have HR1:Hd (Ay _ _ cl _):=Y hr1;clear hb1 hr1 HRP;go_wp2_with fail;refine(HRQ.o w1 HB1.o).mono ?_;rintro e w2⟨qv,rfl,hb2,hr2⟩;have HB2:=Y (HB1.o.trans (hb2.mono HB1.o.size));have Qr:=Y (ag.mono (A':=fun b=>b<w2.heap.size) Cl.ae (by omega) (ag.keeps Cl.ae HR1.o (J.ob hb2)) fun b hb _=>hb);have HR2:Hd (iN _ _ gl _):=Y (ag.mono (A':=fun b=>b<w2.heap.size) Tm.ae (by omega) hr2 fun b hb _=>hb);clear hb2 hr2 HRQ HR1;go_wp2_with fail;refine(adq.o w2 HB2.o).mono ?_;rintro e w3⟨lv,rfl,hb3,hl3⟩;have hl3:als _ _ la _:=hl3;have HB3:=Y (HB2.o.trans (hb3.mono HB2.o.size));have amB:=Y (ag.mono (A':=fun b=>b<w3.heap.size) Cl.ae (by omega) (ag.keeps Cl.ae Qr.o (J.ob hb3)) fun b hb _=>hb);have amC:=Y (ag.mono (A':=fun b=>b<w3.heap.size) Tm.ae (by omega) (ag.keeps Tm.ae HR2.o (J.ob hb3)) fun b hb _=>hb);obtain⟨aa,ac,ab,ao,rfl,hla,hlm,hlb,haa,lF⟩:=ag.at hl3;have Di:=Y lF;have HAA:=Y haa;unfold maxLen at hlm;clear hb3 hl3 adq Qr HR2 lF haa;by_cases he1:e1=0;case neg=>
  obtain⟨rfl,rfl⟩:la=[]/\ea=e1:=by have h:=pU.o;rw[G he1]at h;exact adV h
  have d1:(ea != 0)=true:=by simpa using he1
  have d2:(ea==ea)=true:=by simp
  clear he1;simp only[fT]at*;go_wp2_with fail;refine(kW.o w3 HB3.o).mono ?_;rintro e w9⟨r,rfl,FI,rfl⟩;have HBz:=Y (HB3.o.trans (FI.mono HB3.o.size));clear FI;go_wp2_with fail;go_ret;exact⟨_,rfl,HBz.o,rfl⟩
 subst he1;have h2:=pU.o;rw[O (by simp)]at h2;clear pU;by_cases he2:e2=0;case neg=>
  obtain⟨rfl,rfl⟩:la=[]/\ea=e2:=by rw[G he2]at h2;exact adV h2
  have d1:(ea != 0)=true:=by simpa using he2
  have d3:(ea==0)=false:=by simpa using he2
  have d2:(ea==ea)=true:=by simp
  clear he2 h2;simp only[fT]at*;go_wp2_with fail;refine(kW.o w3 HB3.o).mono ?_;rintro e w9⟨r,rfl,FI,rfl⟩;have HBz:=Y (HB3.o.trans (FI.mono HB3.o.size));clear FI;go_wp2_with fail;go_ret;exact⟨_,rfl,HBz.o,rfl⟩
 subst he2;rw[O (by simp)]at h2;have pU:=Y h2;clear h2;have HSO:=Y (az6 (P:=cl) (Q:=gl) (vars:=vs) (fuel:=fuel) (by have :=Vw.o;omega) (by have :=LQ.o;omega) HV.o HF.o w3 _ _ amB.o amC.o);have zC:=Y (fun h=>ahv (P:=cl) (Q:=gl) (v:=vs) (fuel:=fuel) h);have HSE:=Y (fun h=>ard (P:=cl) (Q:=gl) (vars:=vs) (fuel:=fuel) h);generalize jU cl gl vs fuel=rs at*;obtain⟨es,er⟩:=rs;simp only at pU;have wP:=Y (show ea=er/\la.length=es.length/\(∀e∈es,Tm.aC e.terms<=200)/\(∀(k:Nat)(h:k<es.length)(h':k<la.length),la[k]=qO es[k])from by
  by_cases h0:er=0;·have h:=pU.o;rw[O (by simpa using h0)]at h;obtain⟨rfl,rfl⟩:=adV h;exact⟨h0.symm,by simp,zC.o h0,fun k h h'=>by simp⟩
  ·have h:=pU.o;rw[G h0]at h;obtain⟨rfl,rfl⟩:=adV h;have h5:es=[]:=HSE.o h0;subst h5;exact⟨rfl,rfl,by simp,fun k h=>by simp at h⟩);obtain⟨rfl,hlen,amG,hget⟩:=wP.o;have nG:=Y amG;have Hz:=Y hget;have d1:(ea != ea)=false:=by simp
 have qp:=Y hlen;clear amG hget pU zC HSE wP Vw LQ;obtain⟨pa,pc,pb,po,rfl, -⟩:=ag.at amB.o;obtain⟨qa,qc,qb,qo,rfl, -⟩:=ag.at amC.o;clear hlen;go_wp2_with fail;refine HSO.o.mono ?_;rintro e w4⟨ev,rfl,hb4,hev⟩;have bL:=Y (HB3.o.trans (hb4.mono HB3.o.size));have amH:=Y hb4;have hev:ams _ _ es _:=hev;obtain⟨ba,bcc,bb,bo,rfl,aEQ,az9,Su,QA,heb⟩:=ag.at hev;have HEB:=Y heb;have HBA:=Y QA;unfold maxLen at az9;clear hb4 hev heb QA HSO;have hll:((la.length:Int)!= (es.length:Int))=false:=by rw[qp.o];simp
 have aAc:(la.length != es.length)=false:=by rw[qp.o];simp
 go_wp2_with fail;refine(kW.o w4 bL.o).mono ?_;rintro e w5⟨r,rfl,hb5,rfl⟩;have bH:=Y (bL.o.trans (hb5.mono bL.o.size));have amJ:=Y hb5;have amK:=Y (amH.o.trans (hb5.mono amH.o.size));clear hb5 hll aAc d1;go_wp2_with fail;go_loopw[89](fun i wr=>∃k:Nat,k<=la.length/\i= .int .i64 (k:Int)/\Below w5.heap.size w5 wr)(fun i _=>la.length - (intOf i).toNat);case atStart=>exact⟨0,dA _,rfl,Z _ _⟩
 case round=>
  obtain⟨k,hk,rfl,hb⟩:=hrel;have HB:=Y hb;have HW:=Y (bH.o.trans (hb.mono bH.o.size));have hk0:(0:Int)<=(k:Int):=zN _;clear hb;by_cases hlt:k<la.length
  ·have hlt':(k:Int)<(la.length:Int):=by omega
   have ads:k<es.length:=by have :=qp.o;omega
   have aER:(k:Int)<(es.length:Int):=by omega
   obtain⟨rfl,bQ⟩:=HAA.o (by omega);obtain⟨rfl,hBb⟩:=HBA.o (by omega);have c0:=acK Di.o bQ (J.ob (amK.o.trans (HB.o.mono amK.o.size))) hlt;obtain⟨sa,sc,d0,d1,hr⟩:=alu HEB.o hBb (J.ob (amJ.o.trans (HB.o.mono amJ.o.size))) ads;have lb:ab<wr.heap.size:=iW wr _ c0;have lb':bb<wr.heap.size:=iW wr _ d0;obtain⟨X,hX⟩:∃X,X=es[k]:=⟨_,rfl⟩;obtain⟨S,hS⟩:∃S,S=la[k]:=⟨_,rfl⟩;have hSX:S=qO X:=by rw[hS,hX];exact Hz.o k ads hlt
   have hXN:Tm.aC X.terms<=200:=by rw[hX];exact nG.o _ (bN ads)
   rw[<-hX]at d0 d1 hr;rw[<-hS]at c0;have HLC:=Y (JR.o wr.drew HW.o.drew X (fun _=>True) _ hXN (iL.1 _ _ _ _ _ hr (J.drew _ _)));rw[<-hSX]at HLC;have hne:((bs S).toList==(bs S).toList)=true:=by simp
   clear hX hS hSX hXN hr;go_wp2_with fail;have nU:=Y (show Below wr.heap.size wr wr.drew from(Z _ _).drew);have hzd:wr.heap.size<=wr.drew.heap.size:=zL _;have Ah:=Y (show wr.drew.cell? ⟨ab,ao+k,none⟩=some (.string (bs S))/\wr.drew.cell? ⟨bb,bo+k*2,none⟩=some (.int .i64 X.kind)/\wr.drew.cell? ⟨bb,bo+k*2+1,none⟩=some (.slice sa X.terms.length sc)from⟨c0,d0,d1⟩);refine jd (F:=fun i W=>(i=3\/i=7)->(W.cell? ⟨ab,ao+k,none⟩=some (.string (bs S))/\W.cell? ⟨bb,bo+k*2,none⟩=some (.int .i64 X.kind)/\W.cell? ⟨bb,bo+k*2+1,none⟩=some (.slice sa X.terms.length sc))) (by kernel_rfl) ?_;generalize wr.drew=W2 at*;clear c0 d0 d1;refine zT 0 (fun _=>Ah.o) ?_;try simp only[U]
   refine zT 1 (fun _=>Ah.o) ?_;try simp only[U]
   refine zT 2 (fun _=>Ah.o) ?_;try simp only[U]
   refine zY 3 (fun _=>Ah.o) ?_ (z:=by intro w' hw;obtain⟨q0, -, -⟩:=hw (by omega);clear hw;go_simp<;>with_reducible rfl);try simp only[U]
   refine zT 4 (fun _=>Ah.o) ?_;try simp only[U]
   refine zT 5 (fun _=>Ah.o) ?_;try simp only[U]
   refine zT 6 (fun _=>Ah.o) ?_;try simp only[U]
   refine zY (v:= .agg #[.int .i64 X.kind,.slice sa X.terms.length sc]) 7 (fun _=>Ah.o) ?_ (z:=by intro w' hw;obtain⟨-,q0,q1⟩:=hw (by omega);clear hw;go_simp);try simp only[U]
   refine zO 8 ?_;go_simp;refine(HLC.o).mono ?_;rintro e w6⟨v,rfl,hb6,rfl⟩;have gz:=Y (HB.o.trans ((nU.o.trans (hb6.mono hzd)).mono HB.o.size));have amN:=Y (And.intro (bc hb6 Ah.o.1) (And.intro (bc hb6 Ah.o.2.1) (bc hb6 Ah.o.2.2)));clear hb6 HLC;refine⟨fun _ _ _ _=>amN.o,?_⟩;refine zY (v:= .bool false) 9 (fun _=>amN.o) ?_ (z:=by intro w' hw;clear hw;go_simp);try simp only[U]
   refine zQ ?_;go_wp2_with fail;go_roundw;case rel=>exact⟨k+1,by omega,by go_num,gz.o⟩
   case measure=>simp[intOf];omega
  ·have hke:k=la.length:=by omega
   subst hke;go_wp2_with fail;go_ret;exact⟨_,rfl,HW.o,rfl⟩
