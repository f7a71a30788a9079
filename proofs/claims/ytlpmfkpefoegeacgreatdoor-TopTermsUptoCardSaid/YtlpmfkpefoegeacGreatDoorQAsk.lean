import Derived.Test.YtlpmfkpefoegeacGreatDoorQRd10
import Derived.Test.YtlpmfkpefoegeacGreatDoorROpenE
import Derived.Test.YtlpmfkpefoegeacGreatDoorQMach13
namespace Go.Proofs.YtlpmfkpefoegeacGreatDoor
set_option maxRecDepth 99999
set_option maxHeartbeats 0
set_option linter.all false
open Go.RowKit
def Vv(s:Str):Prop:=s.length<=5000000000000
theorem alr:iy (Av Ct Vv):=Ee aeH
abbrev als(A:Nat->Prop)(w:World)(l:List Str)(v:Value):Prop:=ag 1 (Av Ct Vv) A w l v
def axU(w:World)(r:List Str×Int)(e:Ending)(w':World):Prop:=∃lv,e= .returned (.tuple #[lv,.int .i64 r.2])/\Below w.heap.size w w'/\als (fun b=>w.heap.size<=b) w' r.1 lv
theorem alu{A:Nat->Prop}{w wr:World}{l:List Ev}{b off:Nat}(he:nE A w 2 uK l b off)(hA:A b)(hk:J A w wr){k:Nat}(hlt:k<l.length):∃a cap,wr.cell? ⟨b,off+k*2,none⟩=some (.int .i64 l[k].kind)/\wr.cell? ⟨b,off+k*2+1,none⟩=some (.slice a l[k].terms.length cap)/\uK A wr l[k] [.int .i64 l[k].kind,.slice a l[k].terms.length cap]:=by obtain⟨vs,hvl,Mq,hrow⟩:=he k _ (aJ hlt);have hrow':=qJ.keeps hA hrow hk;have WI:=iL.1 _ _ _ _ _ Mq hk;obtain⟨v,rfl,hv,hi⟩:=Mq;obtain⟨a,cap,_,_,rfl, -⟩:=ag.at hv;exact⟨a,cap,hrow' 0 _ rfl,hrow' 1 _ rfl,WI⟩
theorem axV{e:Ev}{A:Nat->Prop}{w:World}{vs:List Value}(hv:uK A w e vs)(hnd:Tm.aC e.terms<=200)(hlen:e.terms.length<=1048576):(qO e).length<=5000000000000:=by
 obtain⟨tv,rfl,hl,hk⟩:=hv;have hwl:=Xx hl;obtain⟨b,off, -,he⟩:=hl;have h1:∀(l:List Tm)(i:Nat),(∀x∈l,x∈e.terms)->i+l.length<=1048576->(uI i l).length<=l.length*30+gU l:=by intro l;induction l with|nil=>intro i _ _;simp[uI,gU]|cons x r ih=>intro i hm hi;have hx:=hm x (by simp);obtain⟨k,hk,hkx⟩:=Wj hx;obtain⟨us, -,GD, -⟩:=he k x (by rw[<-hkx];exact aJ hk);have h2:=RA x (fun _=>trivial) ⟨A,w,us,GD⟩;have h3:=ih (i+1) (fun y hy=>hm y (by simp[hy])) (by simp only[bn]at hi;omega);have h4:=Lib.itoa_length_le (i:Int) (by omega) (by simp only[bn]at hi;omega);simp only[uI,gU,bn,bB];omega
 have h2:=h1 e.terms 0 (fun x hx=>hx) (by omega);unfold qO;split;·simp only[bB,bn,fT];have :Tm.aC e.terms*1048600<=200*1048600:=F8 _ hnd;omega
 ·unfold GG;repeat(split;·simp)
  simp
theorem alv(p q:Str)(fuel every:Int)(hp:p.length<=1048576)(hq:q.length<=1048576)(hf:ah fuel)(he:ah every)(B:Nat)(w:World)(hB:B<=w.heap.size)(ht:qh B w)(hn:Ey B w):Calls Tryz.prog 24 #[.string (bs p),.string (bs q),.int .i64 fuel,.int .i64 every] w (axU w (Ou p q fuel every)):=by
 have HT:=Y ht;have HN:=Y hn;have HQL:=Y hq;have HF:=Y hf;have HE:=Y he;have HP1:=Y (afP p hp B w hB ht);have hbd:=Tu p;have hbq:=Tu q;have hpn:=aeS p;have Bf:=aeT q;have pU:=Y (show Ou p q fuel every=if(gF p).2≠0 then([],(gF p).2)else if(dI q).2.2≠0 then([],(dI q).2.2)else if(lD (gF p).1 (dI q).1 (dI q).2.1 fuel every).2≠0 then([],(lD (gF p).1 (dI q).1 (dI q).2.1 fuel every).2)else((lD (gF p).1 (dI q).1 (dI q).2.1 fuel every).1.map qO,0)from rfl);have wP:=Y (fun(w1:World)(hb:Below w.heap.size w w1)=>afM q HQL.o B w1 (dm hB hb.size) (HT.o.below hb));generalize gF p=rp at*;generalize dI q=rq at*;obtain⟨lp,ep⟩:=rp;obtain⟨lq,vq,eq⟩:=rq;simp only at hbd hbq hpn Bf;have HV:=Y (show ah vq by unfold ah;omega);have Vw:=Y hpn;have LQ:=Y Bf;clear ht hn hp hq hf he hbd hbq hpn Bf;go_enter Tryz.func24,Tryz.ntmps24;go_wp2_with fail;refine HP1.o.mono ?_;rintro e w1⟨lv1,rfl,hb1,hr1⟩;obtain⟨pa,pc,pb,po,rfl,hp1,hp2,hp3, -⟩:=ag.at hr1;have HB1:=Y hb1;have HR1:=Y hr1;clear hb1 hr1 HP1;by_cases LU:ep=0;case neg=>
  have hd:(ep != 0)=true:=by simpa using LU
  have HR:=Y (pU.o.trans (G LU));clear LU;go_wp2_with fail;go_ret2;rw[HR.o];exact⟨_,rfl,HB1.o,ag.nil ..⟩
 have hd1:(ep != 0)=false:=by simpa using LU
 have acE:=Y (pU.o.trans (O (fun h=>h LU)));clear LU pU;go_wp2_with fail;refine(wP.o w1 HB1.o).mono ?_;rintro e w2⟨lv2,rfl,hb2,hr2⟩;obtain⟨qa,qc,qb,qo,rfl,hq1,hq2,hq3, -⟩:=ag.at hr2;have HB2:=Y (HB1.o.trans (hb2.mono HB1.o.size));have Qr:=Y (ag.mono (A':=fun b=>b<w2.heap.size) Cl.ae (by omega) (ag.keeps Cl.ae HR1.o (J.ob hb2)) fun b hb _=>hb);have HR2:=Y (ag.mono (A':=fun b=>b<w2.heap.size) Tm.ae (by omega) hr2 fun b hb _=>hb);clear hb2 hr2 wP;by_cases heq:eq=0;case neg=>
  have hd:(eq != 0)=true:=by simpa using heq
  have HR:=Y (acE.o.trans (G heq));clear heq;go_wp2_with fail;go_ret2;rw[HR.o];exact⟨_,rfl,HB2.o,ag.nil ..⟩
 have hd2:(eq != 0)=false:=by simpa using heq
 have zV:=Y (acE.o.trans (O (fun h=>h heq)));clear heq acE;have HM:=Y (axT (P:=lp) (Q:=lq) (vars:=vq) (fuel:=fuel) (every:=every) (by have :=Vw.o;omega) (by have :=LQ.o;omega) HV.o HF.o HE.o w2 _ _ Qr.o HR2.o);obtain⟨R,hR⟩:∃R,R=lD lp lq vq fuel every:=⟨_,rfl⟩;have Vx:=arw (P:=lp) (Q:=lq) (v:=vq) (fuel:=fuel) (every:=every);have jX:=arx (P:=lp) (Q:=lq) (v:=vq) (fuel:=fuel) (every:=every);rw[<-hR]at HM zV Vx jX;obtain⟨ls,er⟩:=R;simp only at HM zV Vx jX;have IC:=Y Vx;have HML:=Y jX;clear hR Vx jX;go_wp2_with fail;refine HM.o.mono ?_;rintro e w3⟨ev,rfl,hb3,hr3⟩;obtain⟨ea,ec,eb,eo,rfl,he1,he2,he3,lF,ik⟩:=ag.at hr3;have HB3:=Y (HB2.o.trans (hb3.mono HB2.o.size));have Di:=Y lF;have wy:=Y ik;clear hb3 hr3 lF ik HM Qr HR2 HR1;by_cases her:er=0;case neg=>
  have hd:(er != 0)=true:=by simpa using her
  have HR:=Y (zV.o.trans (G her));clear her;go_wp2_with fail;go_ret2;rw[HR.o];exact⟨_,rfl,HB3.o,ag.nil ..⟩
 have hd3:(er != 0)=false:=by simpa using her
 have HR:=Y (zV.o.trans (O (fun h=>h her)));have aDW:ls.length<=13:=HML.o her;have nG:=Y (IC.o her);unfold maxLen at he2;clear her zV HML IC;go_wp2_with fail;go_loopw[15,49](fun u15 u49 wr=>∃j:Nat,j<=ls.length/\u49= .int .i64 (j:Int)/\Below w.heap.size w wr/\Below w3.heap.size w3 wr/\I Ct Vv 9 1 wr w3.heap.size ((ls.take j).map qO) u15)(fun _ u49 _=>ls.length - (intOf u49).toNat);case atStart=>exact⟨0,dA _,rfl,HB3.o,Z _ _,by simpa using I.nil⟩
 case round=>
  obtain⟨j,hj,rfl,hb,hb3,hown⟩:=hrel;have HB:=Y hb;have fM:=Y hb3;have HO:=Y hown;have hj0:(0:Int)<=(j:Int):=zN _;have hlm:((ls.take j).map qO).length=j:=by rw[nR,dX];omega
  obtain⟨oa,oc,hov,hol,hom⟩:=hown.val;rw[hlm]at hov hol;subst hov;have HLM:=Y hlm;have l8:w3.heap.size<=wr.heap.size:=hb3.size;clear hb hb3 hown hlm;by_cases hlt:j<ls.length
  ·obtain⟨rfl,bQ⟩:=Di.o (by omega);have hlt':(j:Int)<(ls.length:Int):=by omega
   obtain⟨sa,sc,c0,c1,hr⟩:=alu wy.o bQ (J.ob fM.o) hlt;have lb:eb<wr.heap.size:=iW wr _ c0;obtain⟨X,hX⟩:∃X,X=ls[j]:=⟨_,rfl⟩;rw[<-hX]at c0 c1 hr;have EY:Tm.aC X.terms<=200:=by rw[hX];exact nG.o _ (bN hlt)
   have hx1:X.terms.length<=1048576:=by obtain⟨tv,he,hl, -⟩:=hr;obtain⟨_,_,_,_,he2, -, -,h3, -⟩:=ag.at hl;exact h3
   have lV:=Y (axV hr EY hx1);have mW:=Y hX;have sW:=Y ((gQ wr.heap.size wr).alloc (zL _) (.cells #[.int .i64 X.kind,.slice sa X.terms.length sc] 42));have bL:=Y (HB.o.trans (sW.o.mono HB.o.size));have JR:=Y (afo X B (fun _=>True) (wr.alloc (.cells #[.int .i64 X.kind,.slice sa X.terms.length sc] 42)) _ (dm hB bL.o.size) (HT.o.below bL.o) (HN.o.below hB bL.o) (by omega) (iL.1 _ _ _ _ _ hr (J.ob sW.o)));have bA:=Y (HO.o.below sW.o);clear hX hr EY hx1;go_wp2_with fail;refine JR.o.mono ?_;rintro e w4⟨v,rfl,hb4,rfl⟩;have bH:=Y (bL.o.trans (hb4.mono bL.o.size));have Db:=Y (fM.o.trans ((sW.o.trans (hb4.mono sW.o.size)).mono fM.o.size));have Iq:=Y (bA.o.below hb4);clear hb4 c0 c1 JR;go_wp2_with(at_builtin;go_must(refine ja rfl (.tmp 53) (.tmp 56) 45 rfl w3.heap.size 9 1 16 aeI alr (A:=fun _=>True) (.slice oa j oc) ((ls.take j).map qO) rfl (I.gT Ru Iq.o _) (qO X) [.string (bs (qO X))] (by rfl) rfl ⟨lV.o,rfl⟩ ⟨by rw[HLM.o];omega,Db.o.size⟩ ?_);go_must(intro v2 w6 hown hg;have hof:=I.fJ hown;obtain⟨Yf,Yg,hv2, -⟩:=az.kG hown;rw[show((ls.take j).map qO++[qO X]).length=j+1 by rw[bB,HLM.o];rfl]at hv2;subst hv2;have iR:=Y hof;have gz:=Y (hg.below (bH.o.alloc bH.o.size _) (by simp only[bO];have :=bH.o.size;omega) (fun b hb=>by have :=(Iq.o.lt b hb).1;have :=HB3.o.size;omega));have axY:=Y (hg.below (Db.o.alloc Db.o.size _) (by simp only[bO];have :=Db.o.size;omega) (fun b hb=>(Iq.o.lt b hb).1));clear hown hg hof));go_roundw;case rel=>refine⟨j+1,by omega,by go_num,gz.o,axY.o,?_⟩;rw[iq hlt,qF,D5,<-mW.o];exact iR.o
   case measure=>simp[intOf];omega
  ·have bZ:j=ls.length:=by omega
   subst bZ;go_wp2_with fail;go_ret2;rw[HR.o];refine⟨_,rfl,HB.o,?_⟩;have hO:=HO.o;rw[nQ]at hO;exact az.sl' alr (hO.gT Ru _) (by rw[nR];omega) fun b hb=>by have :=(hO.lt b hb).1;have :=HB3.o.size;omega
