import Derived.Test.YtlpmfkpefoegeacGreatDoorQRd10
import Derived.Test.YtlpmfkpefoegeacGreatDoorROpenE
import Derived.Test.YtlpmfkpefoegeacGreatDoorQMach13
namespace Go.Proofs.YtlpmfkpefoegeacGreatDoor
set_option maxRecDepth 99999
set_option maxHeartbeats 0
set_option linter.all false
open Go.RowKit
def PT(s:Str):Prop:=s.length<=5000000000000
theorem afH:gz (vF qF PT):=yI QT
abbrev aqS(A:Nat->Prop)(w:World)(l:List Str)(v:Value):Prop:=aj 1 (vF qF PT) A w l v
def aqT(w:World)(r:List Str×Int)(e:Ending)(w':World):Prop:=∃lv,e= .returned (.tuple #[lv,.int .i64 r.2])/\Below w.heap.size w w'/\aqS (fun b=>w.heap.size<=b) w' r.1 lv
theorem aqU{A:Nat->Prop}{w wr:World}{l:List Ev}{b off:Nat}(he:kM A w 2 oJ l b off)(hA:A b)(hk:ag A w wr){k:Nat}(hlt:k<l.length):∃a cap,wr.cell? ⟨b,off+k*2,none⟩=some (.int .i64 l[k].kind)/\wr.cell? ⟨b,off+k*2+1,none⟩=some (.slice a l[k].terms.length cap)/\oJ A wr l[k] [.int .i64 l[k].kind,.slice a l[k].terms.length cap]:=by obtain⟨vs,hvl,Hq,hrow⟩:=he k _ (aS hlt);have hrow':=ni.keeps hA hrow hk;have Qt:=uy.1 _ _ _ _ _ Hq hk;obtain⟨v,rfl,hv,hi⟩:=Hq;obtain⟨a,cap,_,_,rfl, -⟩:=aj.at hv;exact⟨a,cap,hrow' 0 _ rfl,hrow' 1 _ rfl,Qt⟩
theorem aqV{e:Ev}{A:Nat->Prop}{w:World}{vs:List Value}(hv:oJ A w e vs)(hnd:Tm.aH e.terms<=200)(hlen:e.terms.length<=1048576):(oz e).length<=5000000000000:=by
 obtain⟨tv,rfl,hl,hk⟩:=hv;have hwl:=Iz hl;obtain⟨b,off, -,he⟩:=hl;have h1:∀(l:List Tm)(i:Nat),(∀x∈l,x∈e.terms)->i+l.length<=1048576->(j3 i l).length<=l.length*30+eD l:=by intro l;induction l with|nil=>intro i _ _;simp[j3,eD]|cons x r ih=>intro i hm hi;have hx:=hm x (by simp);obtain⟨k,hk,hkx⟩:=Es hx;obtain⟨us, -,rV, -⟩:=he k x (by rw[<-hkx];exact aS hk);have h2:=A8 x (fun _=>trivial) ⟨A,w,us,rV⟩;have h3:=ih (i+1) (fun y hy=>hm y (by simp[hy])) (by simp only[bn]at hi;omega);have h4:=Lib.itoa_length_le (i:Int) (by omega) (by simp only[bn]at hi;omega);simp only[j3,eD,bn,bA];omega
 have h2:=h1 e.terms 0 (fun x hx=>hx) (by omega);unfold oz;split;·simp only[bA,bn,fC];have :Tm.aH e.terms*1048600<=200*1048600:=Cs _ hnd;omega
 ·unfold xB;repeat(split;·simp)
  simp
theorem aqW(p q:Str)(fuel every:Int)(hp:p.length<=1048576)(hq:q.length<=1048576)(hf:au fuel)(he:au every)(B:Nat)(w:World)(hB:B<=w.heap.size)(ht:mO B w)(hn:Be B w):Calls Tryz.prog 24 #[.string (bs p),.string (bs q),.int .i64 fuel,.int .i64 every] w (aqT w (JI p q fuel every)):=by
 have HT:=zh ht;have HN:=zh hn;have HQL:=zh hq;have HF:=zh hf;have HE:=zh he;have HP1:=zh (ajO p hp B w hB ht);have hbd:=abR p;have hbq:=abR q;have hpn:=ahT p;have FX:=ahU q;have Gw:=zh (show JI p q fuel every=if(gL p).2≠0 then([],(gL p).2)else if(eO q).2.2≠0 then([],(eO q).2.2)else if(jB (gL p).1 (eO q).1 (eO q).2.1 fuel every).2≠0 then([],(jB (gL p).1 (eO q).1 (eO q).2.1 fuel every).2)else((jB (gL p).1 (eO q).1 (eO q).2.1 fuel every).1.map oz,0)from rfl);have uX:=zh (fun(w1:World)(hb:Below w.heap.size w w1)=>ajG q HQL.o B w1 (dM hB hb.size) (HT.o.below hb));generalize gL p=rp at*;generalize eO q=rq at*;obtain⟨lp,ep⟩:=rp;obtain⟨lq,vq,eq⟩:=rq;simp only at hbd hbq hpn FX;have HV:=zh (show au vq by unfold au;omega);have HPN:=zh hpn;have HQN:=zh FX;clear ht hn hp hq hf he hbd hbq hpn FX;go_enter Tryz.func24,Tryz.ntmps24;go_wp2_with fail;refine HP1.o.mono ?_;rintro e w1⟨lv1,rfl,hb1,hr1⟩;obtain⟨pa,pc,pb,po,rfl,hp1,hp2,hp3, -⟩:=aj.at hr1;have HB1:=zh hb1;have HR1:=zh hr1;clear hb1 hr1 HP1;by_cases GU:ep=0;case neg=>
  have hd:(ep != 0)=true:=by simpa using GU
  have HR:=zh (Gw.o.trans (ah GU));clear GU;go_wp2_with fail;go_ret2;rw[HR.o];exact⟨_,rfl,HB1.o,aj.nil ..⟩
 have hd1:(ep != 0)=false:=by simpa using GU
 have WY:=zh (Gw.o.trans (ae (fun h=>h GU)));clear GU Gw;go_wp2_with fail;refine(uX.o w1 HB1.o).mono ?_;rintro e w2⟨lv2,rfl,hb2,hr2⟩;obtain⟨qa,qc,qb,qo,rfl,hq1,hq2,hq3, -⟩:=aj.at hr2;have HB2:=zh (HB1.o.trans (hb2.mono HB1.o.size));have afJ:=zh (aj.mono (A':=fun b=>b<w2.heap.size) Cl.aA (by omega) (aj.keeps Cl.aA HR1.o (ag.ob hb2)) fun b hb _=>hb);have HR2:=zh (aj.mono (A':=fun b=>b<w2.heap.size) Tm.aA (by omega) hr2 fun b hb _=>hb);clear hb2 hr2 uX;by_cases heq:eq=0;case neg=>
  have hd:(eq != 0)=true:=by simpa using heq
  have HR:=zh (WY.o.trans (ah heq));clear heq;go_wp2_with fail;go_ret2;rw[HR.o];exact⟨_,rfl,HB2.o,aj.nil ..⟩
 have hd2:(eq != 0)=false:=by simpa using heq
 have Ca:=zh (WY.o.trans (ae (fun h=>h heq)));clear heq WY;have HM:=zh (aqR (P:=lp) (Q:=lq) (vars:=vq) (fuel:=fuel) (every:=every) (by have :=HPN.o;omega) (by have :=HQN.o;omega) HV.o HF.o HE.o w2 _ _ afJ.o HR2.o);obtain⟨R,hR⟩:∃R,R=jB lp lq vq fuel every:=⟨_,rfl⟩;have PU:=alf (P:=lp) (Q:=lq) (v:=vq) (fuel:=fuel) (every:=every);have fP:=alg (P:=lp) (Q:=lq) (v:=vq) (fuel:=fuel) (every:=every);rw[<-hR]at HM Ca PU fP;obtain⟨ls,er⟩:=R;simp only at HM Ca PU fP;have D7:=zh PU;have HML:=zh fP;clear hR PU fP;go_wp2_with fail;refine HM.o.mono ?_;rintro e w3⟨ev,rfl,hb3,hr3⟩;obtain⟨ea,ec,eb,eo,rfl,he1,he2,he3,hea,uK⟩:=aj.at hr3;have HB3:=zh (HB2.o.trans (hb3.mono HB2.o.size));have HEA:=zh hea;have Dr:=zh uK;clear hb3 hr3 hea uK HM afJ HR2 HR1;by_cases her:er=0;case neg=>
  have hd:(er != 0)=true:=by simpa using her
  have HR:=zh (Ca.o.trans (ah her));clear her;go_wp2_with fail;go_ret2;rw[HR.o];exact⟨_,rfl,HB3.o,aj.nil ..⟩
 have hd3:(er != 0)=false:=by simpa using her
 have HR:=zh (Ca.o.trans (ae (fun h=>h her)));have au4:ls.length<=13:=HML.o her;have iZ:=zh (D7.o her);unfold maxLen at he2;clear her Ca HML D7;go_wp2_with fail;go_loopw[15,49](fun u15 u49 wr=>∃j:Nat,j<=ls.length/\u49= .int .i64 (j:Int)/\Below w.heap.size w wr/\Below w3.heap.size w3 wr/\af qF PT 9 1 wr w3.heap.size ((ls.take j).map oz) u15)(fun _ u49 _=>ls.length - (intOf u49).toNat);case atStart=>exact⟨0,dD _,rfl,HB3.o,zB _ _,by simpa using af.nil⟩
 case round=>
  obtain⟨j,hj,rfl,hb,hb3,hown⟩:=hrel;have HB:=zh hb;have gM:=zh hb3;have HO:=zh hown;have hj0:(0:Int)<=(j:Int):=zN _;have hlm:((ls.take j).map oz).length=j:=by rw[jq,dS];omega
  obtain⟨oa,oc,hov,hol,GV⟩:=hown.val;rw[hlm]at hov hol;subst hov;have kX:=zh hlm;clear hb hb3 hown hlm;by_cases hlt:j<ls.length
  ·obtain⟨rfl,cO⟩:=HEA.o (by omega);have hlt':(j:Int)<(ls.length:Int):=by omega
   obtain⟨sa,sc,c0,c1,hr⟩:=aqU Dr.o cO (ag.ob gM.o) hlt;obtain⟨X,hX⟩:∃X,X=ls[j]:=⟨_,rfl⟩;rw[<-hX]at c0 c1 hr;have hxn:Tm.aH X.terms<=200:=by rw[hX];exact iZ.o _ (bZ hlt)
   have hx1:X.terms.length<=1048576:=by obtain⟨tv,he,hl, -⟩:=hr;obtain⟨_,_,_,_,he2, -, -,h3, -⟩:=aj.at hl;exact h3
   have l6:=zh (aqV hr hxn hx1);have jH:=zh hX;have iM:=zh ((gJ wr.heap.size wr).alloc (zL _) (.cells #[.int .i64 X.kind,.slice sa X.terms.length sc] 42));have dH:=zh (HB.o.trans (iM.o.mono HB.o.size));have Fh:=zh (ZB X B (fun _=>True) (wr.alloc (.cells #[.int .i64 X.kind,.slice sa X.terms.length sc] 42)) _ (dM hB dH.o.size) (HT.o.below dH.o) (HN.o.below hB dH.o) (by omega) (uy.1 _ _ _ _ _ hr (ag.ob iM.o)));have bE:=zh (HO.o.below iM.o);clear hX hr hxn hx1;go_wp2_with fail;refine Fh.o.mono ?_;rintro e w4⟨v,rfl,hb4,rfl⟩;have dx:=zh (dH.o.trans (hb4.mono dH.o.size));have zy:=zh (gM.o.trans ((iM.o.trans (hb4.mono iM.o.size)).mono gM.o.size));have sS:=zh (bE.o.below hb4);clear hb4 c0 c1 Fh;go_wp2_with(at_builtin;go_must(refine iH rfl (.tmp 53) (.tmp 56) 45 rfl w3.heap.size 9 1 16 Iu afH (A:=fun _=>True) (.slice oa j oc) ((ls.take j).map oz) rfl (af.eZ vK sS.o _) (oz X) [.string (bs (oz X))] (by rfl) rfl ⟨l6.o,rfl⟩ ⟨by rw[kX.o];omega,zy.o.size⟩ ?_);go_must(intro v2 w6 hown hg;have hof:=af.eB hown;obtain⟨IX,IY,hv2, -⟩:=aI.j5 hown;rw[show((ls.take j).map oz++[oz X]).length=j+1 by rw[bA,kX.o];rfl]at hv2;subst hv2;have gN:=zh hof;have jT:=zh (hg.below (dx.o.alloc dx.o.size _) (by simp only[bF];have :=dx.o.size;omega) (fun b hb=>by have :=(sS.o.lt b hb).1;have :=HB3.o.size;omega));have Lf:=zh (hg.below (zy.o.alloc zy.o.size _) (by simp only[bF];have :=zy.o.size;omega) (fun b hb=>(sS.o.lt b hb).1));clear hown hg hof));go_roundw;case rel=>refine⟨j+1,by omega,by go_num,jT.o,Lf.o,?_⟩;rw[fF hlt,mF,Ar,<-jH.o];exact gN.o
   case measure=>simp[intOf];omega
  ·have dm:j=ls.length:=by omega
   subst dm;go_wp2_with fail;go_ret2;rw[HR.o];refine⟨_,rfl,HB.o,?_⟩;have hO:=HO.o;rw[jW]at hO;exact aI.sl' afH (hO.eZ vK _) (by rw[jq];omega) fun b hb=>by have :=(hO.lt b hb).1;have :=HB3.o.size;omega
