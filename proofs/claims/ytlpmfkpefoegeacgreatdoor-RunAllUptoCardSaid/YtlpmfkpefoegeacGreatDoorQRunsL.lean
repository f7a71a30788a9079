import Derived.Test.YtlpmfkpefoegeacGreatDoorQSolvesL
import Derived.Test.YtlpmfkpefoegeacGreatDoorQMach13
namespace Go.Proofs.YtlpmfkpefoegeacGreatDoor
set_option maxRecDepth 99999
set_option maxHeartbeats 0
set_option linter.all false
open Go.RowKit
theorem axq(w:World):Calls Tryz.prog 13 #[] w (Pure w (fun r _=>r= .bool true)):=by have HQ:=zh (fun(W:World)(pv qv:Value)hp hq=>aiY (P:=[c4]) (Q:=[pV]) (vars:=1) (fuel:=9) (every:=1) (by decide) (by decide) (by unfold aA;omega) (by unfold aA;omega) (by unfold aA;omega) W pv qv hp hq);rw[ait _ _ _ _ _ (by omega),axm]at HQ;go_enter Tryz.func13,Tryz.ntmps13;go_wp2_with fail;have hW:=axo w;have HW:=zh hW;clear hW;refine(HQ.o _ _ _ HW.o.1 HW.o.2.1).mono ?_;rintro e w1⟨ev,rfl,hb1,hev⟩;have HB1:=zh (HW.o.2.2.trans (hb1.mono HW.o.2.2.size));clear hb1 HW HQ;obtain⟨ea,ec,eb,eo,rfl, -, -, -,sV,iC⟩:=au.at hev;obtain⟨rfl,hAe⟩:=sV (by simp);obtain⟨ta,tc,c0,c1,hr0, -⟩:=U9 iC hAe (af.refl _ _) (k:=0) (by simp);obtain⟨ta1,tc1,d0,d1, -, -⟩:=U9 iC hAe (af.refl _ _) (k:=1) (by simp);simp only[Jt,abY,Ef,qw,acB,cK,kg]at c0 c1 d0 d1 hr0;obtain⟨_,_,tb,Ng,e9, -, -, -,mP,hte⟩:=au.at hr0;simp only[dC,cK,kg,dL]at e9;obtain⟨rfl,rfl⟩:=e9;obtain⟨rfl,hAt⟩:=mP (by simp);obtain⟨xa,xc,f0,f1,f2,f3, -⟩:=gq hte hAt (af.refl _ _) (k:=0) (by simp);simp only[Jt,Ef,qw]at f0 f1 f2 f3;have l1:=fK w1 _ c0;have l2:=fK w1 _ f0;simp only at l1 l2;have rV:n4.n=4:=rfl;rw[rV]at f1;clear hev sV iC hr0 mP hte hAe hAt;simp only[cK,kg];go_wp2_with fail;go_ret;exact⟨_,rfl,HB1.o,rfl⟩
