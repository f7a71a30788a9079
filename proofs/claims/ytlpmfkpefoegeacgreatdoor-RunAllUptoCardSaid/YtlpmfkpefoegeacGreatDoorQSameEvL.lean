import Derived.Test.YtlpmfkpefoegeacGreatDoorQSolvesL
namespace Go.Proofs.YtlpmfkpefoegeacGreatDoor
set_option maxRecDepth 99999
set_option maxHeartbeats 0
set_option linter.all false
open Go.RowKit
theorem axr(l l':List Tm)(A:Nat->Prop)(w:World)(u v:Value)(hu:eP A w l u)(hv:eP A w l' v):Calls Tryz.prog 16 #[u,v] w (Pure w fun r _=>∃t,r= .bool t/\(t=true↔l=l')):=by
 obtain⟨a,cap,b,off,rfl,hlc,hcm,hlb,ha,he⟩:=hu.at;obtain⟨a',cap',b',off',rfl,GU,hcm',GV,ha',he'⟩:=hv.at;have HE:=zh he;have HA:=zh ha;have ku:=zh he';have rE:=zh ha';clear he ha he' ha' hu hv;by_cases e4:l.length=l'.length
 ·have E4:=zh e4;rw[<-e4]at GU GV rE ⊢;clear e4;go_enter Tryz.func16,Tryz.ntmps16;go_wp2_with fail;go_loopw[13](fun i wr=>∃j:Nat,j<=l.length/\i= .int .i64 j/\Below w.heap.size w wr/\l.take j=l'.take j)(fun i _=>l.length - (intOf i).toNat);case atStart=>exact⟨0,dn _,rfl,zB _ _,by simp⟩
  case round=>
   obtain⟨j,hj,rfl,hb,hpre⟩:=hrel;have HB:=zh hb;have HP:=zh hpre;have hz:=hb.size;clear hb hpre;by_cases hlt:j<l.length
   ·have hlt':j<l'.length:=by have :=E4.out;omega
    obtain⟨rfl,bC⟩:=HA.o (by omega);obtain⟨rfl,Pk⟩:=rE.o (by omega);obtain⟨sa,sc,c0,c1,c2,c3,hr⟩:=gq HE.o bC (af.ob HB.o) hlt;obtain⟨sa',eQ,d0,d1,d2,d3,hr'⟩:=gq ku.o Pk (af.ob HB.o) hlt';have HC:=zh (axc l[j] l'[j] _ _ _ _ (Tm.aj.1 _ _ _ _ _ hr (af.drew _ _)) (Tm.aj.1 _ _ _ _ _ hr' (af.drew _ _)));have hi0:(0:Int)<=(j:Int):=zN _;have hi1:(j:Int)<(l.length:Int):=by omega
    clear hr hr';go_wp2_with fail;go_region_held3(fun w'=>w'.cell? ⟨b,off+j*4,none⟩=some (.int .i64 l[j].kind)/\w'.cell? ⟨b,off+j*4+1,none⟩=some (.int .i64 l[j].n)/\w'.cell? ⟨b,off+j*4+2,none⟩=some (.string l[j].s)/\w'.cell? ⟨b,off+j*4+3,none⟩=some (.slice sa l[j].args.length sc)/\w'.cell? ⟨b',off'+j*4,none⟩=some (.int .i64 l'[j].kind)/\w'.cell? ⟨b',off'+j*4+1,none⟩=some (.int .i64 l'[j].n)/\w'.cell? ⟨b',off'+j*4+2,none⟩=some (.string l'[j].s)/\w'.cell? ⟨b',off'+j*4+3,none⟩=some (.slice sa' l'[j].args.length eQ))(first|exact⟨c0,c1,c2,c3,d0,d1,d2,d3⟩|exact⟨bc hb1 c0,bc hb1 c1,bc hb1 c2,bc hb1 c3,bc hb1 d0,bc hb1 d1,bc hb1 d2,bc hb1 d3⟩)((go_at_call 45;refine(HC.o).mono ?_;rintro e w1⟨v,rfl,hb1,r,rfl,hr⟩));have HB1:=zh (HB.o.drew.trans (hb1.mono (by simp;omega)));have HR:=zh hr;clear hr hb1 HC c0 c1 c2 c3 d0 d1 d2 d3;cases r with
     |false=>go_wp2_with fail;go_ret;refine⟨_,rfl,HB1.o,false,rfl,?_⟩;have h1:=HR.o;simp only[mD,false_iff]at h1 ⊢;rintro rfl;exact h1 rfl
     |true=>
      go_wp2_with fail;go_roundw;case rel=>exact⟨j+1,by omega,by go_num,HB1.o,alF HP.o hlt hlt' (by simpa using HR.o)⟩
      case measure=>simp[intOf];omega
   ·go_wp2_with fail;go_ret;refine⟨_,rfl,HB.o,true,rfl,?_⟩;have h1:=HP.o;have h2:=E4.out;rw[iZ (by omega),iZ (by omega)]at h1;simp[h1]
 ·have e4':((l.length:Int)!= (l'.length:Int))=true:=by simp;omega
  go_enter Tryz.func16,Tryz.ntmps16;go_wp2_with fail;go_ret;refine⟨_,rfl,zB _ _,false,rfl,by simp;rintro rfl;exact e4 rfl⟩
theorem axs(l l':List Ev)(A:Nat->Prop)(w:World)(u v:Value)(hu:U5 A w l u)(hv:U5 A w l' v):Calls Tryz.prog 12 #[u,v] w (Pure w fun r _=>∃t,r= .bool t/\(t=true↔l=l')):=by
 obtain⟨a,cap,b,off,rfl,hlc,hcm,hlb,ha,he⟩:=au.at hu;obtain⟨a',cap',b',off',rfl,GU,hcm',GV,ha',he'⟩:=au.at hv;have HE:=zh he;have HA:=zh ha;have ku:=zh he';have rE:=zh ha';clear he ha he' ha' hu hv;by_cases e4:l.length=l'.length
 ·have E4:=zh e4;rw[<-e4]at GU GV rE ⊢;clear e4;go_enter Tryz.func12,Tryz.ntmps12;go_wp2_with fail;go_loopw[13](fun i wr=>∃j:Nat,j<=l.length/\i= .int .i64 j/\Below w.heap.size w wr/\l.take j=l'.take j)(fun i _=>l.length - (intOf i).toNat);case atStart=>exact⟨0,dn _,rfl,zB _ _,by simp⟩
  case round=>
   obtain⟨j,hj,rfl,hb,hpre⟩:=hrel;have HB:=zh hb;have HP:=zh hpre;have hz:=hb.size;clear hb hpre;by_cases hlt:j<l.length
   ·have hlt':j<l'.length:=by have :=E4.out;omega
    obtain⟨rfl,bC⟩:=HA.o (by omega);obtain⟨rfl,Pk⟩:=rE.o (by omega);obtain⟨sa,sc,c0,c1,hr,hk⟩:=U9 HE.o bC (af.ob HB.o) hlt;obtain⟨sa',eQ,d0,d1,hr',hk'⟩:=U9 ku.o Pk (af.ob HB.o) hlt';have hbl:=fK wr _ c0;have axt:=fK wr _ d0;simp only at hbl axt;have HC:=zh (axr l[j].terms l'[j].terms _ wr.drew _ _ (au.keeps Tm.aj hr (af.drew _ _)) (au.keeps Tm.aj hr' (af.drew _ _)));have hi0:(0:Int)<=(j:Int):=zN _;have hi1:(j:Int)<(l.length:Int):=by omega
    clear hr hr' hk hk';by_cases hke:l[j].kind=l'[j].kind
    ·have HKE:=zh hke;rw[<-hke]at d0;clear hke;go_wp2_with fail;go_still_tail 22,(by kernel_rfl);change wpList _ _ _ _ _ wr.drew;have Em:=zh (show Below wr.heap.size wr wr.drew from(zB _ _).drew);have hzd:wr.heap.size<=wr.drew.heap.size:=zL _;generalize wr.drew=W2 at*;clear c0 c1 d0 d1;go_wp2_with fail;refine(HC.o).mono ?_;rintro e w1⟨v,rfl,hb1,r,rfl,hr⟩;have HB1:=zh (HB.o.trans ((Em.o.trans (hb1.mono hzd)).mono hz));have HR:=zh hr;clear hr hb1 HC;cases r with
      |false=>go_wp2_with fail;go_ret;refine⟨_,rfl,HB1.o,false,rfl,?_⟩;have h1:=HR.o;simp only[mD,false_iff]at h1 ⊢;rintro rfl;exact h1 rfl
      |true=>
       go_wp2_with fail;go_roundw;case rel=>exact⟨j+1,by omega,by go_num,HB1.o,axe HP.o hlt hlt' (axd HKE.o (HR.o.1 (by simp)))⟩
       case measure=>simp[intOf];omega
    ·have HKE:=zh hke;have hne:(l[j].kind != l'[j].kind)=true:=by simpa using hke
     clear hke;go_wp2_with fail;go_quiet(fail);have oZ:=zh (show Below wr.heap.size wr (wr.drewN nq)from⟨rfl,rfl,rfl,zL _,fun _ _=>rfl⟩);generalize wr.drewN nq=W2 at*;go_wp2_with fail;go_ret;refine⟨_,rfl,HB.o.trans (oZ.o.mono hz),false,rfl,?_⟩;simp only[mD,false_iff];rintro rfl;exact HKE.o rfl
   ·go_wp2_with fail;go_ret;refine⟨_,rfl,HB.o,true,rfl,?_⟩;have h1:=HP.o;have h2:=E4.out;rw[iZ (by omega),iZ (by omega)]at h1;simp[h1]
 ·have e4':((l.length:Int)!= (l'.length:Int))=true:=by simp;omega
  go_enter Tryz.func12,Tryz.ntmps12;go_wp2_with fail;go_ret;refine⟨_,rfl,zB _ _,false,rfl,by simp;rintro rfl;exact e4 rfl⟩
