import Derived.Test.YtlpmfkpefoegeacGreatDoorQIsTerm
import Derived.Test.YtlpmfkpefoegeacGreatDoorQNodesOf
import Derived.Test.YtlpmfkpefoegeacGreatDoorPProveB
namespace Go.Proofs.YtlpmfkpefoegeacGreatDoor
set_option maxRecDepth 99999
set_option maxHeartbeats 0
set_option linter.all false
open Go.RowKit
def abO(t:Tm)(v:Int):Prop:=t.jw/\t.Fits v
theorem aly(t:Tm)(v:Int)(hnd:t.nodes<=4194304)(hi:aA v)(A:Nat->Prop)(w:World)(vs:List Value)(hv:Tm.rep A w t vs):Calls Tryz.prog 81 #[.agg vs.toArray,.int .i64 v] w (Pure w (uW (abO t v))):=by
 have HG:=zh (fun w'(hk:af A w w')=>awT t v A w' vs hi (Tm.aj.1 _ _ _ _ _ hv hk));have HN:=zh (fun w'(hk:af A w w')=>awZ t hnd A w' vs (Tm.aj.1 _ _ _ _ _ hv hk));obtain⟨sa,sc,rfl, -⟩:=Tm.dw hv;clear hv;by_cases hgl:t.jw
 ·have F4:=zh hgl;have hcase:(t.kind==1)=true\/((t.kind==1)=false/\(t.kind==3)=true):=by
   rcases hgl with h|h;·exact .inl (by simp[h])
   ·exact .inr ⟨by simp[h],by simp[h]⟩
  clear hgl;rcases hcase with hk|⟨hk,hk3⟩;all_goals
   go_enter Tryz.func81,Tryz.ntmps81;go_wp2_with fail;refine(HG.o _ (af.alloc _ _ _)).mono ?_;rintro e w1⟨r,rfl,hb,b,rfl,hr⟩;have HB:=zh (show Below w.heap.size w w1 from eB (hb.mono (by simp)));have HX:=zh (aL (bJ w (.cells #[.int .i64 t.kind,.int .i64 t.n,.string t.s,.slice sa t.args.length sc] 34)) hb);clear hb;obtain⟨x0,x1,x2,x3,xf⟩:=aU HX.o;cases b with
    |false=>have mH:=zh (show ¬t.Good v from fun h=>by have :=hr.2 h;cases this);clear hr;go_wp2_with fail;go_ret;exact⟨_,rfl,HB.o,_,rfl,⟨(fun h=>by cases h),fun h=>absurd h.2.1 mH.o⟩⟩
    |true=>
     have xQ:=zh (hr.1 rfl);clear hr;go_wp2_with fail;refine(HN.o _ (af.ob HB.o)).mono ?_;rintro e w2⟨r,rfl,hb,rfl⟩;have HB2:=zh (HB.o.trans (hb.mono HB.o.size));clear hb;by_cases hn:t.nodes<=24
     ·have uX:=zh hn;have hn':(t.nodes:Int)<=24:=by omega
      clear hn;go_wp2_with fail;go_ret;exact⟨_,rfl,HB2.o,_,rfl,⟨fun _=>⟨F4.o,xQ.o,uX.o⟩,fun _=>(by first|rfl|simp[hn'])⟩⟩
     ·have uX:=zh hn;have hn':¬(t.nodes:Int)<=24:=by omega
      clear hn;go_wp2_with fail;go_ret;exact⟨_,rfl,HB2.o,_,rfl,⟨(fun h=>by first|(cases h;done)|(simp at h;omega)),fun h=>absurd h.2.2 uX.o⟩⟩
 ·have F4:=zh hgl;have hk:(t.kind==1)=false:=by simpa using fun h=>hgl (.inl h)
  have hk3:(t.kind==3)=false:=by simpa using fun h=>hgl (.inr h)
  clear hgl;go_enter Tryz.func81,Tryz.ntmps81;go_wp2_with fail;go_ret;exact⟨_,rfl,eB (zB _ _),_,rfl,⟨(fun h=>by cases h),fun h=>absurd h.1 F4.o⟩⟩
theorem abP(l:List Tm)(v:Int)(hnd:Tm.bq l<=4194304)(hi:aA v)(A:Nat->Prop)(w:World)(u:Value)(hu:eP A w l u):Calls Tryz.prog 44 #[u,.int .i64 v] w (Pure w (uW (fP l v))):=by
 obtain⟨a,cap,b,off,rfl,hlc,hcm,hlb,ha,he⟩:=hu.at;have HE:=zh he;have HA:=zh ha;have HI:=zh hi;have jJ:=zh hnd;clear hu he ha hi hnd;go_enter Tryz.func44,Tryz.ntmps44;go_upto_region 1 with fail;go_cut[5](fun o W=>(∃g,o= .bool g/\(g=true↔0<=v/\v<=8/\l.length<=5))/\W=w);case first=>
  by_cases h1:0<=v
  ·by_cases h2:v<=8
   ·by_cases h3:l.length<=5
    ·have h3':decide ((l.length:Int)<=5)=true:=by simp;omega
     go_wp2_with fail;go_meet;exact⟨⟨_,rfl,by simp[h1,h2,h3]⟩,rfl⟩
    ·have h3':decide ((l.length:Int)<=5)=false:=by simp;omega
     go_wp2_with fail;go_meet;exact⟨⟨_,rfl,⟨(fun h=>by first|(cases h;done)|(simp at h;omega)),fun h=>absurd h.2.2 (by omega)⟩⟩,rfl⟩
   ·go_wp2_with fail;go_meet;exact⟨⟨_,rfl,⟨(fun h=>by first|(cases h;done)|(simp at h;omega)),fun h=>absurd h.2.1 (by omega)⟩⟩,rfl⟩
  ·go_wp2_with fail;go_meet;exact⟨⟨_,rfl,⟨(fun h=>by first|(cases h;done)|(simp at h;omega)),fun h=>absurd h.1 (by omega)⟩⟩,rfl⟩
 case rest=>
  obtain⟨⟨g0,rfl,hg0⟩,hW⟩:=hcut;have hW:=hW.symm;subst hW;have HG0:=zh hg0;clear hg0;go_wp2_with fail;go_loopw[21,5](fun i o W=>∃(j:Nat)(g:Bool),j<=l.length/\i= .int .i64 (j:Int)/\o= .bool g/\Below w.heap.size w W/\(g=true↔g0=true/\∀q(hq:q<l.length),q<j->abO l[q] v))(fun i _ _=>l.length - (intOf i).toNat);case atStart=>exact⟨0,g0,dn _,rfl,rfl,zB _ _,⟨fun h=>⟨h,fun q _ h=>absurd h (Az _)⟩,fun h=>h.1⟩⟩
  case round=>
   obtain⟨j,g,hj,rfl,rfl,hb,hq⟩:=hrel;have HB:=zh hb;have HQ:=zh hq;have hz:=hb.size;clear hb hq;by_cases hlt:j<l.length
   ·obtain⟨rfl,bC⟩:=HA.o (by omega);obtain⟨sa,sc,c0,c1,c2,c3,hr⟩:=gq HE.o bC (af.ob HB.o) hlt;have hlt':(j:Int)<(l.length:Int):=by omega
    have ky:=zh hlt;obtain⟨t,ht⟩:∃t,t=l[j]'hlt:=⟨_,rfl⟩;have hmem:t∈l:=by rw[ht];exact bO _
    rw[<-ht]at c0 c1 c2 c3 hr;have hn:=ac4 hmem;have hnn:=jJ.o;have HT:=zh ht;have HR:=zh hr;have HN:=zh (show t.nodes<=4194304 by omega);clear hr ht hmem hn hnn;cases g with
     |false=>
      have HB1:=zh (HB.o.alloc (by omega) (.cells #[.int .i64 t.kind,.int .i64 t.n,.string t.s,.slice sa t.args.length sc] 34));go_wp2_with fail;go_roundw;case rel=>refine⟨j+1,false,by omega,by go_num,rfl,HB1.o,⟨(fun h=>by cases h),fun h=>?_⟩⟩;have :=HQ.o.2 ⟨h.1,fun q hq hqj=>h.2 q hq (by omega)⟩;cases this
      case measure=>first|(simp[intOf];done)|(simp[intOf];omega)
     |true=>
      go_wp2_with fail;refine(aly t v HN.o HI.o A _ _ (Tm.aj.1 _ _ _ _ _ HR.o (af.alloc _ _ _))).mono ?_;rintro e w1⟨r,rfl,hb,g,rfl,hg⟩;have HB1:=zh ((HB.o.alloc (by omega) (.cells #[.int .i64 t.kind,.int .i64 t.n,.string t.s,.slice sa t.args.length sc] 34)).trans (hb.mono (by simp;omega)));have Ph:=zh hg;clear hb c0 c1 c2 c3 hg;go_wp2_with fail;go_roundw;case rel=>
       refine⟨j+1,g,by omega,by go_num,rfl,HB1.o,⟨fun h=>⟨(HQ.o.1 (by first|trivial|rfl)).1,fun q hq hqj=>?_⟩,fun h=>Ph.o.2 (by rw[HT.o];exact h.2 j ky.o (by omega))⟩⟩;by_cases e:q=j;·subst e;rw[<-HT.o];exact Ph.o.1 h
       ·exact(HQ.o.1 (by first|trivial|rfl)).2 q hq (by omega)
      case measure=>first|(simp[intOf];done)|(simp[intOf];omega)
   ·have hlt':¬(j:Int)<(l.length:Int):=by omega
    have CY:=zh (show g=true↔fP l v from by
     rw[HQ.o,HG0.o];constructor;·rintro⟨⟨h1,h2,h3⟩,h4⟩;refine⟨h1,h2,h3,fun x hx=>?_⟩;obtain⟨q,hq,rfl⟩:=ng.1 hx;exact h4 q hq (by omega)
     ·rintro⟨h1,h2,h3,h4⟩;exact⟨⟨h1,h2,h3⟩,fun q hq _=>h4 _ (bO hq)⟩);go_wp2_with fail;go_ret;exact⟨_,rfl,HB.o,_,rfl,CY.o⟩
theorem aw1(c:Cl)(hnd:c.nodes<=4194304)(A:Nat->Prop)(w:World)(vs:List Value)(hc:Cl.rep A w c vs):Calls Tryz.prog 86 #[.agg vs.toArray] w (Pure w (uW c.Good)):=by obtain⟨h,l,v⟩:=c;obtain⟨a,ac,b,bc,rfl,hh,hb,hi⟩:=hc;simp only[Cl.nodes]at hnd;simp only at hh hb hi;obtain⟨_,_, -, -,e, -, -,hbl, -⟩:=hb.at;have HH:=zh hh;have Em:=zh hb;have HI:=zh hi;have GI:=zh (show h.nodes<=4194304 by omega);have GJ:=zh (show Tm.bq l<=4194304 by omega);clear hh hb hi e hnd;have HX:=zh (bJ w (.cells #[.int .i64 h.kind,.int .i64 h.n,.string h.s,.slice a h.args.length ac,.slice b l.length bc,.int .i64 v] 65));have HB:=zh ((iF _ w).alloc (zL _) (.cells #[.int .i64 h.kind,.int .i64 h.n,.string h.s,.slice a h.args.length ac,.slice b l.length bc,.int .i64 v] 65));have HK:=zh (af.alloc A w (.cells #[.int .i64 h.kind,.int .i64 h.n,.string h.s,.slice a h.args.length ac,.slice b l.length bc,.int .i64 v] 65));go_enter Tryz.func86,Tryz.ntmps86;go_wp2_with fail;have gW:=zh (abP l v GJ.o HI.o A _ _ (au.keeps Tm.aj Em.o HK.o));generalize w.alloc (.cells #[.int .i64 h.kind,.int .i64 h.n,.string h.s,.slice a h.args.length ac,.slice b l.length bc,.int .i64 v] 65)=w0 at HX HB HK gW ⊢;refine(gW.o).mono ?_;rintro e w1⟨r,rfl,hb1,g,rfl,hg⟩;have eO:=zh (aL HX.o hb1);have HB1:=zh (HB.o.trans (hb1.mono HB.o.size));have qE:=zh (HK.o.trans (af.ob hb1));clear hb1 gW;obtain⟨x0,x1,x2,x3,x4,x5,xf⟩:=fQ eO.o;cases g with|false=>have mH:=zh (show ¬fP l v from fun k=>by have :=hg.2 k;cases this);clear hg;go_wp2_with fail;go_ret;exact⟨_,rfl,HB1.o,_,rfl,⟨(fun h=>by cases h),fun k=>absurd k.1 mH.o⟩⟩|true=>have xQ:=zh (hg.1 rfl);clear hg;go_wp2_with fail;refine(aly h v GI.o HI.o A _ _ (Tm.aj.1 _ _ _ _ _ HH.o qE.o)).mono ?_;rintro e w2⟨r,rfl,hb2,g,rfl,hg⟩;clear x0 x1 x2 x3 x4 x5 xf;have dI:=zh (aL eO.o hb2);have HB2:=zh (HB1.o.trans (hb2.mono HB1.o.size));have Cv:=zh (qE.o.trans (af.ob hb2));clear hb2;obtain⟨x0,x1,x2,x3,x4,x5,xf⟩:=fQ dI.o;cases g with|false=>have mH:=zh (show ¬abO h v from fun k=>by have :=hg.2 k;cases this);clear hg;go_wp2_with fail;go_ret;exact⟨_,rfl,HB2.o,_,rfl,⟨(fun h=>by cases h),fun k=>absurd ⟨k.2.1,k.2.2.1⟩ mH.o⟩⟩|true=>have Cw:=zh (hg.1 rfl);clear hg;go_wp2_with fail;refine(ak7 h A _ _ (Tm.aj.1 _ _ _ _ _ HH.o Cv.o)).mono ?_;rintro e w3⟨r,rfl,hb3,g,rfl,hg⟩;clear x0 x1 x2 x3 x4 x5 xf;have HB3:=zh (HB2.o.trans (hb3.mono HB2.o.size));clear hb3;cases g with|true=>have iy:=zh (hg.1 rfl);clear hg;go_wp2_with fail;go_ret;exact⟨_,rfl,HB3.o,_,rfl,⟨(fun h=>by cases h),fun k=>absurd iy.o k.2.2.2⟩⟩|false=>have jy:=zh (show ¬h.gF from fun k=>by have :=hg.2 k;cases this);clear hg;go_wp2_with fail;go_ret;exact⟨_,rfl,HB3.o,_,rfl,⟨fun _=>⟨xQ.o,Cw.o.1,Cw.o.2,jy.o⟩,fun _=>rfl⟩⟩
theorem alz(l:List Cl)(hnd:qF l<=4194304)(A:Nat->Prop)(w:World)(u:Value)(hu:lW A w l u):Calls Tryz.prog 73 #[u] w (Pure w (uW (dW l))):=by
 obtain⟨a,cap,b,off,rfl,hlc,hcm,hlb,ha,he⟩:=hu.at;have HE:=zh he;have HA:=zh ha;have jJ:=zh hnd;clear hu he ha hnd;go_enter Tryz.func73,Tryz.ntmps73;go_upto_region 1 with fail;go_cut[3](fun o W=>(∃g,o= .bool g/\(g=true↔l.length<=24))/\W=w);case first=>
  by_cases h3:l.length<=24
  ·have h3':decide ((l.length:Int)<=24)=true:=by simp;omega
   go_wp2_with fail;go_meet;exact⟨⟨_,rfl,by simp[h3]⟩,rfl⟩
  ·have h3':decide ((l.length:Int)<=24)=false:=by simp;omega
   go_wp2_with fail;go_meet;exact⟨⟨_,rfl,⟨(fun h=>by first|(cases h;done)|(simp at h;omega)),fun h=>absurd h (by omega)⟩⟩,rfl⟩
 case rest=>
  obtain⟨⟨g0,rfl,hg0⟩,hW⟩:=hcut;have hW:=hW.symm;subst hW;have HG0:=zh hg0;clear hg0;go_wp2_with fail;go_loopw[11,3](fun i o W=>∃(j:Nat)(g:Bool),j<=l.length/\i= .int .i64 (j:Int)/\o= .bool g/\Below w.heap.size w W/\(g=true↔g0=true/\∀q(hq:q<l.length),q<j->l[q].Good))(fun i _ _=>l.length - (intOf i).toNat);case atStart=>exact⟨0,g0,dn _,rfl,rfl,zB _ _,⟨fun h=>⟨h,fun q _ h=>absurd h (Az _)⟩,fun h=>h.1⟩⟩
  case round=>
   obtain⟨j,g,hj,rfl,rfl,hb,hq⟩:=hrel;have HB:=zh hb;have HQ:=zh hq;have hz:=hb.size;clear hb hq;by_cases hlt:j<l.length
   ·obtain⟨rfl,bC⟩:=HA.o (by omega);obtain⟨a,ac,bd,bc,c0,c1,c2,c3,c4,c5,hr⟩:=GK HE.o bC (af.ob HB.o) hlt;have hlt':(j:Int)<(l.length:Int):=by omega
    have ky:=zh hlt;obtain⟨t,ht⟩:∃t,t=l[j]'hlt:=⟨_,rfl⟩;have hmem:t∈l:=by rw[ht];exact bO _
    rw[<-ht]at c0 c1 c2 c3 c4 c5 hr;have hn:=VJ hmem;have hnn:=jJ.o;have HT:=zh ht;have HR:=zh hr;have HN:=zh (show t.nodes<=4194304 by omega);clear hr ht hmem hn hnn;cases g with
     |false=>
      have HB1:=zh (HB.o.alloc (by omega) (.cells #[.int .i64 t.head.kind,.int .i64 t.head.n,.string t.head.s,.slice a t.head.args.length ac,.slice bd t.body.length bc,.int .i64 t.vars] 65));go_wp2_with fail;go_roundw;case rel=>refine⟨j+1,false,by omega,by go_num,rfl,HB1.o,⟨(fun h=>by cases h),fun h=>?_⟩⟩;have :=HQ.o.2 ⟨h.1,fun q hq hqj=>h.2 q hq (by omega)⟩;cases this
      case measure=>first|(simp[intOf];done)|(simp[intOf];omega)
     |true=>
      go_wp2_with fail;refine(aw1 t HN.o A _ _ (Cl.aj.1 _ _ _ _ _ HR.o (af.alloc _ _ _))).mono ?_;rintro e w1⟨r,rfl,hb,g,rfl,hg⟩;have HB1:=zh ((HB.o.alloc (by omega) (.cells #[.int .i64 t.head.kind,.int .i64 t.head.n,.string t.head.s,.slice a t.head.args.length ac,.slice bd t.body.length bc,.int .i64 t.vars] 65)).trans (hb.mono (by simp;omega)));have Ph:=zh hg;clear hb c0 c1 c2 c3 c4 c5 hg;go_wp2_with fail;go_roundw;case rel=>
       refine⟨j+1,g,by omega,by go_num,rfl,HB1.o,⟨fun h=>⟨(HQ.o.1 (by first|trivial|rfl)).1,fun q hq hqj=>?_⟩,fun h=>Ph.o.2 (by rw[HT.o];exact h.2 j ky.o (by omega))⟩⟩;by_cases e:q=j;·subst e;rw[<-HT.o];exact Ph.o.1 h
       ·exact(HQ.o.1 (by first|trivial|rfl)).2 q hq (by omega)
      case measure=>first|(simp[intOf];done)|(simp[intOf];omega)
   ·have hlt':¬(j:Int)<(l.length:Int):=by omega
    have CY:=zh (show g=true↔dW l from by
     rw[HQ.o,HG0.o];constructor;·rintro⟨h1,h4⟩;refine⟨h1,fun x hx=>?_⟩;obtain⟨q,hq,rfl⟩:=ng.1 hx;exact h4 q hq (by omega)
     ·rintro⟨h1,h4⟩;exact⟨h1,fun q hq _=>h4 _ (bO hq)⟩);go_wp2_with fail;go_ret;exact⟨_,rfl,HB.o,_,rfl,CY.o⟩
