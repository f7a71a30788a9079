import Derived.Test.YtlpmfkpefoegeacGreatDoorQIsHeap
import Derived.Lib.AtoiAll
import Derived.Lib.ItoaMem
namespace Go.Proofs.YtlpmfkpefoegeacGreatDoor
set_option maxRecDepth 99999
set_option maxHeartbeats 0
set_option linter.all false
open Go.RowKit
def Tm.jd(t:Tm):Prop:=t.kind=1\/t.kind=3
def Tm.jM(t:Tm):Prop:=(t.args.length=0/\(t.s.toList=[33]\/t.s.toList=[116,114,117,101]\/t.s.toList=[102,97,105,108]))\/(t.args.length=2/\(t.s.toList=[101,113]\/t.s.toList=[108,101,115,115]))\/(t.args.length=3/\t.s.toList=[97,100,100])
def Tm.Fits(v:Int)(t:Tm):Prop:=t.Good v/\t.nodes<=24
theorem Yt(t:Tm)(A:Nat->Prop)(w:World)(vs:List Value)(hv:Tm.rep A w t vs):Calls Tryz.prog 90 #[.agg vs.toArray] w (Pure w (AP t.jd)):=by
 obtain⟨k,n,s,l⟩:=t;rw[Tm.gT]at hv;obtain⟨hk,hn,hs,v,rfl,hl⟩:=hv;obtain⟨a,cap, -, -,rfl, -⟩:=hl.at;have HB:=zh (show Below w.heap.size w (w.alloc (.cells #[.int .i64 k,.int .i64 n,.string s,.slice a l.length cap] 34))from gU (zB _ _));clear hl;by_cases e1:k=1;·subst e1;go_enter Tryz.func90,Tryz.ntmps90;go_wp2_with fail;go_ret;exact⟨_,rfl,HB.o,_,rfl,by simp[Tm.jd,Tm.kind]⟩
 ·have h1:(k==1)=false:=by simpa using e1
  by_cases e3:k=3;·subst e3;go_enter Tryz.func90,Tryz.ntmps90;go_wp2_with fail;go_ret;exact⟨_,rfl,HB.o,_,rfl,by simp[Tm.jd,Tm.kind]⟩
  ·have h3:(k==3)=false:=by simpa using e3
   go_enter Tryz.func90,Tryz.ntmps90;go_wp2_with fail;go_ret;exact⟨_,rfl,HB.o,_,rfl,by simp[Tm.jd,Tm.kind,e1,e3]⟩
theorem Yu(t:Tm)(A:Nat->Prop)(w:World)(vs:List Value)(hv:Tm.rep A w t vs):Calls Tryz.prog 92 #[.agg vs.toArray] w (Pure w (AP t.jM)):=by
 obtain⟨k,n,s,l⟩:=t;rw[Tm.gT]at hv;obtain⟨hk,hn,hs,v,rfl,hl⟩:=hv;obtain⟨a,cap, -, -,rfl, -⟩:=hl.at;have HB:=zh (show Below w.heap.size w (w.alloc (.cells #[.int .i64 k,.int .i64 n,.string s,.slice a l.length cap] 34))from gU (zB _ _));clear hl;by_cases e0:l.length=0
 ·rw[e0];by_cases s1:s.toList=[33]
  ·have q1:(s.toList==[33])=true:=by simpa using s1
   go_enter Tryz.func92,Tryz.ntmps92;rw[e0]at HB;go_wp2_with fail;go_ret;exact⟨_,rfl,HB.o,_,rfl,by simp[Tm.jM,Tm.args,Tm.s,e0,s1]⟩
  ·have q1:(s.toList==[33])=false:=by simpa using s1
   by_cases s2:s.toList=[116,114,117,101]
   ·have q2:(s.toList==[116,114,117,101])=true:=by simpa using s2
    go_enter Tryz.func92,Tryz.ntmps92;rw[e0]at HB;go_wp2_with fail;go_ret;exact⟨_,rfl,HB.o,_,rfl,by simp[Tm.jM,Tm.args,Tm.s,e0,s2]⟩
   ·have q2:(s.toList==[116,114,117,101])=false:=by simpa using s2
    go_enter Tryz.func92,Tryz.ntmps92;rw[e0]at HB;go_wp2_with fail;go_ret;exact⟨_,rfl,HB.o,_,rfl,by simp[Tm.jM,Tm.args,Tm.s,e0,s1,s2]⟩
 ·by_cases e2:l.length=2
  ·rw[e2];by_cases s1:s.toList=[101,113]
   ·have q1:(s.toList==[101,113])=true:=by simpa using s1
    go_enter Tryz.func92,Tryz.ntmps92;rw[e2]at HB;go_wp2_with fail;go_ret;exact⟨_,rfl,HB.o,_,rfl,by simp[Tm.jM,Tm.args,Tm.s,e2,s1]⟩
   ·have q1:(s.toList==[101,113])=false:=by simpa using s1
    go_enter Tryz.func92,Tryz.ntmps92;rw[e2]at HB;go_wp2_with fail;go_ret;exact⟨_,rfl,HB.o,_,rfl,by simp[Tm.jM,Tm.args,Tm.s,e2,s1]⟩
  ·by_cases e3:l.length=3;·rw[e3];go_enter Tryz.func92,Tryz.ntmps92;rw[e3]at HB;go_wp2_with fail;go_ret;exact⟨_,rfl,HB.o,_,rfl,by simp[Tm.jM,Tm.args,Tm.s,e3]⟩
   ·have l0:((l.length:Int)==0)=false:=by simpa using(show ¬(l.length:Int)=0 by omega)
    have l2:((l.length:Int)==2)=false:=by simpa using(show ¬(l.length:Int)=2 by omega)
    have l3:((l.length:Int)==3)=false:=by simpa using(show ¬(l.length:Int)=3 by omega)
    go_enter Tryz.func92,Tryz.ntmps92;go_wp2_with fail;go_ret;refine⟨_,rfl,HB.o,_,rfl,?_⟩;simp only[Tm.jM,Tm.args,Tm.s];exact⟨(fun h=>by cases h),fun h=>by rcases h with⟨h, -⟩|⟨h, -⟩|⟨h, -⟩<;>omega⟩
theorem Yv(t:Tm)(v:Int)(hnd:t.nodes<=1099511627776)(hi:au v)(A:Nat->Prop)(w:World)(vs:List Value)(hv:Tm.rep A w t vs):Calls Tryz.prog 91 #[.agg vs.toArray,.int .i64 v] w (Pure w (AP (t.Fits v))):=by
 have HG:=zh (fun w'(hk:ag A w w')=>ag3 t v A w' vs hi (Tm.aA.1 _ _ _ _ _ hv hk));have HN:=zh (fun w'(hk:ag A w w')=>ag5 t A w' vs hnd (Tm.aA.1 _ _ _ _ _ hv hk));obtain⟨sa,sc,rfl, -⟩:=Tm.nk hv;clear hv;go_enter Tryz.func91,Tryz.ntmps91;go_wp2_with fail;refine(HG.o _ (ag.alloc _ _ _)).mono ?_;rintro e w1⟨r,rfl,hb,b,rfl,hr⟩;have HB:=zh (show Below w.heap.size w w1 from gU (hb.mono (by simp)));have HX:=zh (aL (bV w (.cells #[.int .i64 t.kind,.int .i64 t.n,.string t.s,.slice sa t.args.length sc] 34)) hb);clear hb;obtain⟨x0,x1,x2,x3,xf⟩:=aW HX.o;cases b with
  |false=>have qD:=zh (show ¬t.Good v from fun h=>by have :=hr.2 h;cases this);clear hr;go_wp2_with fail;go_ret;exact⟨_,rfl,HB.o,_,rfl,⟨(fun h=>by cases h),fun h=>absurd h.1 qD.o⟩⟩
  |true=>
   have vH:=zh (hr.1 rfl);clear hr;go_wp2_with fail;refine(HN.o _ (ag.ob HB.o)).mono ?_;rintro e w2⟨r,rfl,hb,rfl⟩;have HB2:=zh (HB.o.trans (hb.mono HB.o.size));clear hb;by_cases hn:t.nodes<=24
   ·have Ij:=zh hn;have hn':(t.nodes:Int)<=24:=by omega
    clear hn;go_wp2_with fail;go_ret;exact⟨_,rfl,HB2.o,_,rfl,⟨fun _=>⟨vH.o,Ij.o⟩,fun _=>(by first|rfl|simp[hn'])⟩⟩
   ·have Ij:=zh hn;have hn':¬(t.nodes:Int)<=24:=by omega
    clear hn;go_wp2_with fail;go_ret;exact⟨_,rfl,HB2.o,_,rfl,⟨(fun h=>by first|(cases h;done)|(simp at h;omega)),fun h=>absurd h.2 Ij.o⟩⟩
structure Cl where
  head : Tm
  body : List Tm
  vars : Int
def Cl.rep(A:Nat->Prop)(w:World)(c:Cl)(vs:List Value):Prop:=∃a ac b bc,vs=[.int .i64 c.head.kind,.int .i64 c.head.n,.string c.head.s,.slice a c.head.args.length ac,.slice b c.body.length bc,.int .i64 c.vars]/\Tm.rep A w c.head [.int .i64 c.head.kind,.int .i64 c.head.n,.string c.head.s,.slice a c.head.args.length ac]/\iP A w c.body (.slice b c.body.length bc)/\au c.vars
theorem Cl.aA:gz Cl.rep:=by
 refine⟨fun A w w' c vs h hk=>?_,fun A A' w c vs h hA=>?_,fun A w c vs h=>?_⟩;·obtain⟨a,ac,b,bc,rfl,h1,h2,h3⟩:=h;exact⟨a,ac,b,bc,rfl,Tm.aA.1 _ _ _ _ _ h1 hk,aj.keeps Tm.aA h2 hk,h3⟩
 ·obtain⟨a,ac,b,bc,rfl,h1,h2,h3⟩:=h;exact⟨a,ac,b,bc,rfl,Tm.aA.2.1 _ _ _ _ _ h1 hA,aj.mono Tm.aA (by omega) h2 hA,h3⟩
 ·obtain⟨a,ac,b,bc,rfl,h1,h2,h3⟩:=h;intro u hu;simp only[iG,yC,vD]at hu;rcases hu with rfl|rfl|rfl|rfl|rfl|rfl<;>rfl
theorem EO{l:List Tm}{t:Tm}(h:t∈l):t.nodes<=Tm.aH l:=by
 induction l with
  |nil=>cases h
  |cons x r ih=>
   simp only[Tm.aH];rcases iG.1 h with rfl|h;·omega
   ·have :=ih h;omega
theorem Yw(l:List Tm)(v:Int)(hnd:Tm.aH l<=1099511627776)(hi:au v)(A:Nat->Prop)(w:World)(u:Value)(hu:iP A w l u):Calls Tryz.prog 56 #[u,.int .i64 v] w (Pure w (AP (∀g∈l,g.jd/\g.Fits v))):=by
 obtain⟨a,cap,b,off,rfl,hlc,hcm,hlb,ha,he⟩:=hu.at;have HE:=zh he;have HA:=zh ha;have HI:=zh hi;have iZ:=zh hnd;clear hu he ha hi hnd;go_enter Tryz.func56,Tryz.ntmps56;go_wp2_with fail;go_loopw[9](fun i W=>∃j:Nat,j<=l.length/\i= .int .i64 (j:Int)/\Below w.heap.size w W/\∀q(hq:q<l.length),q<j->l[q].jd/\l[q].Fits v)(fun i _=>l.length - (intOf i).toNat);case atStart=>exact⟨0,dD _,rfl,zB _ _,fun q _ h=>absurd h (Lu _)⟩
 case round=>
  obtain⟨j,hj,rfl,hb,hq⟩:=hrel;have HB:=zh hb;have HQ:=zh hq;have hz:=hb.size;clear hb hq;by_cases hlt:j<l.length
  ·obtain⟨rfl,cO⟩:=HA.o (by omega);obtain⟨sa,sc,c0,c1,c2,c3,hr⟩:=pG HE.o cO (ag.ob HB.o) hlt;have hlt':(j:Int)<(l.length:Int):=by omega
   have iJ:=zh hlt;obtain⟨t,ht⟩:∃t,t=l[j]'hlt:=⟨_,rfl⟩;have hmem:t∈l:=by rw[ht];exact bZ _
   rw[<-ht]at c0 c1 c2 c3 hr;have hn:=EO hmem;have hnn:=iZ.o;have HT:=zh ht;have HR:=zh hr;have HN:=zh (show t.nodes<=1099511627776 by omega);clear hr ht hmem hn hnn;go_wp2_with fail;refine(Yt t A _ _ (Tm.aA.1 _ _ _ _ _ HR.o (ag.alloc _ _ _))).mono ?_;rintro e w1⟨r,rfl,hb,g,rfl,hg⟩;have HX:=zh (aL (bV wr (.cells #[.int .i64 t.kind,.int .i64 t.n,.string t.s,.slice sa t.args.length sc] 34)) hb);have HB1:=zh ((HB.o.alloc (by omega) (.cells #[.int .i64 t.kind,.int .i64 t.n,.string t.s,.slice sa t.args.length sc] 34)).trans (hb.mono (by simp;omega)));have HR1:=zh (Tm.aA.1 _ _ _ _ _ (Tm.aA.1 _ _ _ _ _ HR.o (ag.alloc _ _ (.cells (#[.int .i64 t.kind,.int .i64 t.n,.string t.s,.slice sa t.args.length sc]:Array Value) 34))) (ag.ob hb));clear hb c0 c1 c2 c3;obtain⟨x0,x1,x2,x3,xf⟩:=aW HX.o;cases g with
    |false=>have qD:=zh (show ¬t.jd from fun h=>by have :=hg.2 h;cases this);clear hg;go_wp2_with fail;go_ret;exact⟨_,rfl,HB1.o,_,rfl,⟨(fun h=>by cases h),fun h=>absurd (h t (by rw[HT.o];exact bZ _)).1 qD.o⟩⟩
    |true=>
     have vH:=zh (hg.1 rfl);clear hg;go_wp2_with fail;refine(Yv t v HN.o HI.o A _ _ HR1.o).mono ?_;rintro e w2⟨r,rfl,hb,g,rfl,hg⟩;have HB2:=zh (HB1.o.trans (hb.mono HB1.o.size));clear hb x0 x1 x2 x3 xf;cases g with
      |false=>have qD:=zh (show ¬t.Fits v from fun h=>by have :=hg.2 h;cases this);clear hg;go_wp2_with fail;go_ret;exact⟨_,rfl,HB2.o,_,rfl,⟨(fun h=>by cases h),fun h=>absurd (h t (by rw[HT.o];exact bZ _)).2 qD.o⟩⟩
      |true=>
       have Ik:=zh (hg.1 rfl);clear hg;go_wp2_with fail;go_roundw;case rel=>
        refine⟨j+1,by omega,by go_num,HB2.o,fun q hq hqj=>?_⟩;by_cases e:q=j;·subst e;rw[<-HT.o];exact⟨vH.o,Ik.o⟩
        ·exact HQ.o q hq (by omega)
       case measure=>first|(simp[intOf];done)|(simp[intOf];omega)
  ·have hlt':¬(j:Int)<(l.length:Int):=by omega
   have xw:=zh (show ∀g∈l,g.jd/\g.Fits v from fun g hg=>by obtain⟨q,hq,rfl⟩:=tX.1 hg;exact HQ.o q hq (by omega));go_wp2_with fail;go_ret;exact⟨_,rfl,HB.o,_,rfl,⟨fun _=>xw.o,fun _=>rfl⟩⟩
def iw(l:List Tm)(v:Int):Prop:=0<=v/\v<=8/\l.length<=5/\∀g∈l,g.jd/\g.Fits v
def Cl.Good(c:Cl):Prop:=iw c.body c.vars/\c.head.jd/\c.head.Fits c.vars/\¬c.head.jM
theorem LY(l:List Tm)(v:Int)(hnd:Tm.aH l<=1099511627776)(hi:au v)(A:Nat->Prop)(w:World)(u:Value)(hu:iP A w l u):Calls Tryz.prog 30 #[u,.int .i64 v] w (Pure w (AP (iw l v))):=by
 have HC:=zh (Yw l v hnd hi A w u hu);obtain⟨a,cap,b,off,rfl,hlc,hcm,hlb,ha,he⟩:=hu.at;clear hu ha he;by_cases h1:0<=v
 ·by_cases h2:v<=8
  ·by_cases h3:l.length<=5
   ·have h3':(l.length:Int)<=5:=by omega
    go_enter Tryz.func30,Tryz.ntmps30;go_wp2_with fail;refine(HC.o).mono ?_;rintro e w1⟨r,rfl,hb,g,rfl,hg⟩;have HB:=zh hb;have HG:=zh hg;clear hb hg;go_wp2_with fail;go_ret;exact⟨_,rfl,HB.o,_,rfl,by rw[HG.o];exact⟨fun h=>⟨h1,h2,h3,h⟩,fun h=>h.2.2.2⟩⟩
   ·have h3':¬(l.length:Int)<=5:=by omega
    go_enter Tryz.func30,Tryz.ntmps30;go_wp2_with fail;go_ret;exact⟨_,rfl,zB _ _,_,rfl,⟨(fun h=>by first|(cases h;done)|(simp at h;omega)),fun h=>absurd h.2.2.1 h3⟩⟩
  ·go_enter Tryz.func30,Tryz.ntmps30;go_wp2_with fail;go_ret;exact⟨_,rfl,zB _ _,_,rfl,⟨(fun h=>by first|(cases h;done)|(simp at h;omega)),fun h=>absurd h.2.1 (by omega)⟩⟩
 ·go_enter Tryz.func30,Tryz.ntmps30;go_wp2_with fail;go_ret;exact⟨_,rfl,zB _ _,_,rfl,⟨(fun h=>by first|(cases h;done)|(simp at h;omega)),fun h=>absurd h.1 (by omega)⟩⟩
theorem CK{w:World}{g:Nat}{E:TypeId}{v0 v1 v2 v3 v4 v5:Value}(h:w.heap[g]?=some (.cells #[v0,v1,v2,v3,v4,v5] E (0,0))):w.cell? ⟨g,0,none⟩=some v0/\w.cell? ⟨g,1,none⟩=some v1/\w.cell? ⟨g,2,none⟩=some v2/\w.cell? ⟨g,3,none⟩=some v3/\w.cell? ⟨g,4,none⟩=some v4/\w.cell? ⟨g,5,none⟩=some v5/\∀o,w.frozen? ⟨g,o,none⟩=false:=⟨(dw h 0).trans rfl,(dw h 1).trans rfl,(dw h 2).trans rfl,(dw h 3).trans rfl,(dw h 4).trans rfl,(dw h 5).trans rfl,fun o=>by simp[World.frozen?,h]⟩
def Cl.nodes(c:Cl):Nat:=c.head.nodes+Tm.aH c.body
theorem QK(c:Cl)(hnd:c.nodes<=1099511627776)(A:Nat->Prop)(w:World)(vs:List Value)(hc:Cl.rep A w c vs):Calls Tryz.prog 52 #[.agg vs.toArray] w (Pure w (AP c.Good)):=by
 obtain⟨h,l,v⟩:=c;obtain⟨a,ac,b,bc,rfl,hh,hb,hi⟩:=hc;simp only[Cl.nodes]at hnd;simp only at hh hb hi;obtain⟨_,_, -, -,e, -, -,hbl, -⟩:=hb.at;have HH:=zh hh;have oq:=zh hb;have HI:=zh hi;have LZ:=zh (show h.nodes<=1099511627776 by omega);have nA:=zh (show Tm.aH l<=1099511627776 by omega);have i1:v<=9223372036854775807:=by unfold au at hi;omega
 have i2: -9223372036854775808<=v:=by unfold au at hi;omega
 clear hh hb hi e hnd;have HX:=zh (bV w (.cells #[.int .i64 h.kind,.int .i64 h.n,.string h.s,.slice a h.args.length ac,.slice b l.length bc,.int .i64 v] 65));have HB:=zh ((gJ _ w).alloc (zL _) (.cells #[.int .i64 h.kind,.int .i64 h.n,.string h.s,.slice a h.args.length ac,.slice b l.length bc,.int .i64 v] 65));have HK:=zh (ag.alloc A w (.cells #[.int .i64 h.kind,.int .i64 h.n,.string h.s,.slice a h.args.length ac,.slice b l.length bc,.int .i64 v] 65));by_cases h1:v<0;·go_enter Tryz.func52,Tryz.ntmps52;go_wp2_with fail;go_ret;exact⟨_,rfl,HB.o,_,rfl,⟨(fun h=>by first|(cases h;done)|(simp at h;omega)),fun h=>absurd h.1.1 (by simp only;omega)⟩⟩
 by_cases h2:8<v;·go_enter Tryz.func52,Tryz.ntmps52;go_wp2_with fail;go_ret;exact⟨_,rfl,HB.o,_,rfl,⟨(fun h=>by first|(cases h;done)|(simp at h;omega)),fun h=>absurd h.1.2.1 (by simp only;omega)⟩⟩
 by_cases h3:5<l.length
 ·have h3':(5:Int)<(l.length:Int):=by omega
  go_enter Tryz.func52,Tryz.ntmps52;go_wp2_with fail;go_ret;exact⟨_,rfl,HB.o,_,rfl,⟨(fun h=>by first|(cases h;done)|(simp at h;omega)),fun h=>absurd h.1.2.2.1 (by simp only;omega)⟩⟩
 have h3':¬(5:Int)<(l.length:Int):=by omega
 go_enter Tryz.func52,Tryz.ntmps52;go_wp2_with fail;have iK:=zh (Yt h A _ _ (Tm.aA.1 _ _ _ _ _ HH.o HK.o));generalize w.alloc (.cells #[.int .i64 h.kind,.int .i64 h.n,.string h.s,.slice a h.args.length ac,.slice b l.length bc,.int .i64 v] 65)=w0 at HX HB HK iK ⊢;refine(iK.o).mono ?_;rintro e w1⟨r,rfl,hb1,g,rfl,hg⟩;have bR:=zh (aL HX.o hb1);have HB1:=zh (HB.o.trans (hb1.mono HB.o.size));have yM:=zh (HK.o.trans (ag.ob hb1));clear hb1 iK;obtain⟨x0,x1,x2,x3,x4,x5,xf⟩:=CK bR.o;cases g with|false=>have qD:=zh (show ¬h.jd from fun k=>by have :=hg.2 k;cases this);clear hg;go_wp2_with fail;go_ret;exact⟨_,rfl,HB1.o,_,rfl,⟨(fun h=>by cases h),fun k=>absurd k.2.1 qD.o⟩⟩|true=>have vH:=zh (hg.1 rfl);clear hg;go_wp2_with fail;refine(Yv h v LZ.o HI.o A _ _ (Tm.aA.1 _ _ _ _ _ HH.o yM.o)).mono ?_;rintro e w2⟨r,rfl,hb2,g,rfl,hg⟩;clear x0 x1 x2 x3 x4 x5 xf;have bG:=zh (aL bR.o hb2);have HB2:=zh (HB1.o.trans (hb2.mono HB1.o.size));have EN:=zh (yM.o.trans (ag.ob hb2));clear hb2;obtain⟨x0,x1,x2,x3,x4,x5,xf⟩:=CK bG.o;cases g with|false=>have qD:=zh (show ¬h.Fits v from fun k=>by have :=hg.2 k;cases this);clear hg;go_wp2_with fail;go_ret;exact⟨_,rfl,HB2.o,_,rfl,⟨(fun h=>by cases h),fun k=>absurd k.2.2.1 qD.o⟩⟩|true=>have Ik:=zh (hg.1 rfl);clear hg;go_wp2_with fail;refine(Yu h A _ _ (Tm.aA.1 _ _ _ _ _ HH.o EN.o)).mono ?_;rintro e w3⟨r,rfl,hb3,g,rfl,hg⟩;clear x0 x1 x2 x3 x4 x5 xf;have jY:=zh (aL bG.o hb3);have HB3:=zh (HB2.o.trans (hb3.mono HB2.o.size));have qE:=zh (EN.o.trans (ag.ob hb3));clear hb3;obtain⟨x0,x1,x2,x3,x4,x5,xf⟩:=CK jY.o;cases g with|true=>have rT:=zh (hg.1 rfl);clear hg;go_wp2_with fail;go_ret;exact⟨_,rfl,HB3.o,_,rfl,⟨(fun h=>by cases h),fun k=>absurd rT.o k.2.2.2⟩⟩|false=>have HNK:=zh (show ¬h.jM from fun k=>by have :=hg.2 k;cases this);clear hg;go_wp2_with fail;refine(Yw l v nA.o HI.o A _ _ (aj.keeps Tm.aA oq.o qE.o)).mono ?_;rintro e w4⟨r,rfl,hb4,g,rfl,hg⟩;have dH:=zh (HB3.o.trans (hb4.mono HB3.o.size));have HG:=zh hg;clear hb4 hg x0 x1 x2 x3 x4 x5 xf;go_wp2_with fail;go_ret;exact⟨_,rfl,dH.o,_,rfl,by rw[HG.o];exact⟨fun k=>⟨⟨by simp only;omega,by simp only;omega,by simp only;omega,k⟩,vH.o,Ik.o,HNK.o⟩,fun k=>k.1.2.2.2⟩⟩
abbrev EP(A:Nat->Prop)(w:World)(l:List Cl)(v:Value):Prop:=aj 6 Cl.rep A w l v
theorem ahl{w:World}{b off:Nat}{v0 v1 v2 v3 v4 v5:Value}(h:ni w b off [v0,v1,v2,v3,v4,v5]):w.cell? ⟨b,off,none⟩=some v0/\w.cell? ⟨b,off+1,none⟩=some v1/\w.cell? ⟨b,off+2,none⟩=some v2/\w.cell? ⟨b,off+3,none⟩=some v3/\w.cell? ⟨b,off+4,none⟩=some v4/\w.cell? ⟨b,off+5,none⟩=some v5:=⟨h 0 _ rfl,h 1 _ rfl,h 2 _ rfl,h 3 _ rfl,h 4 _ rfl,h 5 _ rfl⟩
theorem Yx{A:Nat->Prop}{w wr:World}{l:List Cl}{b off:Nat}(he:kM A w 6 Cl.rep l b off)(hA:A b)(hk:ag A w wr){j:Nat}(hlt:j<l.length):∃a ac bd bc,wr.cell? ⟨b,off+j*6,none⟩=some (.int .i64 l[j].head.kind)/\wr.cell? ⟨b,off+j*6+1,none⟩=some (.int .i64 l[j].head.n)/\wr.cell? ⟨b,off+j*6+2,none⟩=some (.string l[j].head.s)/\wr.cell? ⟨b,off+j*6+3,none⟩=some (.slice a l[j].head.args.length ac)/\wr.cell? ⟨b,off+j*6+4,none⟩=some (.slice bd l[j].body.length bc)/\wr.cell? ⟨b,off+j*6+5,none⟩=some (.int .i64 l[j].vars)/\Cl.rep A wr l[j] [.int .i64 l[j].head.kind,.int .i64 l[j].head.n,.string l[j].head.s,.slice a l[j].head.args.length ac,.slice bd l[j].body.length bc,.int .i64 l[j].vars]:=by obtain⟨vs,hvl,hr,hrow⟩:=he j _ (aS hlt);have hr':=Cl.aA.1 _ _ _ _ _ hr hk;obtain⟨a,ac,bd,bc,rfl, -⟩:=hr;obtain⟨d0,d1,d2,d3,d4,d5⟩:=ahl (ni.keeps hA hrow hk);exact⟨a,ac,bd,bc,d0,d1,d2,d3,d4,d5,hr'⟩
def fJ(l:List Cl):Prop:=l.length<=24/\∀c∈l,c.Good
def lX:List Cl->Nat|[]=>0|c::r=>c.nodes+lX r
theorem Yy{l:List Cl}{c:Cl}(h:c∈l):c.nodes<=lX l:=by
 induction l with
  |nil=>cases h
  |cons x r ih=>
   simp only[lX];rcases iG.1 h with rfl|h;·omega
   ·have :=ih h;omega
theorem Yz(l:List Cl)(hnd:lX l<=1099511627776)(A:Nat->Prop)(w:World)(u:Value)(hu:EP A w l u):Calls Tryz.prog 29 #[u] w (Pure w (AP (fJ l))):=by
 obtain⟨a,cap,b,off,rfl,hlc,hcm,hlb,ha,he⟩:=aj.at hu;have HE:=zh he;have HA:=zh ha;have iZ:=zh hnd;clear hu he ha hnd;go_enter Tryz.func29,Tryz.ntmps29;go_wp2_with fail;go_loopw[7](fun i W=>∃j:Nat,j<=l.length/\i= .int .i64 (j:Int)/\Below w.heap.size w W/\∀q(hq:q<l.length),q<j->l[q].Good)(fun i _=>l.length - (intOf i).toNat);case atStart=>exact⟨0,dD _,rfl,zB _ _,fun q _ h=>absurd h (Lu _)⟩
 case round=>
  obtain⟨j,hj,rfl,hb,hq⟩:=hrel;have HB:=zh hb;have HQ:=zh hq;have hz:=hb.size;clear hb hq;by_cases hlt:j<l.length
  ·obtain⟨rfl,cO⟩:=HA.o (by omega);obtain⟨sa,sc,ba,bc,c0,c1,c2,c3,c4,c5,hr⟩:=Yx HE.o cO (ag.ob HB.o) hlt;have hlt':(j:Int)<(l.length:Int):=by omega
   have iJ:=zh hlt;obtain⟨t,ht⟩:∃t,t=l[j]'hlt:=⟨_,rfl⟩;have hmem:t∈l:=by rw[ht];exact bZ _
   rw[<-ht]at c0 c1 c2 c3 c4 c5 hr;have hn:=Yy hmem;have hnn:=iZ.o;have HT:=zh ht;have HR:=zh hr;have HN:=zh (show t.nodes<=1099511627776 by omega);clear hr ht hmem hn hnn;go_wp2_with fail;refine(QK t HN.o A _ _ (Cl.aA.1 _ _ _ _ _ HR.o (ag.alloc _ _ _))).mono ?_;rintro e w1⟨r,rfl,hb,g,rfl,hg⟩;have HB1:=zh ((HB.o.alloc (by omega) (.cells #[.int .i64 t.head.kind,.int .i64 t.head.n,.string t.head.s,.slice sa t.head.args.length sc,.slice ba t.body.length bc,.int .i64 t.vars] 65)).trans (hb.mono (by simp;omega)));clear hb c0 c1 c2 c3 c4 c5;cases g with
    |false=>have qD:=zh (show ¬t.Good from fun h=>by have :=hg.2 h;cases this);clear hg;go_wp2_with fail;go_ret;exact⟨_,rfl,HB1.o,_,rfl,⟨(fun h=>by cases h),fun h=>absurd (h.2 t (by rw[HT.o];exact bZ _)) qD.o⟩⟩
    |true=>
     have vH:=zh (hg.1 rfl);clear hg;go_wp2_with fail;go_roundw;case rel=>
      refine⟨j+1,by omega,by go_num,HB1.o,fun q hq hqj=>?_⟩;by_cases e:q=j;·subst e;rw[<-HT.o];exact vH.o
      ·exact HQ.o q hq (by omega)
     case measure=>first|(simp[intOf];done)|(simp[intOf];omega)
  ·have hlt':¬(j:Int)<(l.length:Int):=by omega
   have xw:=zh (show ∀g∈l,g.Good from fun g hg=>by obtain⟨q,hq,rfl⟩:=tX.1 hg;exact HQ.o q hq (by omega));by_cases ER:l.length<=24
   ·have YA:(l.length:Int)<=24:=by omega
    go_wp2_with fail;go_ret;exact⟨_,rfl,HB.o,_,rfl,⟨fun _=>⟨ER,xw.o⟩,(fun _=>by first|rfl|simp[YA])⟩⟩
   ·have YA:¬(l.length:Int)<=24:=by omega
    go_wp2_with fail;go_ret;exact⟨_,rfl,HB.o,_,rfl,⟨(fun h=>by first|(cases h;done)|(simp at h;omega)),fun h=>absurd h.1 (by omega)⟩⟩
def iy(f:Rd->Tm×Rd):Nat->List Tm->Rd->List Tm×Rd|0,l,r=>(l,r)|k+1,l,r=>if r.bad then(l,r)else if((f r).2.at_ [44]).1 then iy f k (l++[(f r).1]) ((f r).2.at_ [44]).2 else(l++[(f r).1],((f r).2.at_ [44]).2)
def Rd.must(sg:Str)(r:Rd):Rd:=if(r.at_ sg).1 then(r.at_ sg).2 else(r.at_ sg).2.kill
def fA(r:Rd):List Tm×Rd:=((iy (cz 24) (r.s.length+1) [] r).1,(iy (cz 24) (r.s.length+1) [] r).2.must [46])
def Ps.must(sg:Str)(p:Ps):Ps:=if p.bad then p else if(p.take sg).1 then(p.take sg).2 else p.kill
theorem ahm{f:Rd->Tm×Rd}(k:Nat)(l:List Tm)(r:Rd)(h:r.bad=true):iy f k l r=(l,r):=by cases k with|zero=>rfl|succ k=>rw[iy,ah h]
def eY(r:Rd):Cl×Rd:=let h:=cz 24 {r with vars:=[]};if(h.2.at_ [58,45]).1 then(⟨h.1,(fA (h.2.at_ [58,45]).2).1,((fA (h.2.at_ [58,45]).2).2.vars.length:Nat)⟩,(fA (h.2.at_ [58,45]).2).2)else(⟨h.1,[],(((h.2.at_ [58,45]).2.must [46]).vars.length:Nat)⟩,(h.2.at_ [58,45]).2.must [46])
section
open Classical
noncomputable def jC:Nat->List Cl->Rd->Option (List Cl)|0,l,_=>some l|k+1,l,r=>if r.space.s=[]then some l else if(eY r.space).2.bad=true\/¬(eY r.space).1.Good then none else jC k (l++[(eY r.space).1]) (eY r.space).2
def AR:Option (List Cl)->List Cl×Int|none=>([],1)|some l=>if l.length>24 then([],3)else(l,0)
noncomputable def gL(s:Str):List Cl×Int:=if s.length>2000 then([],3)else AR (jC (s.length+1) [] ⟨s,[],false⟩)
noncomputable def eO(s:Str):List Tm×Int×Int:=if s.length>2000 then([],0,3)else if(fA ⟨s,[],false⟩).2.bad=true\/(fA ⟨s,[],false⟩).2.space.s≠[]\/¬iw (fA ⟨s,[],false⟩).1 ((fA ⟨s,[],false⟩).2.vars.length:Nat)then([],0,1)else((fA ⟨s,[],false⟩).1,((fA ⟨s,[],false⟩).2.vars.length:Nat),0)
end
theorem L6{sg:Str}(r:Rd):(r.must sg).s.length<=r.s.length/\((r.must sg).bad=false->(r.must sg).s.length+sg.length<=r.s.length):=by
 unfold Rd.must;have h:=at_len (sg:=sg) r;split;·rename_i ha;exact⟨h.1,fun _=>h.2 ha⟩
 ·exact⟨h.1,fun e=>by cases e⟩
theorem YB{f:Rd->Tm×Rd}(hf:∀r,(f r).2.s.length<=r.s.length):∀(k:Nat)(l:List Tm)(r:Rd),(iy f k l r).2.s.length<=r.s.length
 |0,l,r=>zL _
 |k+1,l,r=>by
  rw[iy];have h1:=hf r;have h2:=(at_len (sg:=[44]) (f r).2).1;split;·exact zL _
  ·split;·have :=YB hf k (l++[(f r).1]) ((f r).2.at_ [44]).2;omega
   ·simp only;omega
theorem ahn(r:Rd):(fA r).2.s.length<=r.s.length:=by unfold fA;have :=YB (Hw 24) (r.s.length+1) [] r;have :=(L6 (sg:=[46]) (iy (cz 24) (r.s.length+1) [] r).2).1;simp only;omega
theorem aho(r:Rd):(eY r).2.s.length<=r.s.length/\((eY r).2.bad=false->(eY r).2.s.length<r.s.length):=by
 unfold eY;simp only;have h1:=Hw 24 {r with vars:=[]};generalize cz 24 {r with vars:=[]}=X at*;have h2:=at_len (sg:=[58,45]) X.2;split;·rename_i ha;have h3:=ahn (X.2.at_ [58,45]).2;have h4:=h2.2 ha;simp only[bn,fC]at h1 h4 ⊢;exact⟨by omega,fun _=>by omega⟩
 ·have h3:=L6 (sg:=[46]) (X.2.at_ [58,45]).2;simp only[bn,fC]at h1 h3 ⊢;exact⟨by omega,fun h=>by have :=h3.2 h;omega⟩
open Go.Lib
def nC(n:Nat)(c:UInt8):Nat:=n*10+(c.toNat - 48)
def eP(d:Str):Nat:=d.foldl nC 0
def vI(d:Str):Prop:=∀c∈d,jX c=true
theorem yN{c:UInt8}:jX c=true↔48<=c.toNat/\c.toNat<=57:=by unfold jX;simp
theorem ahp{d:Str}(h:vI d):Ht d=(eP d:Int):=by unfold Ht eP;suffices hs:∀(d:Str)(n:Nat),vI d->d.foldl (fun(n:Int)(c:UInt8)=>10*n+((c.toNat:Int) - 48)) (n:Int)=((d.foldl nC n:Nat):Int)from hs d 0 h;intro d;induction d with|nil=>intro n _;rfl|cons c r ih=>intro n h;have hc:=yN.1 (h c (by simp));rw[He,He,<-ih (nC n c) (fun x hx=>h x (by simp[hx]))];congr 1;unfold nC;omega
theorem QL(d:Str)(c:UInt8):eP (d++[c])=eP d*10+(c.toNat - 48):=by unfold eP;rw[Qj];rfl
theorem L8:∀(d:Str)(n:Nat),d.foldl nC n=n*10 ^ d.length+eP d|[],n=>by simp[eP]|c::r,n=>by unfold eP;rw[He,He,L8 r (nC n c),L8 r (nC 0 c)];unfold nC;rw[bn,Nat.pow_succ,Hf,kL,nX,Nat.mul_assoc,Nat.mul_comm 10 (10 ^ r.length)];omega
theorem YC(c:UInt8)(r:Str):eP (c::r)=(c.toNat - 48)*10 ^ r.length+eP r:=by show List.foldl nC (nC 0 c) r=_;rw[L8];unfold nC;simp
theorem YD:∀(d:Str),vI d->eP d<10 ^ d.length|[],_=>by simp[eP]|c::r,h=>by have hc:=yN.1 (h c (by simp));have ih:=YD r (fun x hx=>h x (by simp[hx]));rw[YC,bn,Nat.pow_succ];have :(c.toNat - 48)*10 ^ r.length<=9*10 ^ r.length:=Cs _ (by omega);omega
theorem QM{c:UInt8}{r:Str}(hc:jX c=true)(h0:c≠48):10 ^ r.length<=eP (c::r):=by have hc:=yN.1 hc;have h9:c.toNat≠48:=fun e=>h0 (Lt.1 (by rw[e];rfl));rw[YC];have :1*10 ^ r.length<=(c.toNat - 48)*10 ^ r.length:=Cs _ (by omega);omega
theorem YE{c:UInt8}(h:jX c=true):UInt8.ofNat (48+(c.toNat - 48))=c:=by have hc:=yN.1 h;rw[show 48+(c.toNat - 48)=c.toNat by omega];simp
theorem L9{u:Nat}(h:¬u<10):decDigits u=decDigits (u/10)++[UInt8.ofNat (48+u%10)]:=by rw[decDigits,dif_neg h]
theorem ahq:∀(n:Nat)(d:Str),d.length=n->vI d->d≠[]->(d.head?≠some 48\/d=[48])->decDigits (eP d)=d:=by
 intro n;induction n with
  |zero=>intro d hl _ hne;exact absurd (Cn hl) hne
  |succ n ih=>
   intro d hl hd hne h0;obtain⟨l,c,rfl⟩:∃l c,d=l++[c]:=⟨d.dropLast,d.getLast hne,(arK hne).symm⟩;have hc:=yN.1 (hd c (by simp));rw[QL];by_cases hl0:l=[];·subst hl0;rw[show eP []=0 from rfl,decDigits_one (by omega),Hf,kL,YE (hd c (by simp))];rfl
   ·obtain⟨x,r,rfl⟩:∃x r,l=x::r:=Xv hl0;have hx:x≠48:=by
     rcases h0 with h0|h0;·intro e;apply h0;rw[e];rfl
     ·simp at h0
    have hge:=QM (r:=r) (hd x (by simp)) hx;have hp:1<=10 ^ r.length:=Nat.one_le_pow _ _ (by omega);rw[L9 (by omega),show(eP (x::r)*10+(c.toNat - 48))/10=eP (x::r)by omega,show(eP (x::r)*10+(c.toNat - 48))%10=c.toNat - 48 by omega,YE (hd c (by simp))];rw[ih (x::r) (by simpa using hl) (fun y hy=>hd y (by simp at hy ⊢;rcases hy with rfl|hy<;>simp[*])) (by simp) (.inl (by simpa using hx))]
theorem YF(u:Nat):vI (decDigits u)/\decDigits u≠[]/\((decDigits u).head?=some 48->u=0)/\eP (decDigits u)=u:=by
 induction u using Nat.strongRecOn with
  |_ u ih=>
   have hdig:∀k,k<10->jX (UInt8.ofNat (48+k))=true/\(UInt8.ofNat (48+k)).toNat=48+k:=fun k hk=>by
    have e:(UInt8.ofNat (48+k)).toNat=48+k:=by simp;omega
    exact⟨yN.2 (by omega),e⟩
   by_cases h:u<10
   ·rw[decDigits_one h];obtain⟨h1,h2⟩:=hdig u h;refine⟨fun c hc=>?_,by simp,fun e=>?_,?_⟩;·simp only[iF]at hc;subst hc;exact h1
    ·simp only[agG,cZ]at e;have :=congrArg UInt8.toNat e;rw[h2]at this;have e48:(48:UInt8).toNat=48:=rfl;omega
    ·rw[show[UInt8.ofNat (48+u)]=[]++[UInt8.ofNat (48+u)]from rfl,QL,h2,show eP []=0 from rfl];omega
   ·rw[L9 h];obtain⟨h1,h2,h3,h4⟩:=ih (u/10) (by omega);obtain⟨k1,k2⟩:=hdig (u%10) (by omega);refine⟨fun c hc=>?_,by simp,fun e=>?_,?_⟩
    ·simp only[gy,iF]at hc;rcases hc with hc|rfl;·exact h1 c hc
     ·exact k1
    ·have :u/10=0:=h3 (by obtain⟨x,r,hx⟩:=Xv h2;rw[hx]at e ⊢;simpa using e);omega
    ·rw[QL,h4,k2];omega
theorem ahr(d:Str)(n:Nat):n<=d.foldl nC n:=by rw[L8];have :n*1<=n*10 ^ d.length:=agl _ (Nat.one_le_pow _ _ (by omega));omega
theorem YG:∀(d:Str)(n:Nat),vI d->parseUint10 n d= .ok (d.foldl nC n)\/(parseUint10 n d= .range/\18446744073709551616<=d.foldl nC n)
 |[],n,_=> .inl rfl
 |c::r,n,h=>by
  have hc:=yN.1 (h c (by simp));have h9:=ahr r (nC n c);rw[He];unfold parseUint10;rw[ah hc];split;·refine .inr ⟨rfl,?_⟩;unfold nC at h9 ⊢;omega
  ·split;·refine .inr ⟨rfl,?_⟩;unfold nC at h9 ⊢;omega
   ·exact YG r _ fun x hx=>h x (by simp[hx])
theorem YH{d:Str}(h:vI d)(hne:d≠[]):parseMag d= .ok (eP d)\/(parseMag d= .range/\18446744073709551616<=eP d):=by unfold parseMag;rw[ae hne];exact YG d 0 h
theorem ahs{d:Str}(h:vI d)(hne:d≠[]):atoiAll d=if 9223372036854775808<=eP d then .range else .ok (eP d:Int):=by
 obtain⟨c,r,rfl⟩:=Xv hne;have hc:=yN.1 (h c (by simp));unfold atoiAll;simp only;rw[ae (by omega)];rcases YH h hne with e|⟨e,e2⟩
 ·rw[e];simp only;rw[ae (show ¬(c.toNat=45/\9223372036854775808<eP (c::r))from fun e=>by omega)];rw[ae (show ¬c.toNat=45 by omega)];by_cases h9:9223372036854775808<=eP (c::r);·rw[ah ⟨by omega,h9⟩,ah h9]
  ·rw[ae (fun e=>h9 e.2),ae h9]
 ·rw[e,ah (by omega)]
theorem aht{d:Str}(h:vI d)(hne:d≠[]):atoiAll (45::d)=if 9223372036854775808<eP d then .range else .ok (-(eP d:Int)):=by
 unfold atoiAll;have e45:(45:UInt8).toNat=45:=rfl;simp only;rw[ah (.inr e45)];rcases YH h hne with e|⟨e,e2⟩
 ·rw[e];simp only[e45];by_cases h9:9223372036854775808<eP d;·simp[h9]
  ·simp[h9]
 ·rw[e,ah (by omega)]
def AU(t:Str):Option Int:=match atoiAll t with| .ok k=>if itoa k=t/\ -1099511627776<=k/\k<=1099511627776 then some k else none|_=>none
theorem ahu{t d:Str}(hd:vI d)(ht:t=d\/t=45::d):EB t=AU t:=by
 have h45:∀x r,d=x::r->x≠45:=fun x r e e'=>by have :=yN.1 (hd x (by rw[e];simp));rw[e']at this;have e45:(45:UInt8).toNat=45:=rfl;omega
 have hdo:digitsOf t=d:=by
  unfold digitsOf;rcases ht with rfl|rfl;·cases t with|nil=>rfl|cons x r=>rw[ae (by simpa using h45 x r rfl)]
  ·rfl
 have ahv:=YD d hd;unfold EB AU;rw[hdo,ahp hd];by_cases hne:d=[];·rw[ah (.inl hne)];subst hne;rcases ht with rfl|rfl<;>rfl
 obtain⟨x,r,hx⟩:=Xv hne;have hxd:=hd x (by rw[hx];simp);have ha:(t=d/\atoiAll t=if 9223372036854775808<=eP d then .range else .ok (eP d:Int))\/(t=45::d/\atoiAll t=if 9223372036854775808<eP d then .range else .ok (-(eP d:Int))):=by
  rcases ht with rfl|rfl;·exact .inl ⟨rfl,ahs hd hne⟩
  ·exact .inr ⟨rfl,aht hd hne⟩
 by_cases hz:d.head?=some 48/\t≠[48]
 ·rw[ah (.inr (.inr hz))];rcases ha with⟨e,ha⟩|⟨e,ha⟩
  ·rw[ha];split
   ·rename_i k hk;split at hk;·cases hk
    ·simp only[NumEnd.ok.injEq]at hk;subst hk;rw[ae];rintro⟨h1, -⟩;rw[itoa_nonneg]at h1;have h2:=(YF (eP d)).2.2.1 (by rw[h1,e];exact hz.1);rw[h2]at h1;exact hz.2 (h1.symm.trans (decDigits_one (by omega)))
   ·rfl
  ·rw[ha];split
   ·rename_i k hk;split at hk;·cases hk
    ·simp only[NumEnd.ok.injEq]at hk;subst hk;rw[ae];rintro⟨h1, -⟩;by_cases h0:eP d=0;·rw[h0,e]at h1;exact absurd h1 (by simp[itoa,decDigits_one])
     ·rw[itoa_neg _ (by omega),e]at h1;simp only[Ex,fH]at h1;exact h0 ((YF (eP d)).2.2.1 (by rw[h1];exact hz.1))
   ·rfl
 ·have hh:d.head?≠some 48\/d=[48]:=by
   by_cases hq:d.head?=some 48
   ·right;have YI:t=[48]:=Cq fun hh=>hz ⟨hq,hh⟩;rcases ht with rfl|e;·exact YI
    ·rw[YI]at e;simp at e
   ·exact .inl hq
  have hpos:t=45::d->d.head?≠some 48:=fun e hq=>hz ⟨hq,by rw[e];simp⟩;have hdig:=ahq _ d rfl hd hne hh;by_cases hl:d.length>13
  ·rw[ah (.inr (.inl hl))];have hbig:10 ^ 13<=eP d:=by
    have QN:x≠48:=by
     rcases hh with h|h;·intro e;apply h;rw[hx,e];rfl
     ·rw[h]at hl;simp at hl
    have :=QM (r:=r) hxd QN;rw[<-hx]at this;have hlr:13<=r.length:=by rw[hx,bn]at hl;omega
    exact dM (Nat.pow_le_pow_right (by omega) hlr) this
   rcases ha with⟨e,ha⟩|⟨e,ha⟩
   ·rw[ha];split
    ·rename_i k hk;split at hk;·cases hk
     ·simp only[NumEnd.ok.injEq]at hk;subst hk;rw[ae (fun h=>by have :=h.2.2;omega)]
    ·rfl
   ·rw[ha];split
    ·rename_i k hk;split at hk;·cases hk
     ·simp only[NumEnd.ok.injEq]at hk;subst hk;rw[ae (fun h=>by have :=h.2.1;omega)]
    ·rfl
  ·rw[ae (by rintro(h|h|h);exact hne h;exact hl h;exact hz h)];have hlt:eP d<10000000000000:=Et ahv (dM (Nat.pow_le_pow_right (by omega) (show d.length<=13 by omega)) (by omega));rcases ha with⟨e,ha⟩|⟨e,ha⟩
   ·rw[ha,ae (show ¬9223372036854775808<=eP d by omega),ah e.symm];simp only;by_cases hb:(eP d:Int)>1099511627776;·rw[ah hb,ae (fun h=>by have :=h.2.2;omega)]
    ·rw[ae hb,ah ⟨by rw[itoa_nonneg,hdig,e],by omega,by omega⟩]
   ·have hne2:d≠t:=fun e'=>by rw[e]at e';exact absurd (congrArg List.length e') (by simp)
    have QN:x≠48:=fun e'=>hpos e (by rw[hx,e'];rfl);have hge:=QM (r:=r) hxd QN;rw[<-hx]at hge;have hp:1<=10 ^ r.length:=Nat.one_le_pow _ _ (by omega);rw[ha,ae (show ¬9223372036854775808<eP d by omega),ae hne2];simp only;by_cases hb:(eP d:Int)>1099511627776;·rw[ah hb,ae (fun h=>by have :=h.2.1;omega)]
    ·rw[ae hb,ah ⟨by rw[itoa_neg _ (by omega),hdig,e],by omega,by omega⟩]
