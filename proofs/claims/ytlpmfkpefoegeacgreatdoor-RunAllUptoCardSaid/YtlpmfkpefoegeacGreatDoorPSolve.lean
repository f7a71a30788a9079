import Derived.Test.YtlpmfkpefoegeacGreatDoorQIsHeap
import Derived.Test.YtlpmfkpefoegeacGreatDoorROpen
import Derived.Carry
namespace Go.Proofs.YtlpmfkpefoegeacGreatDoor
set_option maxRecDepth 99999
set_option maxHeartbeats 0
set_option linter.all false
open Go.RowKit
def Tm.jw(t:Tm):Prop:=t.kind=1\/t.kind=3
def Tm.gF(t:Tm):Prop:=(t.args.length=0/\(t.s.toList=[33]\/t.s.toList=[116,114,117,101]\/t.s.toList=[102,97,105,108]))\/(t.args.length=2/\(t.s.toList=[101,113]\/t.s.toList=[108,101,115,115]))\/(t.args.length=3/\t.s.toList=[97,100,100])
def Tm.Fits(v:Int)(t:Tm):Prop:=t.Good v/\t.nodes<=24
theorem ac1(t:Tm)(A:Nat->Prop)(w:World)(vs:List Value)(hv:Tm.rep A w t vs):Calls Tryz.prog 90 #[.agg vs.toArray] w (Pure w (uW t.jw)):=by
 obtain⟨k,n,s,l⟩:=t;rw[Tm.gL]at hv;obtain⟨hk,hn,hs,v,rfl,hl⟩:=hv;obtain⟨a,cap, -, -,rfl, -⟩:=hl.at;have HB:=zh (show Below w.heap.size w (w.alloc (.cells #[.int .i64 k,.int .i64 n,.string s,.slice a l.length cap] 34))from eB (zB _ _));clear hl;by_cases e1:k=1;·subst e1;go_enter Tryz.func90,Tryz.ntmps90;go_wp2_with fail;go_ret;exact⟨_,rfl,HB.o,_,rfl,by simp[Tm.jw,Tm.kind]⟩
 ·have h1:(k==1)=false:=by simpa using e1
  by_cases e3:k=3;·subst e3;go_enter Tryz.func90,Tryz.ntmps90;go_wp2_with fail;go_ret;exact⟨_,rfl,HB.o,_,rfl,by simp[Tm.jw,Tm.kind]⟩
  ·have h3:(k==3)=false:=by simpa using e3
   go_enter Tryz.func90,Tryz.ntmps90;go_wp2_with fail;go_ret;exact⟨_,rfl,HB.o,_,rfl,by simp[Tm.jw,Tm.kind,e1,e3]⟩
theorem ac2(t:Tm)(A:Nat->Prop)(w:World)(vs:List Value)(hv:Tm.rep A w t vs):Calls Tryz.prog 92 #[.agg vs.toArray] w (Pure w (uW t.gF)):=by
 obtain⟨k,n,s,l⟩:=t;rw[Tm.gL]at hv;obtain⟨hk,hn,hs,v,rfl,hl⟩:=hv;obtain⟨a,cap, -, -,rfl, -⟩:=hl.at;have HB:=zh (show Below w.heap.size w (w.alloc (.cells #[.int .i64 k,.int .i64 n,.string s,.slice a l.length cap] 34))from eB (zB _ _));clear hl;by_cases e0:l.length=0
 ·rw[e0];by_cases s1:s.toList=[33]
  ·have q1:(s.toList==[33])=true:=by simpa using s1
   go_enter Tryz.func92,Tryz.ntmps92;rw[e0]at HB;go_wp2_with fail;go_ret;exact⟨_,rfl,HB.o,_,rfl,by simp[Tm.gF,Tm.args,Tm.s,e0,s1]⟩
  ·have q1:(s.toList==[33])=false:=by simpa using s1
   by_cases s2:s.toList=[116,114,117,101]
   ·have q2:(s.toList==[116,114,117,101])=true:=by simpa using s2
    go_enter Tryz.func92,Tryz.ntmps92;rw[e0]at HB;go_wp2_with fail;go_ret;exact⟨_,rfl,HB.o,_,rfl,by simp[Tm.gF,Tm.args,Tm.s,e0,s2]⟩
   ·have q2:(s.toList==[116,114,117,101])=false:=by simpa using s2
    go_enter Tryz.func92,Tryz.ntmps92;rw[e0]at HB;go_wp2_with fail;go_ret;exact⟨_,rfl,HB.o,_,rfl,by simp[Tm.gF,Tm.args,Tm.s,e0,s1,s2]⟩
 ·by_cases e2:l.length=2
  ·rw[e2];by_cases s1:s.toList=[101,113]
   ·have q1:(s.toList==[101,113])=true:=by simpa using s1
    go_enter Tryz.func92,Tryz.ntmps92;rw[e2]at HB;go_wp2_with fail;go_ret;exact⟨_,rfl,HB.o,_,rfl,by simp[Tm.gF,Tm.args,Tm.s,e2,s1]⟩
   ·have q1:(s.toList==[101,113])=false:=by simpa using s1
    go_enter Tryz.func92,Tryz.ntmps92;rw[e2]at HB;go_wp2_with fail;go_ret;exact⟨_,rfl,HB.o,_,rfl,by simp[Tm.gF,Tm.args,Tm.s,e2,s1]⟩
  ·by_cases e3:l.length=3;·rw[e3];go_enter Tryz.func92,Tryz.ntmps92;rw[e3]at HB;go_wp2_with fail;go_ret;exact⟨_,rfl,HB.o,_,rfl,by simp[Tm.gF,Tm.args,Tm.s,e3]⟩
   ·have l0:((l.length:Int)==0)=false:=by simpa using(show ¬(l.length:Int)=0 by omega)
    have l2:((l.length:Int)==2)=false:=by simpa using(show ¬(l.length:Int)=2 by omega)
    have l3:((l.length:Int)==3)=false:=by simpa using(show ¬(l.length:Int)=3 by omega)
    go_enter Tryz.func92,Tryz.ntmps92;go_wp2_with fail;go_ret;refine⟨_,rfl,HB.o,_,rfl,?_⟩;simp only[Tm.gF,Tm.args,Tm.s];exact⟨(fun h=>by cases h),fun h=>by rcases h with⟨h, -⟩|⟨h, -⟩|⟨h, -⟩<;>omega⟩
theorem ac3(t:Tm)(v:Int)(hnd:t.nodes<=1099511627776)(hi:aA v)(A:Nat->Prop)(w:World)(vs:List Value)(hv:Tm.rep A w t vs):Calls Tryz.prog 91 #[.agg vs.toArray,.int .i64 v] w (Pure w (uW (t.Fits v))):=by
 have HG:=zh (fun w'(hk:af A w w')=>amw t v A w' vs hi (Tm.aj.1 _ _ _ _ _ hv hk));have HN:=zh (fun w'(hk:af A w w')=>amy t A w' vs hnd (Tm.aj.1 _ _ _ _ _ hv hk));obtain⟨sa,sc,rfl, -⟩:=Tm.dw hv;clear hv;go_enter Tryz.func91,Tryz.ntmps91;go_wp2_with fail;refine(HG.o _ (af.alloc _ _ _)).mono ?_;rintro e w1⟨r,rfl,hb,b,rfl,hr⟩;have HB:=zh (show Below w.heap.size w w1 from eB (hb.mono (by simp)));have HX:=zh (aL (bJ w (.cells #[.int .i64 t.kind,.int .i64 t.n,.string t.s,.slice sa t.args.length sc] 34)) hb);clear hb;obtain⟨x0,x1,x2,x3,xf⟩:=aU HX.o;cases b with
  |false=>have mH:=zh (show ¬t.Good v from fun h=>by have :=hr.2 h;cases this);clear hr;go_wp2_with fail;go_ret;exact⟨_,rfl,HB.o,_,rfl,⟨(fun h=>by cases h),fun h=>absurd h.1 mH.o⟩⟩
  |true=>
   have xQ:=zh (hr.1 rfl);clear hr;go_wp2_with fail;refine(HN.o _ (af.ob HB.o)).mono ?_;rintro e w2⟨r,rfl,hb,rfl⟩;have HB2:=zh (HB.o.trans (hb.mono HB.o.size));clear hb;by_cases hn:t.nodes<=24
   ·have uX:=zh hn;have hn':(t.nodes:Int)<=24:=by omega
    clear hn;go_wp2_with fail;go_ret;exact⟨_,rfl,HB2.o,_,rfl,⟨fun _=>⟨xQ.o,uX.o⟩,fun _=>(by first|rfl|simp[hn'])⟩⟩
   ·have uX:=zh hn;have hn':¬(t.nodes:Int)<=24:=by omega
    clear hn;go_wp2_with fail;go_ret;exact⟨_,rfl,HB2.o,_,rfl,⟨(fun h=>by first|(cases h;done)|(simp at h;omega)),fun h=>absurd h.2 uX.o⟩⟩
structure Cl where
  head : Tm
  body : List Tm
  vars : Int
def Cl.rep(A:Nat->Prop)(w:World)(c:Cl)(vs:List Value):Prop:=∃a ac b bc,vs=[.int .i64 c.head.kind,.int .i64 c.head.n,.string c.head.s,.slice a c.head.args.length ac,.slice b c.body.length bc,.int .i64 c.vars]/\Tm.rep A w c.head [.int .i64 c.head.kind,.int .i64 c.head.n,.string c.head.s,.slice a c.head.args.length ac]/\eP A w c.body (.slice b c.body.length bc)/\aA c.vars
theorem Cl.aj:iq Cl.rep:=by
 refine⟨fun A w w' c vs h hk=>?_,fun A A' w c vs h hA=>?_,fun A w c vs h=>?_⟩;·obtain⟨a,ac,b,bc,rfl,h1,h2,h3⟩:=h;exact⟨a,ac,b,bc,rfl,Tm.aj.1 _ _ _ _ _ h1 hk,au.keeps Tm.aj h2 hk,h3⟩
 ·obtain⟨a,ac,b,bc,rfl,h1,h2,h3⟩:=h;exact⟨a,ac,b,bc,rfl,Tm.aj.2.1 _ _ _ _ _ h1 hA,au.mono Tm.aj (by omega) h2 hA,h3⟩
 ·obtain⟨a,ac,b,bc,rfl,h1,h2,h3⟩:=h;intro u hu;simp only[gK,uQ,pz]at hu;rcases hu with rfl|rfl|rfl|rfl|rfl|rfl<;>rfl
theorem ac4{l:List Tm}{t:Tm}(h:t∈l):t.nodes<=Tm.bq l:=by
 induction l with
  |nil=>cases h
  |cons x r ih=>
   simp only[Tm.bq];rcases gK.1 h with rfl|h;·omega
   ·have :=ih h;omega
theorem ac5(l:List Tm)(v:Int)(hnd:Tm.bq l<=1099511627776)(hi:aA v)(A:Nat->Prop)(w:World)(u:Value)(hu:eP A w l u):Calls Tryz.prog 56 #[u,.int .i64 v] w (Pure w (uW (∀g∈l,g.jw/\g.Fits v))):=by
 obtain⟨a,cap,b,off,rfl,hlc,hcm,hlb,ha,he⟩:=hu.at;have HE:=zh he;have HA:=zh ha;have HI:=zh hi;have jJ:=zh hnd;clear hu he ha hi hnd;go_enter Tryz.func56,Tryz.ntmps56;go_wp2_with fail;go_loopw[9](fun i W=>∃j:Nat,j<=l.length/\i= .int .i64 (j:Int)/\Below w.heap.size w W/\∀q(hq:q<l.length),q<j->l[q].jw/\l[q].Fits v)(fun i _=>l.length - (intOf i).toNat);case atStart=>exact⟨0,dn _,rfl,zB _ _,fun q _ h=>absurd h (Az _)⟩
 case round=>
  obtain⟨j,hj,rfl,hb,hq⟩:=hrel;have HB:=zh hb;have HQ:=zh hq;have hz:=hb.size;clear hb hq;by_cases hlt:j<l.length
  ·obtain⟨rfl,bC⟩:=HA.o (by omega);obtain⟨sa,sc,c0,c1,c2,c3,hr⟩:=gq HE.o bC (af.ob HB.o) hlt;have hlt':(j:Int)<(l.length:Int):=by omega
   have ky:=zh hlt;obtain⟨t,ht⟩:∃t,t=l[j]'hlt:=⟨_,rfl⟩;have hmem:t∈l:=by rw[ht];exact bO _
   rw[<-ht]at c0 c1 c2 c3 hr;have hn:=ac4 hmem;have hnn:=jJ.o;have HT:=zh ht;have HR:=zh hr;have HN:=zh (show t.nodes<=1099511627776 by omega);clear hr ht hmem hn hnn;go_wp2_with fail;refine(ac1 t A _ _ (Tm.aj.1 _ _ _ _ _ HR.o (af.alloc _ _ _))).mono ?_;rintro e w1⟨r,rfl,hb,g,rfl,hg⟩;have HX:=zh (aL (bJ wr (.cells #[.int .i64 t.kind,.int .i64 t.n,.string t.s,.slice sa t.args.length sc] 34)) hb);have HB1:=zh ((HB.o.alloc (by omega) (.cells #[.int .i64 t.kind,.int .i64 t.n,.string t.s,.slice sa t.args.length sc] 34)).trans (hb.mono (by simp;omega)));have HR1:=zh (Tm.aj.1 _ _ _ _ _ (Tm.aj.1 _ _ _ _ _ HR.o (af.alloc _ _ (.cells (#[.int .i64 t.kind,.int .i64 t.n,.string t.s,.slice sa t.args.length sc]:Array Value) 34))) (af.ob hb));clear hb c0 c1 c2 c3;obtain⟨x0,x1,x2,x3,xf⟩:=aU HX.o;cases g with
    |false=>have mH:=zh (show ¬t.jw from fun h=>by have :=hg.2 h;cases this);clear hg;go_wp2_with fail;go_ret;exact⟨_,rfl,HB1.o,_,rfl,⟨(fun h=>by cases h),fun h=>absurd (h t (by rw[HT.o];exact bO _)).1 mH.o⟩⟩
    |true=>
     have xQ:=zh (hg.1 rfl);clear hg;go_wp2_with fail;refine(ac3 t v HN.o HI.o A _ _ HR1.o).mono ?_;rintro e w2⟨r,rfl,hb,g,rfl,hg⟩;have HB2:=zh (HB1.o.trans (hb.mono HB1.o.size));clear hb x0 x1 x2 x3 xf;cases g with
      |false=>have mH:=zh (show ¬t.Fits v from fun h=>by have :=hg.2 h;cases this);clear hg;go_wp2_with fail;go_ret;exact⟨_,rfl,HB2.o,_,rfl,⟨(fun h=>by cases h),fun h=>absurd (h t (by rw[HT.o];exact bO _)).2 mH.o⟩⟩
      |true=>
       have Cw:=zh (hg.1 rfl);clear hg;go_wp2_with fail;go_roundw;case rel=>
        refine⟨j+1,by omega,by go_num,HB2.o,fun q hq hqj=>?_⟩;by_cases e:q=j;·subst e;rw[<-HT.o];exact⟨xQ.o,Cw.o⟩
        ·exact HQ.o q hq (by omega)
       case measure=>first|(simp[intOf];done)|(simp[intOf];omega)
  ·have hlt':¬(j:Int)<(l.length:Int):=by omega
   have zx:=zh (show ∀g∈l,g.jw/\g.Fits v from fun g hg=>by obtain⟨q,hq,rfl⟩:=ng.1 hg;exact HQ.o q hq (by omega));go_wp2_with fail;go_ret;exact⟨_,rfl,HB.o,_,rfl,⟨fun _=>zx.o,fun _=>rfl⟩⟩
def fP(l:List Tm)(v:Int):Prop:=0<=v/\v<=8/\l.length<=5/\∀g∈l,g.jw/\g.Fits v
def Cl.Good(c:Cl):Prop:=fP c.body c.vars/\c.head.jw/\c.head.Fits c.vars/\¬c.head.gF
theorem VI(l:List Tm)(v:Int)(hnd:Tm.bq l<=1099511627776)(hi:aA v)(A:Nat->Prop)(w:World)(u:Value)(hu:eP A w l u):Calls Tryz.prog 30 #[u,.int .i64 v] w (Pure w (uW (fP l v))):=by
 have HC:=zh (ac5 l v hnd hi A w u hu);obtain⟨a,cap,b,off,rfl,hlc,hcm,hlb,ha,he⟩:=hu.at;clear hu ha he;by_cases h1:0<=v
 ·by_cases h2:v<=8
  ·by_cases h3:l.length<=5
   ·have h3':(l.length:Int)<=5:=by omega
    go_enter Tryz.func30,Tryz.ntmps30;go_wp2_with fail;refine(HC.o).mono ?_;rintro e w1⟨r,rfl,hb,g,rfl,hg⟩;have HB:=zh hb;have HG:=zh hg;clear hb hg;go_wp2_with fail;go_ret;exact⟨_,rfl,HB.o,_,rfl,by rw[HG.o];exact⟨fun h=>⟨h1,h2,h3,h⟩,fun h=>h.2.2.2⟩⟩
   ·have h3':¬(l.length:Int)<=5:=by omega
    go_enter Tryz.func30,Tryz.ntmps30;go_wp2_with fail;go_ret;exact⟨_,rfl,zB _ _,_,rfl,⟨(fun h=>by first|(cases h;done)|(simp at h;omega)),fun h=>absurd h.2.2.1 h3⟩⟩
  ·go_enter Tryz.func30,Tryz.ntmps30;go_wp2_with fail;go_ret;exact⟨_,rfl,zB _ _,_,rfl,⟨(fun h=>by first|(cases h;done)|(simp at h;omega)),fun h=>absurd h.2.1 (by omega)⟩⟩
 ·go_enter Tryz.func30,Tryz.ntmps30;go_wp2_with fail;go_ret;exact⟨_,rfl,zB _ _,_,rfl,⟨(fun h=>by first|(cases h;done)|(simp at h;omega)),fun h=>absurd h.1 (by omega)⟩⟩
theorem fQ{w:World}{g:Nat}{E:TypeId}{v0 v1 v2 v3 v4 v5:Value}(h:w.heap[g]?=some (.cells #[v0,v1,v2,v3,v4,v5] E (0,0))):w.cell? ⟨g,0,none⟩=some v0/\w.cell? ⟨g,1,none⟩=some v1/\w.cell? ⟨g,2,none⟩=some v2/\w.cell? ⟨g,3,none⟩=some v3/\w.cell? ⟨g,4,none⟩=some v4/\w.cell? ⟨g,5,none⟩=some v5/\∀o,w.frozen? ⟨g,o,none⟩=false:=⟨(bW h 0).trans rfl,(bW h 1).trans rfl,(bW h 2).trans rfl,(bW h 3).trans rfl,(bW h 4).trans rfl,(bW h 5).trans rfl,fun o=>by simp[World.frozen?,h]⟩
def Cl.nodes(c:Cl):Nat:=c.head.nodes+Tm.bq c.body
theorem ac6(c:Cl)(hnd:c.nodes<=1099511627776)(A:Nat->Prop)(w:World)(vs:List Value)(hc:Cl.rep A w c vs):Calls Tryz.prog 52 #[.agg vs.toArray] w (Pure w (uW c.Good)):=by
 obtain⟨h,l,v⟩:=c;obtain⟨a,ac,b,bc,rfl,hh,hb,hi⟩:=hc;simp only[Cl.nodes]at hnd;simp only at hh hb hi;obtain⟨_,_, -, -,e, -, -,hbl, -⟩:=hb.at;have HH:=zh hh;have Em:=zh hb;have HI:=zh hi;have GI:=zh (show h.nodes<=1099511627776 by omega);have GJ:=zh (show Tm.bq l<=1099511627776 by omega);have i1:v<=9223372036854775807:=by unfold aA at hi;omega
 have i2: -9223372036854775808<=v:=by unfold aA at hi;omega
 clear hh hb hi e hnd;have HX:=zh (bJ w (.cells #[.int .i64 h.kind,.int .i64 h.n,.string h.s,.slice a h.args.length ac,.slice b l.length bc,.int .i64 v] 65));have HB:=zh ((iF _ w).alloc (zL _) (.cells #[.int .i64 h.kind,.int .i64 h.n,.string h.s,.slice a h.args.length ac,.slice b l.length bc,.int .i64 v] 65));have HK:=zh (af.alloc A w (.cells #[.int .i64 h.kind,.int .i64 h.n,.string h.s,.slice a h.args.length ac,.slice b l.length bc,.int .i64 v] 65));by_cases h1:v<0;·go_enter Tryz.func52,Tryz.ntmps52;go_wp2_with fail;go_ret;exact⟨_,rfl,HB.o,_,rfl,⟨(fun h=>by first|(cases h;done)|(simp at h;omega)),fun h=>absurd h.1.1 (by simp only;omega)⟩⟩
 by_cases h2:8<v;·go_enter Tryz.func52,Tryz.ntmps52;go_wp2_with fail;go_ret;exact⟨_,rfl,HB.o,_,rfl,⟨(fun h=>by first|(cases h;done)|(simp at h;omega)),fun h=>absurd h.1.2.1 (by simp only;omega)⟩⟩
 by_cases h3:5<l.length
 ·have h3':(5:Int)<(l.length:Int):=by omega
  go_enter Tryz.func52,Tryz.ntmps52;go_wp2_with fail;go_ret;exact⟨_,rfl,HB.o,_,rfl,⟨(fun h=>by first|(cases h;done)|(simp at h;omega)),fun h=>absurd h.1.2.2.1 (by simp only;omega)⟩⟩
 have h3':¬(5:Int)<(l.length:Int):=by omega
 go_enter Tryz.func52,Tryz.ntmps52;go_wp2_with fail;have gW:=zh (ac1 h A _ _ (Tm.aj.1 _ _ _ _ _ HH.o HK.o));generalize w.alloc (.cells #[.int .i64 h.kind,.int .i64 h.n,.string h.s,.slice a h.args.length ac,.slice b l.length bc,.int .i64 v] 65)=w0 at HX HB HK gW ⊢;refine(gW.o).mono ?_;rintro e w1⟨r,rfl,hb1,g,rfl,hg⟩;have eO:=zh (aL HX.o hb1);have HB1:=zh (HB.o.trans (hb1.mono HB.o.size));have qE:=zh (HK.o.trans (af.ob hb1));clear hb1 gW;obtain⟨x0,x1,x2,x3,x4,x5,xf⟩:=fQ eO.o;cases g with|false=>have mH:=zh (show ¬h.jw from fun k=>by have :=hg.2 k;cases this);clear hg;go_wp2_with fail;go_ret;exact⟨_,rfl,HB1.o,_,rfl,⟨(fun h=>by cases h),fun k=>absurd k.2.1 mH.o⟩⟩|true=>have xQ:=zh (hg.1 rfl);clear hg;go_wp2_with fail;refine(ac3 h v GI.o HI.o A _ _ (Tm.aj.1 _ _ _ _ _ HH.o qE.o)).mono ?_;rintro e w2⟨r,rfl,hb2,g,rfl,hg⟩;clear x0 x1 x2 x3 x4 x5 xf;have dI:=zh (aL eO.o hb2);have HB2:=zh (HB1.o.trans (hb2.mono HB1.o.size));have Cv:=zh (qE.o.trans (af.ob hb2));clear hb2;obtain⟨x0,x1,x2,x3,x4,x5,xf⟩:=fQ dI.o;cases g with|false=>have mH:=zh (show ¬h.Fits v from fun k=>by have :=hg.2 k;cases this);clear hg;go_wp2_with fail;go_ret;exact⟨_,rfl,HB2.o,_,rfl,⟨(fun h=>by cases h),fun k=>absurd k.2.2.1 mH.o⟩⟩|true=>have Cw:=zh (hg.1 rfl);clear hg;go_wp2_with fail;refine(ac2 h A _ _ (Tm.aj.1 _ _ _ _ _ HH.o Cv.o)).mono ?_;rintro e w3⟨r,rfl,hb3,g,rfl,hg⟩;clear x0 x1 x2 x3 x4 x5 xf;have jL:=zh (aL dI.o hb3);have HB3:=zh (HB2.o.trans (hb3.mono HB2.o.size));have iH:=zh (Cv.o.trans (af.ob hb3));clear hb3;obtain⟨x0,x1,x2,x3,x4,x5,xf⟩:=fQ jL.o;cases g with|true=>have iy:=zh (hg.1 rfl);clear hg;go_wp2_with fail;go_ret;exact⟨_,rfl,HB3.o,_,rfl,⟨(fun h=>by cases h),fun k=>absurd iy.o k.2.2.2⟩⟩|false=>have jy:=zh (show ¬h.gF from fun k=>by have :=hg.2 k;cases this);clear hg;go_wp2_with fail;refine(ac5 l v GJ.o HI.o A _ _ (au.keeps Tm.aj Em.o iH.o)).mono ?_;rintro e w4⟨r,rfl,hb4,g,rfl,hg⟩;have bX:=zh (HB3.o.trans (hb4.mono HB3.o.size));have HG:=zh hg;clear hb4 hg x0 x1 x2 x3 x4 x5 xf;go_wp2_with fail;go_ret;exact⟨_,rfl,bX.o,_,rfl,by rw[HG.o];exact⟨fun k=>⟨⟨by simp only;omega,by simp only;omega,by simp only;omega,k⟩,xQ.o,Cw.o,jy.o⟩,fun k=>k.1.2.2.2⟩⟩
abbrev lW(A:Nat->Prop)(w:World)(l:List Cl)(v:Value):Prop:=au 6 Cl.rep A w l v
theorem amM{w:World}{b off:Nat}{v0 v1 v2 v3 v4 v5:Value}(h:nz w b off [v0,v1,v2,v3,v4,v5]):w.cell? ⟨b,off,none⟩=some v0/\w.cell? ⟨b,off+1,none⟩=some v1/\w.cell? ⟨b,off+2,none⟩=some v2/\w.cell? ⟨b,off+3,none⟩=some v3/\w.cell? ⟨b,off+4,none⟩=some v4/\w.cell? ⟨b,off+5,none⟩=some v5:=⟨h 0 _ rfl,h 1 _ rfl,h 2 _ rfl,h 3 _ rfl,h 4 _ rfl,h 5 _ rfl⟩
theorem GK{A:Nat->Prop}{w wr:World}{l:List Cl}{b off:Nat}(he:mF A w 6 Cl.rep l b off)(hA:A b)(hk:af A w wr){j:Nat}(hlt:j<l.length):∃a ac bd bc,wr.cell? ⟨b,off+j*6,none⟩=some (.int .i64 l[j].head.kind)/\wr.cell? ⟨b,off+j*6+1,none⟩=some (.int .i64 l[j].head.n)/\wr.cell? ⟨b,off+j*6+2,none⟩=some (.string l[j].head.s)/\wr.cell? ⟨b,off+j*6+3,none⟩=some (.slice a l[j].head.args.length ac)/\wr.cell? ⟨b,off+j*6+4,none⟩=some (.slice bd l[j].body.length bc)/\wr.cell? ⟨b,off+j*6+5,none⟩=some (.int .i64 l[j].vars)/\Cl.rep A wr l[j] [.int .i64 l[j].head.kind,.int .i64 l[j].head.n,.string l[j].head.s,.slice a l[j].head.args.length ac,.slice bd l[j].body.length bc,.int .i64 l[j].vars]:=by obtain⟨vs,hvl,hr,hrow⟩:=he j _ (aT hlt);have hr':=Cl.aj.1 _ _ _ _ _ hr hk;obtain⟨a,ac,bd,bc,rfl, -⟩:=hr;obtain⟨d0,d1,d2,d3,d4,d5⟩:=amM (nz.keeps hA hrow hk);exact⟨a,ac,bd,bc,d0,d1,d2,d3,d4,d5,hr'⟩
def dW(l:List Cl):Prop:=l.length<=24/\∀c∈l,c.Good
def qF:List Cl->Nat|[]=>0|c::r=>c.nodes+qF r
theorem VJ{l:List Cl}{c:Cl}(h:c∈l):c.nodes<=qF l:=by
 induction l with
  |nil=>cases h
  |cons x r ih=>
   simp only[qF];rcases gK.1 h with rfl|h;·omega
   ·have :=ih h;omega
theorem ac7(l:List Cl)(hnd:qF l<=1099511627776)(A:Nat->Prop)(w:World)(u:Value)(hu:lW A w l u):Calls Tryz.prog 29 #[u] w (Pure w (uW (dW l))):=by
 obtain⟨a,cap,b,off,rfl,hlc,hcm,hlb,ha,he⟩:=au.at hu;have HE:=zh he;have HA:=zh ha;have jJ:=zh hnd;clear hu he ha hnd;go_enter Tryz.func29,Tryz.ntmps29;go_wp2_with fail;go_loopw[7](fun i W=>∃j:Nat,j<=l.length/\i= .int .i64 (j:Int)/\Below w.heap.size w W/\∀q(hq:q<l.length),q<j->l[q].Good)(fun i _=>l.length - (intOf i).toNat);case atStart=>exact⟨0,dn _,rfl,zB _ _,fun q _ h=>absurd h (Az _)⟩
 case round=>
  obtain⟨j,hj,rfl,hb,hq⟩:=hrel;have HB:=zh hb;have HQ:=zh hq;have hz:=hb.size;clear hb hq;by_cases hlt:j<l.length
  ·obtain⟨rfl,bC⟩:=HA.o (by omega);obtain⟨sa,sc,ba,bc,c0,c1,c2,c3,c4,c5,hr⟩:=GK HE.o bC (af.ob HB.o) hlt;have hlt':(j:Int)<(l.length:Int):=by omega
   have ky:=zh hlt;obtain⟨t,ht⟩:∃t,t=l[j]'hlt:=⟨_,rfl⟩;have hmem:t∈l:=by rw[ht];exact bO _
   rw[<-ht]at c0 c1 c2 c3 c4 c5 hr;have hn:=VJ hmem;have hnn:=jJ.o;have HT:=zh ht;have HR:=zh hr;have HN:=zh (show t.nodes<=1099511627776 by omega);clear hr ht hmem hn hnn;go_wp2_with fail;refine(ac6 t HN.o A _ _ (Cl.aj.1 _ _ _ _ _ HR.o (af.alloc _ _ _))).mono ?_;rintro e w1⟨r,rfl,hb,g,rfl,hg⟩;have HB1:=zh ((HB.o.alloc (by omega) (.cells #[.int .i64 t.head.kind,.int .i64 t.head.n,.string t.head.s,.slice sa t.head.args.length sc,.slice ba t.body.length bc,.int .i64 t.vars] 65)).trans (hb.mono (by simp;omega)));clear hb c0 c1 c2 c3 c4 c5;cases g with
    |false=>have mH:=zh (show ¬t.Good from fun h=>by have :=hg.2 h;cases this);clear hg;go_wp2_with fail;go_ret;exact⟨_,rfl,HB1.o,_,rfl,⟨(fun h=>by cases h),fun h=>absurd (h.2 t (by rw[HT.o];exact bO _)) mH.o⟩⟩
    |true=>
     have xQ:=zh (hg.1 rfl);clear hg;go_wp2_with fail;go_roundw;case rel=>
      refine⟨j+1,by omega,by go_num,HB1.o,fun q hq hqj=>?_⟩;by_cases e:q=j;·subst e;rw[<-HT.o];exact xQ.o
      ·exact HQ.o q hq (by omega)
     case measure=>first|(simp[intOf];done)|(simp[intOf];omega)
  ·have hlt':¬(j:Int)<(l.length:Int):=by omega
   have zx:=zh (show ∀g∈l,g.Good from fun g hg=>by obtain⟨q,hq,rfl⟩:=ng.1 hg;exact HQ.o q hq (by omega));by_cases h24:l.length<=24
   ·have ac8:(l.length:Int)<=24:=by omega
    go_wp2_with fail;go_ret;exact⟨_,rfl,HB.o,_,rfl,⟨fun _=>⟨h24,zx.o⟩,(fun _=>by first|rfl|simp[ac8])⟩⟩
   ·have ac8:¬(l.length:Int)<=24:=by omega
    go_wp2_with fail;go_ret;exact⟨_,rfl,HB.o,_,rfl,⟨(fun h=>by first|(cases h;done)|(simp at h;omega)),fun h=>absurd h.1 (by omega)⟩⟩
open Go.RowKit Go.WideShapes Go.ChangeShapes
section
variable {H : Type} {enc : TypeId × Value → H} {W : World} {base : Nat} {sp : Nat → Bool} {held : Bool}
instance:Inhabited Cl:=⟨⟨default,[],0⟩⟩
theorem ac9:Program.cellsOf Tryz.prog 65=6:=by kernel_rfl
theorem Tm.amO{A:Nat->Prop}{t:Tm}{cs:List Value}(h:Tm.rep A W t cs):∃a ac,cs=[.int .i64 t.kind,.int .i64 t.n,.string t.s,.slice a t.args.length ac]:=by obtain⟨a,ac,rfl, -⟩:=Tm.dw h;exact⟨a,ac,rfl⟩
theorem amP{n:Nat}{cs:List Value}{y:DataW H×List MemPlace}(h:DataW.trod enc Tryz.prog W base sp held n 65 cs=some y)(hb:Rows.uptoBulk y.1<=1048576):∃c:Cl,Cl.rep (fun _=>True) W c cs/\c.nodes+1<=Rows.uptoBulk y.1:=by obtain⟨y0,y1,y2,n',rfl,hl,h0,h1,h2⟩:=Deep.trod_struct3 Tryz.underlying65 h;simp only[ac9,JJ,acK,acJ]at hl h0 h1 h2;match cs,hl with|[c0,c1,c2,c3,c4,c5],_=>simp only[Gg,alW,uP,mE]at h0 h1 h2;simp only[Rows.uptoBulk,Rows.uptoBulkAll]at hb ⊢;obtain⟨t,ht,hn0⟩:=Vz h0 (by omega);obtain⟨a,ac,e0⟩:=Tm.amO ht;obtain⟨l,v,e1,hv,hn1,_⟩:=PU Tryz.underlying23 JJ (by omega) (R:=Tm.rep) (A:=fun _=>True) (fun _=>trivial) Tm.nodes (B:=Rows.uptoBulk y1.1) (by omega) (fun n cs' y hy hlt=>Vz hy (by omega)) (zL _) h1;obtain⟨m,e2,rfl,m64⟩:=DataW.trod_int Tryz.underlying3 h2;obtain⟨b,bc, -, -,rfl, -⟩:=au.at hv;simp only[tL,lF]at e0 e1 e2;obtain⟨rfl,rfl,rfl,rfl⟩:=e0;subst e1 e2;refine⟨⟨t,l,m⟩,⟨a,ac,b,bc,rfl,ht,hv,aA.Gj m64⟩,?_⟩;simp only[Cl.nodes,Tm.Vy]at hn1 ⊢;simp only[Rows.uptoBulk]at hn1 ⊢;omega
theorem amQ{r:Go.Reach}{b0:Nat}{v:Value}{d:DataW H}{ps:List MemPlace}(hval:Value.okWide Tryz.prog W r b0 22 v)(h:DataW.Trod enc Tryz.prog W base sp held 22 v d ps)(hb:Rows.uptoBulk d<=1048576):∃l:List Cl,lW (fun _=>True) W l v/\(l.map Cl.nodes).sum+1<=Rows.uptoBulk d:=by obtain⟨a,len,cap,rfl⟩:=okWide_slice Tryz.underlying22 hval;obtain⟨fuel,hf⟩:=h;obtain⟨l,v,e3,hv,hn,_⟩:=PU Tryz.underlying22 ac9 (by omega) (R:=Cl.rep) (A:=fun _=>True) (fun _=>trivial) Cl.nodes (B:=Rows.uptoBulk d) hb (fun n cs' y hy hlt=>by obtain⟨c,h1,h2⟩:=amP hy (by omega);exact⟨c,h1,by omega⟩) (zL _) hf;simp only[Value.cells,tL,lF]at e3;subst e3;exact⟨l,hv,hn⟩
end
def VK{σ:Type}(I:σ->(Nat->Prop)->World->Prop)(f:σ->Int->Int×σ)(sz:σ->Nat)(p3:Addr):Prop:=∀(st:σ)(M:Nat->Prop)(w:World)(n:Int),I st M w->sz st<4194304->aA n->Calls Tryz.prog 157 #[.int .i64 n,.pointer (some p3)] w (PT I M w (f st n))
def VL{σ:Type}(I:σ->(Nat->Prop)->World->Prop)(f:σ->Int->Int×σ)(sz:σ->Nat)(p3:Addr)(t:Tm):Prop:=∀(st:σ)(M A:Nat->Prop)(w:World)(vs:List Value),I st M w->sz st+t.nodes<=4194304->Tm.rep A w t vs->(∀b,A b->b<w.heap.size/\¬M b)->Calls Tryz.prog 138 #[.agg vs.toArray,.func (.func 157) #[] #[.pointer (some p3)]] w (Vx I M w (t.aH f st))
theorem amR{σ:Type}{I:σ->(Nat->Prop)->World->Prop}{f:σ->Int->Int×σ}{sz:σ->Nat}{p3:Addr}(hI:Cq I)(hsz:∀st n,sz (f st n).2<=sz st+1)(hc:VK I f sz p3)(k n:Int)(s:ByteArray)(l:List Tm)(ih:∀t∈l,VL I f sz p3 t):VL I f sz p3 (.mk k n s l):=by
 intro st M A w vs hst hnd hv hA;rw[Tm.gL]at hv;obtain⟨hk,hn,hs,v,rfl,hl⟩:=hv;obtain⟨a,cap,b,off,rfl,hlc,hcm,hlb,ha,he⟩:=hl.at;have HE:=zh he;have HA:=zh ha;have IH:=zh ih;have HI:=zh hI;have lX:=zh hsz;have HC:=zh hc;have HST:=zh hst;have tT:=zh hA;have jJ:=zh hnd;have iT:=zh (hI.lt _ _ _ hst);clear he ha hl ih hI hsz hc hst hA hnd;obtain⟨m,st1,hm⟩:∃m st1,(m,st1)=Tm.num f st k n:=⟨_,_,rfl⟩;have HM:=zh hm;clear hm;by_cases e:k=0;all_goals
  try have e':(k==0)=false:=by simpa using e
  try have e':(k==0)=true:=by simpa using e
  have ku:=zh e;clear e;go_enter Tryz.func138,Tryz.ntmps138;go_wp2_with fail
 ·have AP:=HI.o.keeps _ _ _ ((w.alloc (.cells #[.int .i64 k,.int .i64 n,.string s,.slice a l.length cap] 34)).alloc (.cells #[.int .i64 0,.int .i64 0,.string .empty,.slice none 0 0] 34)) HST.o ((af.alloc _ _ _).trans (af.alloc _ _ _));have hcl:=HC.o st M _ n AP (by have :=jJ.o;simp only[Tm.nodes]at this;omega) hn;rw[show f st n=(m,st1)by rw[HM.o,Tm.num,ai ku.o]]at hcl;refine hcl.mono ?_;rintro e w1⟨rfl,Cx,M1,hch,hM1,Cy⟩;have hq1:=(je w (.cells #[.int .i64 k,.int .i64 n,.string s,.slice a l.length cap] 34) (.cells #[.int .i64 0,.int .i64 0,.string .empty,.slice none 0 0] 34));have wG:=iT.o;have hz1:=hch.size;simp only[bQ]at hz1;have HB1:=zh ((hch.block _ (by simp<;>omega) (fun h=>by have :=wG _ h;omega)).trans hq1.1);have HB2:=zh ((hch.block _ (by simp<;>omega) (fun h=>by have :=wG _ h;omega)).trans hq1.2);have fe:Hd (∀b,M1 b->M b\/w.heap.size+2<=b):=fun b hb=>by have :=hM1 b hb;simpa[PI]using this
  have bU:=zh ((((Ch.refl M w).alloc _).alloc _).trans hch (fun b hb=> .inl hb));have fC:=zh Cy;have xR:=zh (show aA m from Cx);obtain⟨x0,x1,x2,x3,xf⟩:=aU HB1.o;have hcs:=dH;have AQ:Hd (sz st1<=sz st+1):=by have h5:=congrArg Prod.snd HM.o;simp only[Tm.num,ai ku.o]at h5;rw[h5];exact lX.o st n
  clear AP hq1 wG hch hM1 Cy Cx hcl HST;go_wp2_with fail;go_loopw[21](fun i wr=>∃(j:Nat)(v:Value)(sj:σ)(Mj:Nat->Prop),j<=l.length/\i= .int .i64 j/\w.heap.size+2<=wr.heap.size/\Ch M w wr/\(∀b,Mj b->M b\/w.heap.size+2<=b)/\I sj Mj wr/\wr.heap[w.heap.size+1]?=some (.cells #[.int .i64 0,.int .i64 0,.string .empty,.slice none 0 0] 34 (0,0))/\wr.heap[w.heap.size]?=some (.cells #[.int .i64 k,.int .i64 m,.string s,v] 34 (0,0))/\sj=(Tm.aS f st1 (l.take j)).2/\(∀b,ownB v=some b->¬Mj b)/\aG wr (w.heap.size+2) 34 4 Tm.rep (fun b=>w.heap.size+2<=b/\¬Mj b) (Tm.aS f st1 (l.take j)).1 v)(fun i _=>l.length - (intOf i).toNat);case atStart=>
   refine⟨0,.slice none 0 0,st1,M1,dn _,rfl,by simp;omega,(bU.o.setCell (by simp) _).setCell (by simp) _,fe.o,HI.o.keeps _ _ _ _ fC.o ((af.setCell _ _ _ _ ?_).trans (af.setCell _ _ _ _ ?_)),?_,?_,by simp[Tm.aS],by simp[ownB],by simpa[Tm.aS]using aG.nil ..⟩;·exact fun(h:M1 w.heap.size)=>(fe.o _ h).elim (fun h1=>by have :=iT.o _ h1;omega) (fun h1=>by omega)
   ·exact fun(h:M1 w.heap.size)=>(fe.o _ h).elim (fun h1=>by have :=iT.o _ h1;omega) (fun h1=>by omega)
   ·exact bB (A:=fun b=>b≠w.heap.size) HB2.o ((af.setCell _ _ _ _ (by simp)).trans (af.setCell _ _ _ _ (by simp))) (by omega)
   ·exact bG (bG HB1.o 1 _) 3 _
  case round=>
   obtain⟨j,v,sj,Mj,hj,rfl,hz,hch,hMj,hst,hB2,hB1,hsj,bI,hown⟩:=hrel;have hvl:(Tm.aS f st1 (l.take j)).1.length=j:=by rw[Tm.qz];simp;omega
   obtain⟨va,vc,hv,qG⟩:=hown.val;rw[hvl]at hv;subst hv;have jV:=zh hch;have pG:=zh hB1;have pI:=zh hB2;have dR:=zh hMj;have jA:=zh hst;have fD:=zh hsj;have dE:=zh bI;have HO:=zh hown;have lY:=zh hvl;obtain⟨g0,g1,g2,g3,gf⟩:=aU pG.o;clear hch hMj hst hB2 hB1 hsj bI hown hvl;by_cases hlt:j<l.length
   ·obtain⟨rfl,bC⟩:=HA.o (by omega);obtain⟨sa,sc,c0,c1,c2,c3,hr⟩:=gq HE.o bC (jV.o.keeps fun b _ h=>(tT.o b h).2) hlt;have HR:=zh hr;have lb:b<wr.heap.size:=fK wr _ c0;clear hr;try clear HB1 HB2 bU fC
    try clear x0 x1 x2 x3 xf hcs
    go_wp2_with fail;generalize hW:wr.alloc (.cells #[.int .i64 l[j].kind,.int .i64 l[j].n,.string l[j].s,.slice sa l[j].args.length sc] 34)=W0;have hW1:W0.drew.cell? ⟨w.heap.size,3,none⟩=some (.slice va j vc):=by subst hW;exact(af.alloc (fun _=>True) _ _).cell trivial g3
    obtain⟨hx0,hx1,hx2,hx3, -⟩:=aU (show W0.drew.heap[wr.heap.size]?=_ by subst hW;exact bJ _ _);refine iG (F:=fun k w'=>(k=1\/k=2)->w'.cell? ⟨w.heap.size,3,none⟩=some (.slice va j vc)/\w'.cell? ⟨wr.heap.size,0,none⟩=some (.int .i64 l[j].kind)/\w'.cell? ⟨wr.heap.size,1,none⟩=some (.int .i64 l[j].n)/\w'.cell? ⟨wr.heap.size,2,none⟩=some (.string l[j].s)/\w'.cell? ⟨wr.heap.size,3,none⟩=some (.slice sa l[j].args.length sc)) (by kernel_rfl) ?_;refine aD (i:=0) (v:=?_) rfl (Or.inl ⟨by rfl,?_⟩) (fun _=>⟨hW1,hx0,hx1,hx2,hx3⟩) ?_;rotate_left;·(intro w' hw;clear hw;go_simp<;>with_reducible rfl)
    simp only[zP];refine aD (i:=1) (v:=?_) rfl (Or.inl ⟨by rfl,?_⟩) (fun _=>⟨hW1,hx0,hx1,hx2,hx3⟩) ?_;rotate_left;·(intro w' hw;obtain⟨q0,q1,q2,q3,q4⟩:=hw (by omega);go_simp<;>with_reducible rfl)
    simp only[zP];refine aD (i:=2) (v:=?_) rfl (Or.inl ⟨by rfl,?_⟩) (fun _=>⟨hW1,hx0,hx1,hx2,hx3⟩) ?_;rotate_left;·(intro w' hw;obtain⟨q0,q1,q2,q3,q4⟩:=hw (by omega);go_simp<;>with_reducible rfl)
    simp only[zP];refine aD (i:=3) (v:=?_) rfl (Or.inl ⟨by rfl,?_⟩) (fun _=>⟨hW1,hx0,hx1,hx2,hx3⟩) ?_;rotate_left;·(intro w' hw;clear hw;go_simp<;>with_reducible rfl)
    simp only[zP];refine aM (i:=4) (by kernel_rfl) (aF rfl (by rfl) ?_);go_simp;have iU:af (fun _=>True) wr W0.drew:=by subst hW;exact(af.alloc _ _ _).trans (af.drew _ _)
    have GL:W0.heap.size=wr.heap.size+1:=by subst hW;simp
    have hrd:Tm.rep A W0.drew l[j] _:=Tm.aj.1 _ _ _ _ _ HR.o (iU.mono fun _ _ _=>trivial);have hnd:sz sj+l[j].nodes<=4194304:=by have h1:=Tm.Gr lX.o (l.take j) st1;rw[<-fD.o]at h1;have h2:=Tm.Gq l j hlt;have h3:=jJ.o;have h4:=AQ.o;simp only[Tm.nodes]at h3;omega
    have mI:∀b,A b->b<W0.drew.heap.size/\¬Mj b:=fun b hb=>by
     have h1:=tT.o b hb;refine⟨by simp only[eZ];omega,fun h2=>?_⟩;rcases dR.o b h2 with h3|h3;·exact h1.2 h3
     ·omega
    refine(IH.out _ (bO hlt) sj Mj A _ _ (HI.o.keeps _ _ _ _ jA.o (iU.mono fun _ _ _=>trivial)) hnd hrd mI).mono ?_;rintro e w1⟨us,M2,rfl,bN,hM2,fo,hr⟩;obtain⟨sa',eQ,rfl, -⟩:=Tm.dw hr;have hsz:=bN.size;simp only[eZ]at hsz hM2 hr;have hlt2:=HO.o.lt;have kL:=HI.o.lt _ _ _ fo;have kM:∀b,M2 b->M b\/w.heap.size+2<=b:=fun b hb=>by
     rcases hM2 b hb with h1|h1;·exact dR.o b h1
     ·exact .inr (by omega)
    have hn2:∀b,b<W0.heap.size->¬Mj b->¬M2 b:=fun b hb hn h=>by
     rcases hM2 b h with h1|h1;·exact hn h1
     ·omega
    have kN:aG W0.drew _ _ _ _ _ _ _:=HO.o.keeps Tm.aj iU (fun _ _=>trivial) (fun _ _=>trivial);have pJ:aG w1 _ _ _ _ (fun b=>w.heap.size+2<=b/\¬M2 b) _ _:=((kN.mono (A':=fun b=>w.heap.size+2<=b/\¬M2 b/\¬Mj b) Tm.aj (fun b hb hb'=>⟨hb'.1,hn2 b hb hb'.2,hb'.2⟩)).keeps (B:=fun b=>¬Mj b) Tm.aj (bN.keeps fun _ _ h=>h) (fun _ h=>h.2.2) dE.o).mono Tm.aj (fun b _ hb=>⟨hb.1,hb.2.1⟩);have eT:=zh pJ;have jW:Hd (∀b,ownB (.slice va j vc)=some b->¬M2 b):=fun b hb=>hn2 b (by have :=(hlt2 b hb).2;omega) (dE.o b hb);have HN:=zh (show Tm.rep (fun b=>(w.heap.size+2<=b/\¬M2 b)/\ownB (.slice va j vc)≠some b) w1 _ _ from Tm.aj.2.1 _ _ _ _ _ hr fun b _ hb=>⟨⟨by omega,hb.2⟩,fun e=>by have :=(hlt2 b e).2;omega⟩);have HL:=zh (show(Tm.aS f st1 (l.take j)).1.length<4194304/\w.heap.size+2<=w1.heap.size by rw[lY.o];omega);have hnb:∀b,b<w.heap.size+2->w.heap.size<=b->¬Mj b:=fun b h1 h2 h3=>by
     rcases dR.o b h3 with h4|h4;·have :=iT.o b h4;omega
     ·omega
    have rF:Hd (Ch M w w1):=zh (((show Ch M w W0.drew by subst hW;exact(jV.o.alloc _).drew)).trans bN (fun b hb=>by rcases dR.o b hb with h|h;exact .inl h;exact .inr (by omega)));have hkj:=bN.keeps (A:=fun b=>¬Mj b) (fun _ _ h=>h);have gu:¬Mj wr.heap.size:=fun h=>by have :=HI.o.lt _ _ _ jA.o _ h;omega
    have HQ:=zh (show w1.cell? ⟨w.heap.size,3,none⟩=some (.slice va j vc)/\w1.cell? ⟨wr.heap.size,0,none⟩=some (.int .i64 l[j].kind)/\w1.cell? ⟨wr.heap.size,1,none⟩=some (.int .i64 l[j].n)/\w1.cell? ⟨wr.heap.size,2,none⟩=some (.string l[j].s)/\w1.cell? ⟨wr.heap.size,3,none⟩=some (.slice sa l[j].args.length sc)from⟨hkj.cell (hnb _ (by omega) (by omega)) hW1,hkj.cell gu hx0,hkj.cell gu hx1,hkj.cell gu hx2,hkj.cell gu hx3⟩);have xS:=zh (show w1.heap[w.heap.size]?=_ from bB (w:=W0.drew) (by subst hW;exact aX pG.o _) hkj (hnb _ (by omega) (by omega)));have nD:=zh (show w1.heap[w.heap.size+1]?=_ from bB (w:=W0.drew) (by subst hW;exact aX pI.o _) hkj (hnb _ (by omega) (by omega)));have mJ:=zh fo;have rG:=zh kL;have iI:=zh kM;clear hrd hr bN kN pJ fo kL kM hn2 hnb hkj gu hM2 mI hnd iU;refine⟨fun _ _ _ _=>HQ.o,?_⟩;refine aM (i:=5) (by kernel_rfl) (aF rfl (by rfl) ?_);go_simp;refine⟨fun _ _ _ _=>?_,?_⟩;·obtain⟨q0,q1,q2,q3,q4⟩:=HQ.o;have ka:=af.alloc (fun _=>True) w1 (.cells #[.int .i64 (Tm.aH f sj l[j]).1.kind,.int .i64 (Tm.aH f sj l[j]).1.n,.string (Tm.aH f sj l[j]).1.s,.slice sa' (Tm.aH f sj l[j]).1.args.length eQ] 34);exact⟨ka.cell trivial q0,ka.cell trivial q1,ka.cell trivial q2,ka.cell trivial q3,ka.cell trivial q4⟩
    refine aM (i:=6) (by kernel_rfl) (aF rfl (by rfl) ?_);refine oh (.tmp 26) (.tmp 30) 23 rfl (w.heap.size+2) 34 4 56 rz Tm.aj _ _ rfl eT.o (Tm.aH f sj l[j]).1 [_,_,_,_] rfl rfl HN.o HL.o ?_;intro v2 w2 hown2 aB;have hk2:=aB.keeps (A:=fun b=>ownB (.slice va j vc)≠some b) (fun _ h=>h);have hka:=(af.alloc (fun b=>ownB (.slice va j vc)≠some b) w1 (.cells #[.int .i64 (Tm.aH f sj l[j]).1.kind,.int .i64 (Tm.aH f sj l[j]).1.n,.string (Tm.aH f sj l[j]).1.s,.slice sa' (Tm.aH f sj l[j]).1.args.length eQ] 34)).trans hk2;have n1:ownB (.slice va j vc)≠some w.heap.size:=fun e=>by have :=(hlt2 _ e).1;omega
    have n2:ownB (.slice va j vc)≠some wr.heap.size:=fun e=>by have :=(hlt2 _ e).2;omega
    have n3:ownB (.slice va j vc)≠some (w.heap.size+1):=fun e=>by have :=(hlt2 _ e).1;omega
    have mK:=zh (bB xS.o hka n1);have xU:=zh (bB nD.o hka n3);have tV:=zh (aB.ch (rF.o.alloc (.cells #[.int .i64 (Tm.aH f sj l[j]).1.kind,.int .i64 (Tm.aH f sj l[j]).1.n,.string (Tm.aH f sj l[j]).1.s,.slice sa' (Tm.aH f sj l[j]).1.args.length eQ] 34)) (fun b hb=> .inr (by have :=(hlt2 b hb).1;omega)));have pK:=zh (HI.o.keeps _ _ _ _ mJ.o (hka.mono fun b _ hb e=>jW.o b e hb));have xV:Hd (∀b,ownB v2=some b->¬M2 b):=fun b hb hm=>by
     have h1:=aB.block;rcases h1 with h1|h1;·exact jW.o b (h1.symm.trans hb) hm
     ·have h2:=h1 b hb;have h3:=rG.o b hm;simp only[bQ]at h2;omega
    obtain⟨aY,aZ,hv2,zy⟩:=hown2.val;rw[show((Tm.aS f st1 (l.take j)).1++[(Tm.aH f sj l[j]).1]).length=j+1 by rw[bT,lY.o];rfl]at hv2;subst hv2;have hz2:=aB.size;have bA:=zh hown2;simp only[bQ]at hz2;obtain⟨y0,y1,y2,y3,yf⟩:=aU mK.o;refine⟨fun _ _ _ _=>?_,?_⟩;·obtain⟨q0,q1,q2,q3,q4⟩:=HQ.o;exact⟨hka.cell n1 q0,hka.cell n2 q1,hka.cell n2 q2,hka.cell n2 q3,hka.cell n2 q4⟩
    clear hown2 hka hk2;simp only[zP];refine aD (i:=7) (v:=?_) rfl (Or.inl ⟨by rfl,?_⟩) (fun h=>by omega) ?_;rotate_left;·(intro w' hw;clear hw;go_simp<;>with_reducible rfl)
    simp only[zP];refine aM (i:=8) (by kernel_rfl) (aF rfl (by rfl) ?_);go_simp;refine⟨fun k0 hk0 _ h12=>?_,fO (by kernel_rfl) ?_ _⟩
    ·rcases h12 with rfl|rfl;·exact absurd (show waits _ 8 1=true by kernel_rfl) (by rw[hk0];decide)
     ·exact absurd (show waits _ 8 2=true by kernel_rfl) (by rw[hk0];decide)
    have HB3:=zh (bG mK.o 3 (.slice aY (j+1) aZ));have hz3:(w2.setCell ⟨w.heap.size,3,none⟩ (.slice aY (j+1) aZ)).heap.size=w2.heap.size:=by simp
    have iH:=zh (af.setCell (fun b=>b≠w.heap.size) w2 ⟨w.heap.size,3,none⟩ (.slice aY (j+1) aZ) (by simp));clear aB;go_wp2_with fail;go_roundw;case rel=>
     have hnw:∀b,M2 b->b≠w.heap.size:=fun b hb e=>by
      rcases iI.o b hb with h|h;·have :=iT.o b h;omega
      ·omega
     refine⟨j+1,_,_,M2,by omega,by go_num,by omega,tV.o.setCell (.inr (by simp)) _,iI.o,HI.o.keeps _ _ _ _ pK.o (iH.o.mono fun b _ hb=>hnw b hb),bB xU.o iH.o (by omega),HB3.o,?_,xV.o,?_⟩;·rw[dX hlt,Tm.qy,<-fD.o]
     ·rw[dX hlt,Tm.qy,<-fD.o];exact bA.o.keeps Tm.aj iH.o (fun b hb=>by omega) (fun b hb=>by have :=(bA.o.lt b hb).1;omega)
    case measure=>simp[intOf];omega
   ·have :j=l.length:=by omega
    subst this;obtain⟨z0,z1,z2,z3,zf⟩:=aU pI.o;have hcs:=dH;try clear HB1 HB2 bU fC
    try clear x0 x1 x2 x3 xf
    go_wp2_with fail;refine dD (v:= .agg #[.int .i64 k,.int .i64 m,.string s,.slice va l.length vc]) (by simp[results,Tryz.results138,go_sem,hcs,z0,z1,z2,z3]) rfl ⟨[_,_,_,_],Mj,rfl,?_,fun b hb=>?_,?_,?_⟩;·refine Ch.setCell (Ch.setCell (Ch.setCell (Ch.setCell jV.o ?_ _) ?_ _) ?_ _) ?_ _<;>simp
    ·rcases dR.o b hb with h|h;·exact .inl h
     ·exact .inr (by omega)
    ·have hs2:=fD.o;rw[jd]at hs2;have h2:(Tm.aH f st (.mk k n s l)).2=sj:=by rw[Tm.aH,<-HM.o];exact hs2.symm
     rw[h2];have hnw:∀b,Mj b->b≠w.heap.size+1:=fun b hb e=>by
      rcases dR.o b hb with h|h;·have :=iT.o b h;omega
      ·omega
     refine HI.o.keeps _ _ _ _ jA.o (af.trans (af.trans (af.trans (af.setCell _ _ _ _ ?_) (af.setCell _ _ _ _ ?_)) (af.setCell _ _ _ _ ?_)) (af.setCell _ _ _ _ ?_))<;>exact fun h=>hnw _ h rfl
    ·have hO:=HO.o;rw[jd]at hO;have hsl:=(hO.mono (A':=fun b=>w.heap.size+2<=b/\¬Mj b) Tm.aj (fun b _ hb=>hb));have hsl2:au 4 Tm.rep (fun b=>w.heap.size+2<=b/\¬Mj b) wr (Tm.aS f st1 l).1 (.slice va l.length vc):=hO.sl' Tm.aj (by rw[Tm.qz];exact hlb) (fun b hb=>⟨by have :=(HO.o.lt b hb).1;omega,dE.o b hb⟩);rw[Tm.aH,<-HM.o];rw[Tm.gL];refine⟨hk,xR.o,hs,_,rfl,?_⟩;refine au.mono Tm.aj (by omega) (au.keeps Tm.aj hsl2 ?_) (fun b _ hb=>⟨by omega,hb.2⟩);refine af.trans (af.trans (af.trans (af.setCell _ _ _ _ ?_) (af.setCell _ _ _ _ ?_)) (af.setCell _ _ _ _ ?_)) (af.setCell _ _ _ _ ?_)<;>simp
 ·have HB1:=zh (je w (.cells #[.int .i64 k,.int .i64 n,.string s,.slice none 0 0] 34) (.cells #[.int .i64 0,.int .i64 0,.string .empty,.slice none 0 0] 34)).1;have HB2:=zh (je w (.cells #[.int .i64 k,.int .i64 n,.string s,.slice none 0 0] 34) (.cells #[.int .i64 0,.int .i64 0,.string .empty,.slice none 0 0] 34)).2;have Cz:m=n/\st1=st:=by have :=HM.o;rw[Tm.num,ag ku.o]at this;simpa using this
  obtain⟨rfl,rfl⟩:=Cz;have xR:=zh hn;have bU:=zh (((Ch.refl M w).alloc (.cells #[.int .i64 k,.int .i64 m,.string s,.slice none 0 0] 34)).alloc (.cells #[.int .i64 0,.int .i64 0,.string .empty,.slice none 0 0] 34));have fC:=zh (HI.o.keeps _ _ _ ((w.alloc (.cells #[.int .i64 k,.int .i64 m,.string s,.slice none 0 0] 34)).alloc (.cells #[.int .i64 0,.int .i64 0,.string .empty,.slice none 0 0] 34)) HST.o ((af.alloc _ _ _).trans (af.alloc _ _ _)));have AQ:Hd (sz st1<=sz st1+1):=acC _;clear HST;go_loopw[21](fun i wr=>∃(j:Nat)(v:Value)(sj:σ)(Mj:Nat->Prop),j<=l.length/\i= .int .i64 j/\w.heap.size+2<=wr.heap.size/\Ch M w wr/\(∀b,Mj b->M b\/w.heap.size+2<=b)/\I sj Mj wr/\wr.heap[w.heap.size+1]?=some (.cells #[.int .i64 0,.int .i64 0,.string .empty,.slice none 0 0] 34 (0,0))/\wr.heap[w.heap.size]?=some (.cells #[.int .i64 k,.int .i64 m,.string s,v] 34 (0,0))/\sj=(Tm.aS f st1 (l.take j)).2/\(∀b,ownB v=some b->¬Mj b)/\aG wr (w.heap.size+2) 34 4 Tm.rep (fun b=>w.heap.size+2<=b/\¬Mj b) (Tm.aS f st1 (l.take j)).1 v)(fun i _=>l.length - (intOf i).toNat);case atStart=>exact⟨0,.slice none 0 0,st1,M,dn _,rfl,by simp,bU.o,fun b hb=> .inl hb,fC.o,HB2.o,HB1.o,by simp[Tm.aS],by simp[ownB],by simpa[Tm.aS]using aG.nil ..⟩
  case round=>
   obtain⟨j,v,sj,Mj,hj,rfl,hz,hch,hMj,hst,hB2,hB1,hsj,bI,hown⟩:=hrel;have hvl:(Tm.aS f st1 (l.take j)).1.length=j:=by rw[Tm.qz];simp;omega
   obtain⟨va,vc,hv,qG⟩:=hown.val;rw[hvl]at hv;subst hv;have jV:=zh hch;have pG:=zh hB1;have pI:=zh hB2;have dR:=zh hMj;have jA:=zh hst;have fD:=zh hsj;have dE:=zh bI;have HO:=zh hown;have lY:=zh hvl;obtain⟨g0,g1,g2,g3,gf⟩:=aU pG.o;clear hch hMj hst hB2 hB1 hsj bI hown hvl;by_cases hlt:j<l.length
   ·obtain⟨rfl,bC⟩:=HA.o (by omega);obtain⟨sa,sc,c0,c1,c2,c3,hr⟩:=gq HE.o bC (jV.o.keeps fun b _ h=>(tT.o b h).2) hlt;have HR:=zh hr;have lb:b<wr.heap.size:=fK wr _ c0;clear hr;try clear HB1 HB2 bU fC
    try clear x0 x1 x2 x3 xf hcs
    go_wp2_with fail;generalize hW:wr.alloc (.cells #[.int .i64 l[j].kind,.int .i64 l[j].n,.string l[j].s,.slice sa l[j].args.length sc] 34)=W0;have hW1:W0.drew.cell? ⟨w.heap.size,3,none⟩=some (.slice va j vc):=by subst hW;exact(af.alloc (fun _=>True) _ _).cell trivial g3
    obtain⟨hx0,hx1,hx2,hx3, -⟩:=aU (show W0.drew.heap[wr.heap.size]?=_ by subst hW;exact bJ _ _);refine iG (F:=fun k w'=>(k=1\/k=2)->w'.cell? ⟨w.heap.size,3,none⟩=some (.slice va j vc)/\w'.cell? ⟨wr.heap.size,0,none⟩=some (.int .i64 l[j].kind)/\w'.cell? ⟨wr.heap.size,1,none⟩=some (.int .i64 l[j].n)/\w'.cell? ⟨wr.heap.size,2,none⟩=some (.string l[j].s)/\w'.cell? ⟨wr.heap.size,3,none⟩=some (.slice sa l[j].args.length sc)) (by kernel_rfl) ?_;refine aD (i:=0) (v:=?_) rfl (Or.inl ⟨by rfl,?_⟩) (fun _=>⟨hW1,hx0,hx1,hx2,hx3⟩) ?_;rotate_left;·(intro w' hw;clear hw;go_simp<;>with_reducible rfl)
    simp only[zP];refine aD (i:=1) (v:=?_) rfl (Or.inl ⟨by rfl,?_⟩) (fun _=>⟨hW1,hx0,hx1,hx2,hx3⟩) ?_;rotate_left;·(intro w' hw;obtain⟨q0,q1,q2,q3,q4⟩:=hw (by omega);go_simp<;>with_reducible rfl)
    simp only[zP];refine aD (i:=2) (v:=?_) rfl (Or.inl ⟨by rfl,?_⟩) (fun _=>⟨hW1,hx0,hx1,hx2,hx3⟩) ?_;rotate_left;·(intro w' hw;obtain⟨q0,q1,q2,q3,q4⟩:=hw (by omega);go_simp<;>with_reducible rfl)
    simp only[zP];refine aD (i:=3) (v:=?_) rfl (Or.inl ⟨by rfl,?_⟩) (fun _=>⟨hW1,hx0,hx1,hx2,hx3⟩) ?_;rotate_left;·(intro w' hw;clear hw;go_simp<;>with_reducible rfl)
    simp only[zP];refine aM (i:=4) (by kernel_rfl) (aF rfl (by rfl) ?_);go_simp;have iU:af (fun _=>True) wr W0.drew:=by subst hW;exact(af.alloc _ _ _).trans (af.drew _ _)
    have GL:W0.heap.size=wr.heap.size+1:=by subst hW;simp
    have hrd:Tm.rep A W0.drew l[j] _:=Tm.aj.1 _ _ _ _ _ HR.o (iU.mono fun _ _ _=>trivial);have hnd:sz sj+l[j].nodes<=4194304:=by have h1:=Tm.Gr lX.o (l.take j) st1;rw[<-fD.o]at h1;have h2:=Tm.Gq l j hlt;have h3:=jJ.o;have h4:=AQ.o;simp only[Tm.nodes]at h3;omega
    have mI:∀b,A b->b<W0.drew.heap.size/\¬Mj b:=fun b hb=>by
     have h1:=tT.o b hb;refine⟨by simp only[eZ];omega,fun h2=>?_⟩;rcases dR.o b h2 with h3|h3;·exact h1.2 h3
     ·omega
    refine(IH.out _ (bO hlt) sj Mj A _ _ (HI.o.keeps _ _ _ _ jA.o (iU.mono fun _ _ _=>trivial)) hnd hrd mI).mono ?_;rintro e w1⟨us,M2,rfl,bN,hM2,fo,hr⟩;obtain⟨sa',eQ,rfl, -⟩:=Tm.dw hr;have hsz:=bN.size;simp only[eZ]at hsz hM2 hr;have hlt2:=HO.o.lt;have kL:=HI.o.lt _ _ _ fo;have kM:∀b,M2 b->M b\/w.heap.size+2<=b:=fun b hb=>by
     rcases hM2 b hb with h1|h1;·exact dR.o b h1
     ·exact .inr (by omega)
    have hn2:∀b,b<W0.heap.size->¬Mj b->¬M2 b:=fun b hb hn h=>by
     rcases hM2 b h with h1|h1;·exact hn h1
     ·omega
    have kN:aG W0.drew _ _ _ _ _ _ _:=HO.o.keeps Tm.aj iU (fun _ _=>trivial) (fun _ _=>trivial);have pJ:aG w1 _ _ _ _ (fun b=>w.heap.size+2<=b/\¬M2 b) _ _:=((kN.mono (A':=fun b=>w.heap.size+2<=b/\¬M2 b/\¬Mj b) Tm.aj (fun b hb hb'=>⟨hb'.1,hn2 b hb hb'.2,hb'.2⟩)).keeps (B:=fun b=>¬Mj b) Tm.aj (bN.keeps fun _ _ h=>h) (fun _ h=>h.2.2) dE.o).mono Tm.aj (fun b _ hb=>⟨hb.1,hb.2.1⟩);have eT:=zh pJ;have jW:Hd (∀b,ownB (.slice va j vc)=some b->¬M2 b):=fun b hb=>hn2 b (by have :=(hlt2 b hb).2;omega) (dE.o b hb);have HN:=zh (show Tm.rep (fun b=>(w.heap.size+2<=b/\¬M2 b)/\ownB (.slice va j vc)≠some b) w1 _ _ from Tm.aj.2.1 _ _ _ _ _ hr fun b _ hb=>⟨⟨by omega,hb.2⟩,fun e=>by have :=(hlt2 b e).2;omega⟩);have HL:=zh (show(Tm.aS f st1 (l.take j)).1.length<4194304/\w.heap.size+2<=w1.heap.size by rw[lY.o];omega);have hnb:∀b,b<w.heap.size+2->w.heap.size<=b->¬Mj b:=fun b h1 h2 h3=>by
     rcases dR.o b h3 with h4|h4;·have :=iT.o b h4;omega
     ·omega
    have rF:Hd (Ch M w w1):=zh (((show Ch M w W0.drew by subst hW;exact(jV.o.alloc _).drew)).trans bN (fun b hb=>by rcases dR.o b hb with h|h;exact .inl h;exact .inr (by omega)));have hkj:=bN.keeps (A:=fun b=>¬Mj b) (fun _ _ h=>h);have gu:¬Mj wr.heap.size:=fun h=>by have :=HI.o.lt _ _ _ jA.o _ h;omega
    have HQ:=zh (show w1.cell? ⟨w.heap.size,3,none⟩=some (.slice va j vc)/\w1.cell? ⟨wr.heap.size,0,none⟩=some (.int .i64 l[j].kind)/\w1.cell? ⟨wr.heap.size,1,none⟩=some (.int .i64 l[j].n)/\w1.cell? ⟨wr.heap.size,2,none⟩=some (.string l[j].s)/\w1.cell? ⟨wr.heap.size,3,none⟩=some (.slice sa l[j].args.length sc)from⟨hkj.cell (hnb _ (by omega) (by omega)) hW1,hkj.cell gu hx0,hkj.cell gu hx1,hkj.cell gu hx2,hkj.cell gu hx3⟩);have xS:=zh (show w1.heap[w.heap.size]?=_ from bB (w:=W0.drew) (by subst hW;exact aX pG.o _) hkj (hnb _ (by omega) (by omega)));have nD:=zh (show w1.heap[w.heap.size+1]?=_ from bB (w:=W0.drew) (by subst hW;exact aX pI.o _) hkj (hnb _ (by omega) (by omega)));have mJ:=zh fo;have rG:=zh kL;have iI:=zh kM;clear hrd hr bN kN pJ fo kL kM hn2 hnb hkj gu hM2 mI hnd iU;refine⟨fun _ _ _ _=>HQ.o,?_⟩;refine aM (i:=5) (by kernel_rfl) (aF rfl (by rfl) ?_);go_simp;refine⟨fun _ _ _ _=>?_,?_⟩;·obtain⟨q0,q1,q2,q3,q4⟩:=HQ.o;have ka:=af.alloc (fun _=>True) w1 (.cells #[.int .i64 (Tm.aH f sj l[j]).1.kind,.int .i64 (Tm.aH f sj l[j]).1.n,.string (Tm.aH f sj l[j]).1.s,.slice sa' (Tm.aH f sj l[j]).1.args.length eQ] 34);exact⟨ka.cell trivial q0,ka.cell trivial q1,ka.cell trivial q2,ka.cell trivial q3,ka.cell trivial q4⟩
    refine aM (i:=6) (by kernel_rfl) (aF rfl (by rfl) ?_);refine oh (.tmp 26) (.tmp 30) 23 rfl (w.heap.size+2) 34 4 56 rz Tm.aj _ _ rfl eT.o (Tm.aH f sj l[j]).1 [_,_,_,_] rfl rfl HN.o HL.o ?_;intro v2 w2 hown2 aB;have hk2:=aB.keeps (A:=fun b=>ownB (.slice va j vc)≠some b) (fun _ h=>h);have hka:=(af.alloc (fun b=>ownB (.slice va j vc)≠some b) w1 (.cells #[.int .i64 (Tm.aH f sj l[j]).1.kind,.int .i64 (Tm.aH f sj l[j]).1.n,.string (Tm.aH f sj l[j]).1.s,.slice sa' (Tm.aH f sj l[j]).1.args.length eQ] 34)).trans hk2;have n1:ownB (.slice va j vc)≠some w.heap.size:=fun e=>by have :=(hlt2 _ e).1;omega
    have n2:ownB (.slice va j vc)≠some wr.heap.size:=fun e=>by have :=(hlt2 _ e).2;omega
    have n3:ownB (.slice va j vc)≠some (w.heap.size+1):=fun e=>by have :=(hlt2 _ e).1;omega
    have mK:=zh (bB xS.o hka n1);have xU:=zh (bB nD.o hka n3);have tV:=zh (aB.ch (rF.o.alloc (.cells #[.int .i64 (Tm.aH f sj l[j]).1.kind,.int .i64 (Tm.aH f sj l[j]).1.n,.string (Tm.aH f sj l[j]).1.s,.slice sa' (Tm.aH f sj l[j]).1.args.length eQ] 34)) (fun b hb=> .inr (by have :=(hlt2 b hb).1;omega)));have pK:=zh (HI.o.keeps _ _ _ _ mJ.o (hka.mono fun b _ hb e=>jW.o b e hb));have xV:Hd (∀b,ownB v2=some b->¬M2 b):=fun b hb hm=>by
     have h1:=aB.block;rcases h1 with h1|h1;·exact jW.o b (h1.symm.trans hb) hm
     ·have h2:=h1 b hb;have h3:=rG.o b hm;simp only[bQ]at h2;omega
    obtain⟨aY,aZ,hv2,zy⟩:=hown2.val;rw[show((Tm.aS f st1 (l.take j)).1++[(Tm.aH f sj l[j]).1]).length=j+1 by rw[bT,lY.o];rfl]at hv2;subst hv2;have hz2:=aB.size;have bA:=zh hown2;simp only[bQ]at hz2;obtain⟨y0,y1,y2,y3,yf⟩:=aU mK.o;refine⟨fun _ _ _ _=>?_,?_⟩;·obtain⟨q0,q1,q2,q3,q4⟩:=HQ.o;exact⟨hka.cell n1 q0,hka.cell n2 q1,hka.cell n2 q2,hka.cell n2 q3,hka.cell n2 q4⟩
    clear hown2 hka hk2;simp only[zP];refine aD (i:=7) (v:=?_) rfl (Or.inl ⟨by rfl,?_⟩) (fun h=>by omega) ?_;rotate_left;·(intro w' hw;clear hw;go_simp<;>with_reducible rfl)
    simp only[zP];refine aM (i:=8) (by kernel_rfl) (aF rfl (by rfl) ?_);go_simp;refine⟨fun k0 hk0 _ h12=>?_,fO (by kernel_rfl) ?_ _⟩
    ·rcases h12 with rfl|rfl;·exact absurd (show waits _ 8 1=true by kernel_rfl) (by rw[hk0];decide)
     ·exact absurd (show waits _ 8 2=true by kernel_rfl) (by rw[hk0];decide)
    have HB3:=zh (bG mK.o 3 (.slice aY (j+1) aZ));have hz3:(w2.setCell ⟨w.heap.size,3,none⟩ (.slice aY (j+1) aZ)).heap.size=w2.heap.size:=by simp
    have iH:=zh (af.setCell (fun b=>b≠w.heap.size) w2 ⟨w.heap.size,3,none⟩ (.slice aY (j+1) aZ) (by simp));clear aB;go_wp2_with fail;go_roundw;case rel=>
     have hnw:∀b,M2 b->b≠w.heap.size:=fun b hb e=>by
      rcases iI.o b hb with h|h;·have :=iT.o b h;omega
      ·omega
     refine⟨j+1,_,_,M2,by omega,by go_num,by omega,tV.o.setCell (.inr (by simp)) _,iI.o,HI.o.keeps _ _ _ _ pK.o (iH.o.mono fun b _ hb=>hnw b hb),bB xU.o iH.o (by omega),HB3.o,?_,xV.o,?_⟩;·rw[dX hlt,Tm.qy,<-fD.o]
     ·rw[dX hlt,Tm.qy,<-fD.o];exact bA.o.keeps Tm.aj iH.o (fun b hb=>by omega) (fun b hb=>by have :=(bA.o.lt b hb).1;omega)
    case measure=>simp[intOf];omega
   ·have :j=l.length:=by omega
    subst this;obtain⟨z0,z1,z2,z3,zf⟩:=aU pI.o;have hcs:=dH;try clear HB1 HB2 bU fC
    try clear x0 x1 x2 x3 xf
    go_wp2_with fail;refine dD (v:= .agg #[.int .i64 k,.int .i64 m,.string s,.slice va l.length vc]) (by simp[results,Tryz.results138,go_sem,hcs,z0,z1,z2,z3]) rfl ⟨[_,_,_,_],Mj,rfl,?_,fun b hb=>?_,?_,?_⟩;·refine Ch.setCell (Ch.setCell (Ch.setCell (Ch.setCell jV.o ?_ _) ?_ _) ?_ _) ?_ _<;>simp
    ·rcases dR.o b hb with h|h;·exact .inl h
     ·exact .inr (by omega)
    ·have hs2:=fD.o;rw[jd]at hs2;have h2:(Tm.aH f st1 (.mk k m s l)).2=sj:=by rw[Tm.aH,<-HM.o];exact hs2.symm
     rw[h2];have hnw:∀b,Mj b->b≠w.heap.size+1:=fun b hb e=>by
      rcases dR.o b hb with h|h;·have :=iT.o b h;omega
      ·omega
     refine HI.o.keeps _ _ _ _ jA.o (af.trans (af.trans (af.trans (af.setCell _ _ _ _ ?_) (af.setCell _ _ _ _ ?_)) (af.setCell _ _ _ _ ?_)) (af.setCell _ _ _ _ ?_))<;>exact fun h=>hnw _ h rfl
    ·have hO:=HO.o;rw[jd]at hO;have hsl:=(hO.mono (A':=fun b=>w.heap.size+2<=b/\¬Mj b) Tm.aj (fun b _ hb=>hb));have hsl2:au 4 Tm.rep (fun b=>w.heap.size+2<=b/\¬Mj b) wr (Tm.aS f st1 l).1 (.slice va l.length vc):=hO.sl' Tm.aj (by rw[Tm.qz];exact hlb) (fun b hb=>⟨by have :=(HO.o.lt b hb).1;omega,dE.o b hb⟩);rw[Tm.aH,<-HM.o];rw[Tm.gL];refine⟨hk,xR.o,hs,_,rfl,?_⟩;refine au.mono Tm.aj (by omega) (au.keeps Tm.aj hsl2 ?_) (fun b _ hb=>⟨by omega,hb.2⟩);refine af.trans (af.trans (af.trans (af.setCell _ _ _ _ ?_) (af.setCell _ _ _ _ ?_)) (af.setCell _ _ _ _ ?_)) (af.setCell _ _ _ _ ?_)<;>simp
theorem amS{σ:Type}{I:σ->(Nat->Prop)->World->Prop}{f:σ->Int->Int×σ}{sz:σ->Nat}{p3:Addr}(hI:Cq I)(hsz:∀st n,sz (f st n).2<=sz st+1)(hc:VK I f sz p3):∀t,VL I f sz p3 t:=by intro t;induction t using Tm.induct with|h k n s l ih=>exact amR hI hsz hc k n s l ih
def rH(w:World)(r:Nat)(L:List (Int×Value)):Prop:=∃es clock,w.heap[r]?=some (.map es clock)/\es.toList.map (fun e=>(e.key,e.val))=L.map (fun p=>(Value.int .i64 p.1,p.2))
theorem rH.lt{w:World}{r:Nat}{L:List (Int×Value)}(h:rH w r L):r<w.heap.size:=by obtain⟨es,clock,h,_⟩:=h;exact aJ h
theorem rH.keeps{A:Nat->Prop}{w w':World}{r:Nat}{L:List (Int×Value)}(h:rH w r L)(hk:af A w w')(hA:A r):rH w' r L:=by obtain⟨es,clock,h1,h2⟩:=h;exact⟨es,clock,bB h1 hk hA,h2⟩
theorem rH.made(w:World):rH (w.alloc (.map #[] 0)) w.heap.size []:=⟨#[],0,bJ _ _,rfl⟩
def tX(L:List (Int×Value))(n:Int):Option Value:=(L.find? (fun p=>p.1==n)).map (·.2)
theorem PY(n:Int):∀(es:List MapEntry)(L:List (Int×Value))(i:Nat),es.map (fun e=>(e.key,e.val))=L.map (fun p=>(Value.int .i64 p.1,p.2))->∃r,Instr.findNow (.int .i64) (.int .i64 n) es i=some r/\r.map (·.2)=tX L n/\(∀k x,r=some (k,x)->i<=k/\(∃e,es[k - i]?=some e/\e.key= .int .i64 n)/\∀j,j<k - i->∀p,L[j]?=some p->p.1≠n)
 |[],L,i,h=>by
  have :L=[]:=by simpa using h.symm
  subst this;exact⟨none,rfl,rfl,fun k x h=>by cases h⟩
 |e::es,[],i,h=>by simp at h
 |e::es,p::L,i,h=>by
  simp only[qp,tL,lD]at h;obtain⟨⟨hk,hv⟩,hr⟩:=h;by_cases hn:n=p.1
  ·subst hn;refine⟨some (i,e.val),?_,?_,?_⟩;·simp[Instr.findNow,Instr.sameNow,hk]
   ·simp[tX,hv]
   ·intro k x h;simp only[dm,lD]at h;obtain⟨rfl,rfl⟩:=h;exact⟨zL _,⟨e,by simp,hk⟩,fun j hj=>by omega⟩
  ·obtain⟨r,h1,h2,h3⟩:=PY n es L (i+1) hr;refine⟨r,?_,?_,?_⟩
   ·rw[Instr.findNow,hk];have hb:(n==p.1)=false:=by simpa using hn
    simp[Instr.sameNow,hb,h1]
   ·rw[h2];have :(p.1==n)=false:=by simp;omega
    simp[tX,this]
   ·intro k x h;obtain⟨h4,⟨e',h5,h6⟩,h7⟩:=h3 k x h;refine⟨by omega,⟨e',?_,h6⟩,fun j hj q hq=>?_⟩;·rw[show k - i=(k - (i+1))+1 by omega];simpa using h5
    ·cases j with|zero=>simp at hq;subst hq;omega|succ j=>exact h7 j (by omega) q (by simpa using hq)
def J5(P:Program)(t e:TypeId)(z:Value):Prop:=∃k,P.underlying t=some (.map k e)/\P.underlying k=some (.int .i64)/\∀w,(zeroValue e).run P w= .ok z w
section
variable {P : Program} {t e : TypeId} {z : Value} {w : World} {r : Nat} {L : List (Int × Value)} {n : Int}
theorem run_findKey(k:TypeId)(hk:P.underlying k=some (.int .i64))(es:List MapEntry)(x:Option (Nat×Value))(h:Instr.findNow (.int .i64) (.int .i64 n) es 0=some x):(Instr.findKey k (.int .i64 n) es).run P w= .ok x w:=by simp[Instr.findKey,xM hk,h]
theorem run_checkKey(k:TypeId)(hk:P.underlying k=some (.int .i64))(b:Bool):(Instr.checkKey b 10000 k (.int .i64 n)).run P w= .ok () w:=by rw[show(10000:Nat)=9999+1 from rfl,Instr.checkKey];simp[xM hk]
theorem amT(hty:J5 P t e z)(h:rH w r L):(Instr.lookup t (.map (some r)) (.int .i64 n) true).run P w= .ok (.tuple #[(tX L n).getD z,.bool (tX L n).isSome]) w:=by obtain⟨k,ht,hk,hz⟩:=hty;obtain⟨es,clock,h1,h2⟩:=h;obtain⟨x,h3,h4, -⟩:=PY n es.toList L 0 h2;have h5:=run_findKey (P:=P) (w:=w) k hk es.toList x h3;have h6:=run_checkKey (P:=P) (w:=w) (n:=n) k hk es.isEmpty;rw[<-h4];cases x with|none=>simp[Instr.lookup,xM ht,getObj,Sem.run,h1,h5,h6,hz]|some p=>simp[Instr.lookup,xM ht,getObj,Sem.run,h1,h5,h6]
theorem ada(hty:J5 P t e z)(h:rH w r L):(Instr.lookup t (.map (some r)) (.int .i64 n) false).run P w= .ok ((tX L n).getD z) w:=by obtain⟨k,ht,hk,hz⟩:=hty;obtain⟨es,clock,h1,h2⟩:=h;obtain⟨x,h3,h4, -⟩:=PY n es.toList L 0 h2;have h5:=run_findKey (P:=P) (w:=w) k hk es.toList x h3;have h6:=run_checkKey (P:=P) (w:=w) (n:=n) k hk es.isEmpty;rw[<-h4];cases x with|none=>simp[Instr.lookup,xM ht,getObj,Sem.run,h1,h5,h6,hz]|some p=>simp[Instr.lookup,xM ht,getObj,Sem.run,h1,h5,h6]
theorem amU(hty:J5 P t e z)(h:rH w r L)(ty:TypeId):(Builtin.len_ #[t] ty #[.map (some r)]).run P w= .ok (.int .i64 L.length) w:=by
 obtain⟨k,ht,hk,hz⟩:=hty;obtain⟨es,clock,h1,h2⟩:=h;have h3:es.size=L.length:=by have :=congrArg List.length h2;simpa using this
 simp[Builtin.len_,xM ht,getObj,Sem.run,h1,goInt,h3]
theorem amV(hty:J5 P t e z)(h:rH w r L)(hn:tX L n=none)(v:Value):∃w',(Instr.mapUpdate t (.map (some r)) (.int .i64 n) v).run P w= .ok () w'/\rH w' r (L++[(n,v)])/\Ch (fun b=>b=r) w w'/\w'.heap.size=w.heap.size:=by
 obtain⟨k,ht,hk,hz⟩:=hty;obtain⟨es,clock,h1,h2⟩:=h;obtain⟨x,h3,h4, -⟩:=PY n es.toList L 0 h2;rw[hn]at h4;have hx:x=none:=by cases x<;>simp_all
 subst hx;have h5:=run_findKey (P:=P) (w:=w) k hk es.toList none h3;have h6:=run_checkKey (P:=P) (w:=w) (n:=n) k hk false;have hlt:=aJ h1;refine⟨{w with heap:=w.heap.setIfInBounds r (.map (es.push {key:= .int .i64 n,val:=v,born:=clock}) (clock+1))},?_,⟨es.push {key:= .int .i64 n,val:=v,born:=clock},clock+1,?_,?_⟩,⟨rfl,rfl,rfl,by simp,fun b hb hne=>?_⟩,by simp⟩;·simp[Instr.mapUpdate,xM ht,getObj,setObj,Sem.run,h1,h5,h6]
 ·simp[hlt]
 ·simp[h2]
 ·rw[Ci (tO hne)]
end
def aO(st:List Int)(n:Int):Int×List Int:=if n∈st then((st.idxOf n:Nat),st)else((st.length:Nat),st++[n])
theorem PZ(st:List Int)(n:Int):(aO st n).2.length<=st.length+1:=by unfold aO;split<;>simp
def CB(st:List Int):List (Int×Value):=st.zipIdx.map fun p=>(p.1,.int .i64 (p.2:Nat))
theorem amW(st:List Int)(n:Int):CB (st++[n])=CB st++[(n,.int .i64 (st.length:Nat))]:=by simp[CB,List.zipIdx_append]
theorem adb(n:Int):∀(st:List Int)(k:Nat),tX (st.zipIdx k|>.map fun p=>(p.1,Value.int .i64 (p.2:Nat))) n=if n∈st then some (.int .i64 ((k+st.idxOf n:Nat):Int))else none
 |[],k=>by simp[tX]
 |x::st,k=>by
  have ih:=adb n st (k+1);by_cases h:x=n;·subst h;simp[tX]
  ·have h':(x==n)=false:=by simpa using h
   have hn:¬n=x:=fun e=>h e.symm;have h1:tX (((x::st).zipIdx k).map fun p=>(p.1,Value.int .i64 (p.2:Nat))) n=tX ((st.zipIdx (k+1)).map fun p=>(p.1,Value.int .i64 (p.2:Nat))) n:=by simp[tX,List.zipIdx_cons,h']
   rw[h1,ih];simp only[gK,hn,false_or,al9,h',cond_false];split;·congr 3;omega
   ·rfl
theorem ade(st:List Int)(n:Int):tX (CB st) n=if n∈st then some (.int .i64 ((st.idxOf n:Nat):Int))else none:=by have :=adb n st 0;simpa[CB]using this
theorem amX(st:List Int):(CB st).length=st.length:=by simp[CB]
def VM(p3:Addr)(st:List Int)(M:Nat->Prop)(w:World):Prop:=∃r,(∀b,M b↔(b=p3.block\/b=r))/\r≠p3.block/\w.cell? p3=some (.map (some r))/\rH w r (CB st)
theorem P6(p3:Addr):Cq (VM p3):=by
 refine⟨fun st M w h b hb=>?_,fun st M w w' h hk=>?_⟩
 ·obtain⟨r,h1,h2,h3,h4⟩:=h;rcases(h1 b).1 hb with rfl|rfl;·exact fK w _ h3
  ·exact h4.lt
 ·obtain⟨r,h1,h2,h3,h4⟩:=h;refine⟨r,h1,h2,?_,h4.keeps hk ((h1 _).2 (.inr rfl))⟩;rw[<-h3];exact Px (hk.block _ (fK w _ h3) ((h1 _).2 (.inl rfl)))
theorem J6:J5 Tryz.prog 212 3 (.int .i64 0):=⟨3,Tryz.underlying212,Tryz.underlying3,fun _=>by kernel_rfl⟩
theorem P7{k:Nat}(h:k<=4194304):aA (k:Int):=by unfold aA;omega
theorem amY(p3:Addr):VK (VM p3) aO List.length p3:=by
 intro st M w n hi hsz hn;have HI:=zh hi;obtain⟨r,hM,hr,hc,hm⟩:=hi;have hl1:=amT (n:=n) J6 hm;have hat:=ade st n;by_cases hin:n∈st;·have hl2:=ada (n:=n) J6 hm;rw[hat,ai hin]at hl1 hl2;simp only[nW,Option.isSome_some]at hl1 hl2;have hidx:st.idxOf n<st.length:=axK hin;have dM:=zh hin;have HM:=zh hM;clear hat hin hM hm;go_enter Tryz.func157,Tryz.ntmps157;go_wp2_with fail;go_ret;refine⟨by simp[aO,dM.o],by simp only[aO,dM.o,if_true];exact P7 (by omega),M,Ch.refl M w,fun b hb=> .inl hb,by simpa[aO,dM.o]using HI.o⟩
 ·rw[hat,ag hin]at hl1;rw[ag hin]at hat;simp only[Option.getD_none,Option.isSome_none]at hl1;have hlen:=fun ty=>amU J6 hm ty;simp only[amX]at hlen;obtain⟨w2,hput,hm2,hch,hsz2⟩:=amV J6 hm hat (.int .i64 (st.length:Nat));rw[<-amW]at hm2;have hl2:=ada (n:=n) J6 hm2;rw[ade,ai (by simp)]at hl2;have hidx:(st++[n]).idxOf n=st.length:=by rw[al5,ag hin];simp
  simp only[hidx,nW]at hl2;have hc2:w2.cell? p3=some (.map (some r)):=by rw[<-hc];exact Px (hch.block _ (fK w _ hc) (fun e=>hr e.symm))
  have dM:=zh hin;have HM:=zh hM;have gX:=zh hm2;have bU:=zh hch;clear hat hin hM hm hm2 hch hsz2 hidx;go_enter Tryz.func157,Tryz.ntmps157;go_wp2_with fail;go_ret;refine⟨by simp[aO,dM.o],by simp only[aO,dM.o,if_false];exact P7 (by omega),M,bU.o.mono (fun b _ hb=>(HM.o b).2 (.inr hb)),fun b hb=> .inl hb,?_⟩;have :(aO st n).2=st++[n]:=by simp[aO,dM.o]
  rw[this];exact⟨r,HM.o,hr,hc2,gX.o⟩
theorem amZ(l:List Tm)(hnd:Tm.bq l<=4194304)(A:Nat->Prop)(w:World)(v:Value)(hv:eP A w l v):Calls Tryz.prog 135 #[v] w (Pure w fun v' w'=>eP (New w) w' (Tm.aS aO [] l).1 v'):=by
 obtain⟨a,cap,b,off,rfl,hlc,hcm,hlb,ha,he⟩:=hv.at;have HE:=zh he;have HA:=zh ha;have HV:=zh hv;clear hv he ha;have hmm:=@run_makeMap Tryz.prog;go_enter Tryz.func135,Tryz.ntmps135;go_wp2_with fail;go_loopw[4,10](fun v i wr=>∃(j:Nat)(sj:List Int)(Mj:Nat->Prop),j<=l.length/\i= .int .i64 j/\w.heap.size+2<=wr.heap.size/\Below w.heap.size w wr/\(∀b,Mj b->w.heap.size<=b)/\VM ⟨w.heap.size+1,0,none⟩ sj Mj wr/\sj=(Tm.aS aO [] (l.take j)).2/\(∀b,ownB v=some b->¬Mj b)/\aG wr (w.heap.size+2) 34 4 Tm.rep (fun b=>w.heap.size+2<=b/\¬Mj b) (Tm.aS aO [] (l.take j)).1 v)(fun _ i _=>l.length - (intOf i).toNat);case atStart=>
  refine⟨0,[],fun b=>b=w.heap.size+1\/b=w.heap.size,dn _,rfl,by simp,eB (eB (zB _ _)),fun b hb=>by omega,⟨w.heap.size,fun b=>Gi,by simp,?_,?_⟩,by simp[Tm.aS],by simp[ownB],by simpa[Tm.aS]using aG.nil ..⟩;·rw[bW (je _ _ _).2];rfl
  ·exact(rH.made w).keeps (af.alloc (fun _=>True) _ _) trivial
 case round=>
  obtain⟨j,sj,Mj,hj,rfl,hz,hb,hMj,hst,hsj,bI,hown⟩:=hrel;have hvl:(Tm.aS aO [] (l.take j)).1.length=j:=by rw[Tm.qz];simp;omega
  have HB:=zh hb;have dR:=zh hMj;have HST:=zh hst;have fD:=zh hsj;have dE:=zh bI;have HO:=zh hown;have lY:=zh hvl;clear hb hMj hst hsj bI hown hvl hmm;by_cases hlt:j<l.length
  ·obtain⟨rfl,bC⟩:=HA.o (by omega);obtain⟨sa,sc,c0,c1,c2,c3,hr⟩:=gq HE.o bC (af.ob HB.o) hlt;have lb:b<wr.heap.size:=fK wr _ c0;have hr0:=HE.o;obtain⟨vs0,hl0,En,J7⟩:=hr0 j _ (aT hlt);obtain⟨VN,VO,rfl, -⟩:=Tm.dw En;obtain⟨-, -, -,d3⟩:=Vt (nz.keeps bC J7 (af.ob (A:=A) HB.o));have hsame:Value.slice sa l[j].args.length sc=Value.slice VN l[j].args.length VO:=zI (c3.symm.trans d3);simp only[dC,dL]at hsame;obtain⟨rfl,rfl⟩:=hsame;have J8:=Tm.aj.2.1 _ (fun b=>A b/\b<w.heap.size) _ _ _ En (fun b hb h=>⟨h,hb⟩);have HR:=zh (Tm.aj.1 _ _ wr _ _ J8 (af.ob HB.o));clear hr hr0 hl0 En J7 d3 J8;go_wp2_with fail;have J9:sj.length+l[j].nodes<=4194304:=by have h1:=Tm.Gr (sz:=List.length) PZ (l.take j) [];rw[<-fD.o]at h1;have h2:=Tm.Gq l j hlt;simp only[kg]at h1;omega
   refine(amS (P6 _) PZ (amY _) l[j] sj Mj (fun b=>A b/\b<w.heap.size) _ [_,_,_,_] ((P6 _).keeps _ _ _ _ HST.o (af.alloc _ _ _)) J9 (Tm.aj.1 _ _ _ _ _ HR.o (af.alloc _ _ _)) (fun b hb=>⟨by simp;omega,fun h=>by have :=dR.o b h;omega⟩)).mono ?_;rintro e w1⟨us,M2,rfl,hch,hM2,fo,hr⟩;obtain⟨sa',eQ,rfl, -⟩:=Tm.dw hr;have hsz:=hch.size;simp only[bQ]at hsz hM2 hr;have hlt2:=HO.o.lt;have kL:=(P6 _).lt _ _ _ fo;have kM:∀b,M2 b->w.heap.size<=b:=fun b hb=>by
    rcases hM2 b hb with h1|h1;·exact dR.o b h1
    ·omega
   have hn2:∀b,b<wr.heap.size+1->¬Mj b->¬M2 b:=fun b hb hn h=>by
    rcases hM2 b h with h1|h1;·exact hn h1
    ·omega
   have kN:=HO.o.alloc Tm.aj (.cells #[.int .i64 l[j].kind,.int .i64 l[j].n,.string l[j].s,.slice sa l[j].args.length sc] 34);have eT:=zh (((kN.mono (A':=fun b=>w.heap.size+2<=b/\¬M2 b/\¬Mj b) Tm.aj (fun b hb hb'=>⟨hb'.1,hn2 b (by simpa using hb) hb'.2,hb'.2⟩)).keeps (B:=fun b=>¬Mj b) Tm.aj (hch.keeps fun _ _ h=>h) (fun _ h=>h.2.2) dE.o).mono (A':=fun b=>w.heap.size+2<=b/\¬M2 b) Tm.aj (fun b _ hb=>⟨hb.1,hb.2.1⟩));have jW:Hd (∀b,ownB u4=some b->¬M2 b):=fun b hb=>hn2 b (by have :=(hlt2 b hb).2;omega) (dE.o b hb);have HN:=zh (show Tm.rep (fun b=>(w.heap.size+2<=b/\¬M2 b)/\ownB u4≠some b) w1 _ _ from Tm.aj.2.1 _ _ _ _ _ hr fun b _ hb=>⟨⟨by omega,hb.2⟩,fun e=>by have :=(hlt2 b e).2;omega⟩);have HL:=zh (show(Tm.aS aO [] (l.take j)).1.length<4194304/\w.heap.size+2<=w1.heap.size by rw[lY.o];omega);have HB2:=zh (show Below w.heap.size w w1 from((Ch.of_below (M:=fun _=>False) (HB.o.alloc (by omega) _)).trans hch (fun b hb=> .inr (dR.o b hb))).below (fun _ _ h=>h));have mJ:=zh fo;have rG:=zh kL;have iI:=zh kM;clear hr hch kN fo kL kM hn2 hM2;go_wp2_with(at_builtin;refine jf rfl (.tmp 14) (.tmp 18) 23 rfl (w.heap.size+2) 34 4 56 rz Tm.aj u4 _ rfl eT.o (Tm.aH aO sj l[j]).1 [_,_,_,_] rfl rfl HN.o HL.o ?_;intro v2 w2 hown2 aB);go_roundw;case rel=>
    have hk2:=aB.keeps (A:=fun b=>ownB u4≠some b) (fun _ h=>h);have hka:=(af.alloc (fun b=>ownB u4≠some b) w1 (.cells #[.int .i64 (Tm.aH aO sj l[j]).1.kind,.int .i64 (Tm.aH aO sj l[j]).1.n,.string (Tm.aH aO sj l[j]).1.s,.slice sa' (Tm.aH aO sj l[j]).1.args.length eQ] 34)).trans hk2;refine⟨j+1,(Tm.aH aO sj l[j]).2,M2,by omega,by go_num,by have :=aB.size;simp only[bQ]at this;omega,aB.below (HB2.o.alloc (by omega) _) (by simp;omega) (fun b hb=>by have :=(hlt2 b hb).1;omega),iI.o,(P6 _).keeps _ _ _ _ mJ.o (hka.mono fun b _ hb e=>jW.o b e hb),?_,fun b hb hm=>?_,?_⟩;·rw[dX hlt,Tm.qy,<-fD.o]
    ·rcases aB.block with h1|h1;·exact jW.o b (h1.symm.trans hb) hm
     ·have h2:=h1 b hb;have h3:=rG.o b hm;simp only[bQ]at h2;omega
    ·rw[dX hlt,Tm.qy,<-fD.o];exact hown2
   case measure=>simp[intOf];omega
  ·have :j=l.length:=by omega
   subst this;go_wp2_with fail;go_ret;have hO:=HO.o;rw[jd]at hO;exact⟨_,rfl,HB.o,(hO.mono Tm.aj (fun b _ hb=>show New w b by unfold New;omega)).sl Tm.aj (by rw[Tm.qz];exact hlb) (fun b hb=>by unfold New;omega)⟩
def tidy(l:List Tm):List Tm:=(Tm.aS aO [] l).1
namespace Tm
inductive Vars (p : Int → Prop) : Tm → Prop where
  | mk (k n : Int) (s : ByteArray) (l : List Tm) (h : k = 0 → p n) (hl : ∀ t ∈ l, Vars p t) : Vars p (mk k n s l)
end Tm
section
variable {p : Int → Prop} {g : Int → Int}
theorem adg(hg:∀a b,p a->p b->g a=g b->a=b){st:List Int}(hst:∀x∈st,p x){n:Int}(hn:p n):g n∈st.map g↔n∈st:=by
 constructor;·intro h;obtain⟨x,hx,he⟩:=fZ.1 h;rw[hg n x hn (hst x hx) he.symm];exact hx
 ·exact fun h=>fZ.2 ⟨n,h,rfl⟩
theorem adh(hg:∀a b,p a->p b->g a=g b->a=b){n:Int}(hn:p n):∀{st:List Int},(∀x∈st,p x)->(st.map g).idxOf (g n)=st.idxOf n
 |[],_=>rfl
 |x::st,hst=>by
  have ih:=adh hg hn (st:=st) (fun y hy=>hst y (ni _ hy));by_cases h:x=n;·subst h;simp
  ·have h1:¬g x=g n:=fun e=>h (hg x n (hst x (nk ..)) hn e);simp only[qp,al9,ih];have h2:(x==n)=false:=by simpa using h
   have h3:(g x==g n)=false:=by simpa using h1
   rw[h2,h3]
theorem am0(hg:∀a b,p a->p b->g a=g b->a=b){st:List Int}(hst:∀x∈st,p x){n:Int}(hn:p n):aO (st.map g) (g n)=((aO st n).1,(aO st n).2.map g)/\∀x∈(aO st n).2,p x:=by
 by_cases h:n∈st;·have h1:=(adg hg hst hn).2 h;simp only[aO,h,if_true,h1,adh hg hn hst];exact⟨trivial,hst⟩
 ·have h1:¬g n∈st.map g:=fun e=>h ((adg hg hst hn).1 e);simp only[aO,h,if_false,h1,ny,ru,qp,AA];refine⟨trivial,fun x hx=>?_⟩;rcases fE.1 hx with hx|hx;·exact hst x hx
  ·simp only[gB]at hx;subst hx;exact hn
theorem am1(hg:∀a b,p a->p b->g a=g b->a=b):∀(t:Tm)(st:List Int),t.Vars p->(∀x∈st,p x)->(t.ren g).aH aO (st.map g)=((t.aH aO st).1,(t.aH aO st).2.map g)/\∀x∈(t.aH aO st).2,p x:=by
 intro t;induction t using Tm.induct with
  |h k n s l ih=>
   intro st hv hst;obtain⟨_,_,_,_,hp,hl⟩:=hv;have hn:Tm.num aO (st.map g) k (if k=0 then g n else n)=((Tm.num aO st k n).1,(Tm.num aO st k n).2.map g)/\∀x∈(Tm.num aO st k n).2,p x:=by
    unfold Tm.num;by_cases e:k=0;·simp only[e,if_true];exact am0 hg hst (hp e)
    ·simp only[e,if_false];exact⟨trivial,hst⟩
   have hL:∀(r:List Tm),(∀t∈r,t∈l)->∀st:List Int,(∀x∈st,p x)->Tm.aS aO (st.map g) (Tm.qx g r)=((Tm.aS aO st r).1,(Tm.aS aO st r).2.map g)/\∀x∈(Tm.aS aO st r).2,p x:=by intro r;induction r with|nil=>intro _ st hst;exact⟨rfl,hst⟩|cons x r ihr=>intro hm st hst;obtain⟨h1,h2⟩:=ih x (hm x (nk ..)) st (hl x (hm x (nk ..))) hst;obtain⟨h3,h4⟩:=ihr (fun t ht=>hm t (ni _ ht)) (x.aH aO st).2 h2;simp only[Tm.qx,Tm.aS,h1,h3];exact⟨trivial,h4⟩
   obtain⟨h1,h2⟩:=hn;obtain⟨h3,h4⟩:=hL l (fun _ h=>h) _ h2;simp only[Tm.ren,Tm.aH,h1,h3];exact⟨trivial,h4⟩
theorem am2(hg:∀a b,p a->p b->g a=g b->a=b)(l:List Tm):∀(st:List Int),(∀t∈l,t.Vars p)->(∀x∈st,p x)->Tm.aS aO (st.map g) (l.map (Tm.ren g))=((Tm.aS aO st l).1,(Tm.aS aO st l).2.map g):=by induction l with|nil=>intro st _ _;rfl|cons x r ihr=>intro st hv hst;obtain⟨h1,h2⟩:=am1 hg x st (hv x (nk ..)) hst;simp only[qp,Tm.aS,h1,ihr _ (fun t ht=>hv t (ni _ ht)) h2]
theorem am3(hg:∀a b,p a->p b->g a=g b->a=b)(l:List Tm)(hv:∀t∈l,t.Vars p):tidy (l.map (Tm.ren g))=tidy l:=by unfold tidy;rw[show([]:List Int)=([]:List Int).map g from rfl,am2 hg l [] hv (fun x hx=>by cases hx)];rfl
end
abbrev Env:=List (Int×Tm)
def jM(E:Env)(n:Int):Option Tm:=(E.find? fun p=>p.1==n).map (·.2)
theorem Ka{E:Env}{n:Int}:jM E n=none↔∀p∈E,p.1≠n:=by unfold jM;rw[Option.map_eq_none_iff,List.find?_eq_none];simp
theorem P8{E:Env}{n:Int}{t:Tm}(h:jM E n=some t):(n,t)∈E:=by unfold jM at h;rw[Option.map_eq_some_iff]at h;obtain⟨p,h1,rfl⟩:=h;have h2:=List.find?_some h1;have h3:=List.mem_of_find?_eq_some h1;simp only[xN]at h2;rw[<-h2];exact h3
theorem Kb{E:Env}{v n:Int}{t:Tm}:jM (E++[(v,t)]) n=match jM E n with|some x=>some x|none=>if v=n then some t else none:=by unfold jM;rw[List.find?_append];cases h:E.find? (fun p=>p.1==n)with|some p=>simp|none=>by_cases e:v=n<;>simp[e]
def jN(E:Env):Nat->Tm->Tm|0,t=>t|k+1,t=>if t.kind=0 then(match jM E t.n with|none=>t|some x=>jN E k x)else t
def ax(E:Env)(t:Tm):Tm:=jN E (t.n.toNat+1) t
abbrev Tm.In(N:Int)(t:Tm):Prop:=t.Good N
theorem Tm.In.n{N:Int}{t:Tm}(h:t.In N)(hk:t.kind=0):0<=t.n/\t.n<N:=by cases h with|var n h0 h1=>exact⟨h0,h1⟩|atom=>cases hk|int=>cases hk|comp=>cases hk
theorem Tm.In.arg{N:Int}{t:Tm}(h:t.In N){x:Tm}(hx:x∈t.args):x.In N:=by cases h with|var=>cases hx|atom=>cases hx|int=>cases hx|comp _ _ _ _ _ _ h4=>exact h4 x hx
theorem Tm.In.mono{N N':Int}{t:Tm}(h:t.In N)(hN:N<=N'):t.In N':=by induction h with|var n h0 h1=>exact .var n h0 (by omega)|atom s h=>exact .atom s h|int n h0 h1=>exact .int n h0 h1|comp s l h h1 h2 h3 _ ih=>exact .comp s l h h1 h2 h3 ih
structure cz (N : Int) (E : Env) : Prop where
  key : ∀ p ∈ E, 0 ≤ p.1 ∧ p.1 < N
  tm : ∀ p ∈ E, p.2.In N
  less : ∀ p ∈ E, p.2.kind = 0 → p.2.n < p.1
  nodup : (E.map (·.1)).Nodup
theorem cz.nil(N:Int):cz N []:=⟨by simp,by simp,by simp,by simp⟩
theorem cz.mono{N N':Int}{E:Env}(h:cz N E)(hN:N<=N'):cz N' E:=⟨fun p hp=>⟨(h.key p hp).1,by have :=(h.key p hp).2;omega⟩,fun p hp=>(h.tm p hp).mono hN,h.less,h.nodup⟩
theorem cz.take{N:Int}{E:Env}(h:cz N E)(k:Nat):cz N (E.take k):=⟨fun p hp=>h.key p (Vf hp),fun p hp=>h.tm p (Vf hp),fun p hp=>h.less p (Vf hp),by rw[List.map_take];exact h.nodup.sublist (List.take_sublist _ _)⟩
theorem cz.snoc{N:Int}{E:Env}(h:cz N E){v:Int}{t:Tm}(h0:0<=v)(h1:v<N)(hv:jM E v=none)(ht:t.In N)(hk:t.kind=0->t.n<v):cz N (E++[(v,t)]):=by
 refine⟨fun p hp=>?_,fun p hp=>?_,fun p hp=>?_,?_⟩
 ·rcases fE.1 hp with hp|hp;·exact h.key p hp
  ·simp only[gB]at hp;subst hp;exact⟨h0,h1⟩
 ·rcases fE.1 hp with hp|hp;·exact h.tm p hp
  ·simp only[gB]at hp;subst hp;exact ht
 ·rcases fE.1 hp with hp|hp;·exact h.less p hp
  ·simp only[gB]at hp;subst hp;exact hk
 ·rw[ru,al4];refine⟨h.nodup,by simp,fun a ha b hb=>?_⟩;simp only[qp,AA,gB]at hb;subst hb;obtain⟨p,hp,rfl⟩:=fZ.1 ha;exact Ka.1 hv p hp
section
variable {N : Int} {E : Env}
theorem P9(h:cz N E):∀(k:Nat)(t:Tm),t.In N->t.n.toNat<k->((jN E k t).kind=0->jM E (jN E k t).n=none)/\(jN E k t).In N/\∀k',t.n.toNat<k'->jN E k' t=jN E k t
 |0,t,ht,hk=>by omega
 |k+1,t,ht,hk=>by
  by_cases e:t.kind=0
  ·cases he:jM E t.n with
    |none=>refine⟨by simp[jN,e,he],by simpa[jN,e,he]using ht,fun k' hk'=>?_⟩;cases k' with|zero=>omega|succ k'=>simp[jN,e,he]
    |some x=>
     have hm:=P8 he;have hx:x.In N:=h.tm _ hm;have hn:=ht.n e;by_cases ex:x.kind=0;·have hl:x.n<t.n:=h.less _ hm ex;have hx0:=hx.n ex;obtain⟨i1,i2,i3⟩:=P9 h k x hx (by omega);refine⟨by simpa[jN,e,he]using i1,by simpa[jN,e,he]using i2,fun k' hk'=>?_⟩;cases k' with|zero=>omega|succ k'=>simp only[jN,e,he,if_true];exact i3 k' (by omega)
     ·have hs:∀k,jN E k x=x:=fun k=>by cases k<;>simp[jN,ex]
      refine⟨by simp[jN,e,he,hs,ex],by simpa[jN,e,he,hs]using hx,fun k' hk'=>?_⟩;cases k' with|zero=>omega|succ k'=>simp[jN,e,he,hs]
  ·refine⟨by simp[jN,e],by simpa[jN,e]using ht,fun k' hk'=>?_⟩;cases k' with|zero=>omega|succ k'=>simp[jN,e]
theorem Kc(h:cz N E){t:Tm}(ht:t.In N)(hk:(ax E t).kind=0):jM E (ax E t).n=none:=(P9 h _ t ht (Gb _)).1 hk
theorem oz(h:cz N E){t:Tm}(ht:t.In N):(ax E t).In N:=(P9 h _ t ht (Gb _)).2.1
theorem Qa(h:cz N E){t x:Tm}(ht:t.In N)(hk:t.kind=0)(hx:jM E t.n=some x):ax E t=ax E x:=by
 have hm:=P8 hx;have hxi:x.In N:=h.tm _ hm;have hn:=ht.n hk;unfold ax;rw[jN,ai hk,hx];by_cases ex:x.kind=0;·have hl:x.n<t.n:=h.less _ hm ex;have hx0:=hxi.n ex;exact(P9 h _ x hxi (Gb _)).2.2 _ (by omega)
 ·have hs:∀k,jN E k x=x:=fun k=>by cases k<;>simp[jN,ex]
  simp only[hs]
theorem iA{t:Tm}(h:t.kind≠0\/jM E t.n=none):ax E t=t:=by
 unfold ax;rw[jN];split
 ·rename_i hk;rcases h with h|h;·exact absurd hk h
  ·rw[h]
 ·rfl
theorem adi(h:cz N E){t:Tm}(ht:t.In N):ax E (ax E t)=ax E t:=by
 by_cases hk:(ax E t).kind=0;·exact iA (.inr (Kc h ht hk))
 ·exact iA (.inl hk)
end
def fq(E:Env)(v:Int):Nat->List Tm->Bool×Int|w,[]=>(false,w)|0,_::_=>(false, -1)|w+1,z::r=>if(ax E z).kind=0 then(if(ax E z).n=v then(true,w)else fq E v w r)else fq E v w ((ax E z).args++r)
theorem Qb(E:Env)(v:Int)(w:Nat):fq E v w []=(false,(w:Int)):=by cases w<;>rfl
theorem adk(E:Env)(v:Int)(z:Tm)(r:List Tm):fq E v 0 (z::r)=(false, -1):=rfl
theorem Ke(E:Env)(v:Int)(w:Nat)(z:Tm)(r:List Tm):fq E v (w+1) (z::r)=if(ax E z).kind=0 then(if(ax E z).n=v then(true,(w:Int))else fq E v w r)else fq E v w ((ax E z).args++r):=rfl
structure US where
  ok : Bool
  env : Env
  work : Int
def fw(n:Int):Tm:= .mk 0 n .empty []
def bM(w:Nat)(s:List (Tm×Tm))(E:Env):US:=match w,s with|w,[]=>⟨true,E,w⟩|0,_::_=>⟨false,E, -1⟩|w+1,(a,b)::r=>let x:=ax E a;let y:=ax E b;if x.kind=0/\y.kind=0 then(if x.n=y.n then bM w r E else bM w r (E++[(max x.n y.n,fw (min x.n y.n))]))else if x.kind=0\/y.kind=0 then let v:=if y.kind=0 then y.n else x.n;let z:=if y.kind=0 then x else y;let p:=fq E v w [z];if p.1=true\/p.2<0 then⟨false,E,p.2⟩else bM (min w p.2.toNat) r (E++[(v,z)])else if ¬(x.kind=y.kind/\x.n=y.n/\x.s=y.s/\x.args.length=y.args.length)then⟨false,E,w⟩else bM w (x.args.zip y.args++r) E termination_by w decreasing_by all_goals omega
theorem AR(w:Nat)(E:Env):bM w [] E=⟨true,E,w⟩:=by cases w<;>simp[bM]
theorem Qc(p:Tm×Tm)(r:List (Tm×Tm))(E:Env):bM 0 (p::r) E=⟨false,E, -1⟩:=by simp[bM]
theorem AU{N:Int}:∀(w:Nat)(s:List (Tm×Tm))(E:Env),cz N E->(∀p∈s,p.1.In N/\p.2.In N)->cz N (bM w s E).env/\(∃F,(bM w s E).env=E++F/\F.length<=w):=by
 intro w;induction w using Nat.strongRecOn with
  |_ w ih=>
   intro s E hE hs;match w,s,ih,hs with
    |w,[],_,_=>rw[AR];exact⟨hE,[],by simp,by simp⟩
    |0,_::_,_,_=>rw[Qc];exact⟨hE,[],by simp,by simp⟩
    |w+1,(a,b)::r,ih,hs=>
     obtain⟨ha,hb⟩:=hs (a,b) (by simp);simp only at ha hb;have hr:∀p∈r,p.1.In N/\p.2.In N:=fun p hp=>hs p (by simp[hp]);have xa:=oz hE ha;have xb:=oz hE hb;have fa:=Kc hE ha;have fb:=Kc hE hb;rw[bM];simp only;generalize ax E a=x at*;generalize ax E b=y at*;split
     ·rename_i hk;have na:=xa.n hk.1;have nb:=xb.n hk.2;split;·obtain⟨h1,F,h2,h3⟩:=ih w (by omega) r E hE hr;exact⟨h1,F,h2,by omega⟩
      ·rename_i hne;have hE':cz N (E++[(max x.n y.n,fw (min x.n y.n))]):=by
        refine hE.snoc (by omega) (by omega) ?_ (.var _ (by omega) (by omega)) (fun _=>by show min x.n y.n<max x.n y.n;omega);by_cases h:x.n<=y.n;·rw[ace h];exact fb hk.2
        ·rw[ack (by omega)];exact fa hk.1
       obtain⟨h1,F,h2,h3⟩:=ih w (by omega) r _ hE' hr;exact⟨h1,_,by rw[h2,wD],by simp;omega⟩
     ·rename_i hk;split
      ·rename_i hk2;generalize fq E (if y.kind=0 then y.n else x.n) w [if y.kind=0 then x else y]=p;split;·exact⟨hE,[],by simp,by simp⟩
       ·have hE':cz N (E++[(if y.kind=0 then y.n else x.n,if y.kind=0 then x else y)]):=by
         by_cases e:y.kind=0;·simp only[e,if_true];have nb:=xb.n e;exact hE.snoc nb.1 nb.2 (fb e) xa (fun h=>absurd ⟨h,e⟩ hk)
         ·simp only[e,if_false];have e':x.kind=0:=hk2.resolve_right e;have na:=xa.n e';exact hE.snoc na.1 na.2 (fa e') xb (fun h=>absurd h e)
        obtain⟨h1,F,h2,h3⟩:=ih (min w p.2.toNat) (by omega) r _ hE' hr;exact⟨h1,_,by rw[h2,wD],by simp;omega⟩
      ·split;·exact⟨hE,[],by simp,by simp⟩
       ·obtain⟨h1,F,h2,h3⟩:=ih w (by omega) (x.args.zip y.args++r) E hE (fun p hp=>by
         rcases fE.1 hp with hp|hp;·have :=al8 hp;exact⟨xa.arg this.1,xb.arg this.2⟩
         ·exact hr p hp);exact⟨h1,F,h2,by omega⟩
def bL(E:Env)(w:Nat)(s:List Tm):Option (List Tm×Nat):=match w,s with|w,[]=>some ([],w)|0,_::_=>none|w+1,z::r=>let x:=ax E z;match bL E w x.args with|none=>none|some (ts,w1)=>match bL E (min w w1) r with|none=>none|some (rs,w2)=>some (.mk x.kind x.n x.s ts::rs,w2)termination_by w decreasing_by all_goals omega
theorem xW(E:Env)(w:Nat):bL E w []=some ([],w):=by cases w<;>simp[bL]
theorem GM(E:Env)(z:Tm)(r:List Tm):bL E 0 (z::r)=none:=by simp[bL]
theorem Qd(E:Env):∀(w:Nat)(s ts:List Tm)(w':Nat),bL E w s=some (ts,w')->w'<=w/\ts.length=s.length:=by
 intro w;induction w using Nat.strongRecOn with
  |_ w ih=>
   intro s ts w' h;match w,s,ih,h with
    |w,[],_,h=>rw[xW]at h;simp at h;obtain⟨rfl,rfl⟩:=h;simp
    |0,_::_,_,h=>rw[GM]at h;cases h
    |w+1,a::r,ih,h=>
     rw[bL]at h;try simp only at h
     split at h;·simp at h
     ·rename_i _ JY w1 h1;have k1:=ih w (by omega) _ _ _ h1;rw[Ga k1.1]at h;split at h;·simp at h
      ·rename_i _ rs w2 h2;have k2:=ih w1 (by omega) _ _ _ h2;simp only[dm,lD]at h;obtain⟨rfl,rfl⟩:=h;simp only[cK];omega
structure Ev where
  kind : Int
  terms : List Tm
structure Gl where
  t : Tm
  bar : Nat
structure jO where
  g : List Gl
  at_ : Nat
  trail : Nat
structure Sv where
  env : Env
  choices : List jO
  vars : Int
  fuel : Nat
  out : List Ev
inductive Eo where
  | next (g : List Gl)
  | no
  | off
def Sv.put(s:Sv)(kind:Int):Sv:={s with out:=s.out++[⟨kind,[]⟩]}
def dN(t:Tm)(d:Int):Tm:=t.ren fun n=>low n+low d
def iJ(a b:Tm):Prop:=a.s=b.s/\a.args.length=b.args.length
noncomputable instance(a b:Tm):Decidable (iJ a b):=by unfold iJ;infer_instance
noncomputable def kP(P:List Cl)(t:Tm):Nat->Nat->Nat|0,k=>k|n+1,k=>match P[k]? with|none=>k|some c=>if iJ c.head t then k else kP P t n (k+1)
def xX(b:Nat)(d:Int)(l:List Tm)(rest:List Gl):List Gl:=(l.map fun t=>(⟨dN t d,b⟩:Gl))++rest
noncomputable def lG(P:List Cl)(g:Gl)(rest:List Gl):Nat->Nat->Sv->Eo×Sv|0,_,s=>(.no,s)|n+1,k,s=>match P[k]? with|none=>(.no,s)|some c=>if ¬iJ c.head g.t then lG P g rest n (k+1) s else let u:=bM 400 [(dN c.head s.vars,g.t)] s.env;if u.work<0 then(.off,{s with env:=u.env}.put 4)else if u.ok=false then lG P g rest n (k+1) s else(.next (xX s.choices.length s.vars c.body rest),{s with env:=u.env,choices:=if kP P g.t (P.length - (k+1)) (k+1)<P.length then⟨g::rest,kP P g.t (P.length - (k+1)) (k+1),s.env.length⟩::s.choices else s.choices,vars:=s.vars+c.vars})
noncomputable def iK(P:List Cl):List jO->Sv->Eo×Sv|[],s=>(.off,{s with choices:=[]}.put 2)|c::cs,s=>match c.g with|[]=>(.off,s)|g::rest=>match lG P g rest (P.length - c.at_) c.at_ {s with choices:=cs,env:=s.env.take c.trail}with|(.no,s')=>iK P cs s'|r=>r
noncomputable def zA(g:Gl)(s:Sv):Option Bool×Sv:=if g.t.s.toList=[33]then(some true,{s with choices:=s.choices.drop (s.choices.length - g.bar)})else if g.t.s.toList=[116,114,117,101]then(some true,s)else if g.t.s.toList=[102,97,105,108]then(some false,s)else if g.t.s.toList=[101,113]then let u:=bM 400 [((g.t.args[0]?).getD default,(g.t.args[1]?).getD default)] s.env;if u.work<0 then(none,{s with env:=u.env}.put 4)else(some u.ok,{s with env:=u.env})else let a:=ax s.env ((g.t.args[0]?).getD default);let b:=ax s.env ((g.t.args[1]?).getD default);if a.kind≠2\/b.kind≠2 then(none,s.put 5)else if g.t.s.toList=[108,101,115,115]then(some (decide (a.n<b.n)),s)else if a.n+b.n>1099511627776\/a.n+b.n< -1099511627776 then(none,s.put 5)else let u:=bM 400 [((g.t.args[2]?).getD default,.mk 2 (a.n+b.n) .empty [])] s.env;(some u.ok,{s with env:=u.env})
noncomputable def uY(P:List Cl)(g:Gl)(rest:List Gl)(s:Sv):Eo×Sv:=if s.fuel=0 then(.off,s.put 3)else let s:={s with fuel:=s.fuel - 1};haveI :=Classical.propDecidable g.t.gF;if g.t.gF then match zA g s with|(none,s')=>(.off,s')|(some true,s')=>(.next rest,s')|(some false,s')=>iK P s'.choices s' else if ∀c∈P,¬iJ c.head g.t then(.off,s.put 5)else match lG P g rest P.length 0 s with|(.no,s')=>iK P s'.choices s'|r=>r
def rJ(q:Nat)(s:Sv):Bool×Sv:=match bL s.env 200 ((List.range q).map fun i=>fw (i:Nat))with|none=>(false,s.put 4)|some (l,_)=>let s:={s with out:=s.out++[⟨1,tidy l⟩]};if s.out.length≥12 then(false,s.put 6)else(true,s)
noncomputable def rM(P:List Cl)(q:Nat):Nat->List Gl->Sv->Sv
 |0,_,s=>s
 |n+1,[],s=>match rJ q s with|(false,s')=>s'|(true,s')=>match iK P s'.choices s' with|(.next g,s'')=>rM P q n g s''|(_,s'')=>s''
 |n+1,g::rest,s=>match uY P g rest s with|(.next g',s')=>rM P q n g' s'|(_,s')=>s'
noncomputable def wH(P:List Cl)(Q:List Tm)(vars fuel:Int):List Ev×Int:=haveI :=Classical.propDecidable (dW P/\fP Q vars);if ¬(dW P/\fP Q vars)then([],1)else if fuel<0\/fuel>150 then([],2)else((rM P vars.toNat (fuel.toNat+14) (Q.map fun t=>⟨t,0⟩) ⟨[],[],vars,fuel.toNat,[]⟩).out,0)
