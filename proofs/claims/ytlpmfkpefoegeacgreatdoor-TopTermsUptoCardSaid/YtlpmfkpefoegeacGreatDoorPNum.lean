import Derived.Test.YtlpmfkpefoegeacGreatDoorQIsHeap
import Derived.Lib.AtoiAll
import Derived.Lib.ItoaMem
namespace Go.Proofs.YtlpmfkpefoegeacGreatDoor
set_option maxRecDepth 99999
set_option maxHeartbeats 0
set_option linter.all false
open Go.RowKit
def Tm.ky(t:Tm):Prop:=t.kind=1\/t.kind=3
def Tm.jL(t:Tm):Prop:=(t.args.length=0/\(t.s.toList=[33]\/t.s.toList=[116,114,117,101]\/t.s.toList=[102,97,105,108]))\/(t.args.length=2/\(t.s.toList=[101,113]\/t.s.toList=[108,101,115,115]))\/(t.args.length=3/\t.s.toList=[97,100,100])
def Tm.Fits(v:Int)(t:Tm):Prop:=t.Good v/\t.nodes<=24
def aek(t:Tm)(A:Nat->Prop)(w:World)(vs:List Value)(f:Tm.rep A w t vs):Calls Tryz.prog 90 #[.agg vs.toArray] w (Pure w (Eg t.ky)):=by
 obtain⟨k,n,s,l⟩:=t;rw[Tm.jv]at f;obtain⟨j,i,h,v,rfl,g⟩:=f;obtain⟨a,e, -, -,rfl, -⟩:=g.at;have d:=Y (show Below w w (w.alloc (.cells #[↑k,↑n,.string s,.slice a l.length e] 34))from iO (Z _ _));clear g;by_cases c:k=1;·subst c;go_enter Tryz.func90,Tryz.ntmps90;go_wp2_with fail;go_ret;exact⟨_,rfl,d,_,rfl,by simp[Tm.ky,Tm.kind]⟩
 ·have o:(k==1)=false:=by simpa using c
  by_cases b:k=3;·subst b;go_enter Tryz.func90,Tryz.ntmps90;go_wp2_with fail;go_ret;exact⟨_,rfl,d,_,rfl,by simp[Tm.ky,Tm.kind]⟩
  ·have m:(k==3)=false:=by simpa using b
   go_enter Tryz.func90,Tryz.ntmps90;go_wp2_with fail;go_ret;exact⟨_,rfl,d,_,rfl,by simp[Tm.ky,Tm.kind,c,b]⟩
def Xb(t:Tm)(A:Nat->Prop)(w:World)(vs:List Value)(m:Tm.rep A w t vs):Calls Tryz.prog 92 #[.agg vs.toArray] w (Pure w (Eg t.jL)):=by
 obtain⟨k,n,s,l⟩:=t;rw[Tm.jv]at m;obtain⟨z,y,x,v,rfl,o⟩:=m;obtain⟨a,j, -, -,rfl, -⟩:=o.at;have b:=Y (show Below w w (w.alloc (.cells #[↑k,↑n,.string s,.slice a l.length j] 34))from iO (Z _ _));clear o;by_cases d:l.length=0
 ·rw[d];by_cases c:s.toList=[33]
  ·have g:(s.toList==[33])=true:=by simpa using c
   go_enter Tryz.func92,Tryz.ntmps92;rw[d]at b;go_wp2_with fail;go_ret;exact⟨_,rfl,b,_,rfl,by simp[Tm.jL,Tm.args,Tm.s,d,c]⟩
  ·have g:(s.toList==[33])=false:=by simpa using c
   by_cases f:s.toList=[116,114,117,101]
   ·have p:(s.toList==[116,114,117,101])=true:=by simpa using f
    go_enter Tryz.func92,Tryz.ntmps92;rw[d]at b;go_wp2_with fail;go_ret;exact⟨_,rfl,b,_,rfl,by simp[Tm.jL,Tm.args,Tm.s,d,f]⟩
   ·have p:(s.toList==[116,114,117,101])=false:=by simpa using f
    go_enter Tryz.func92,Tryz.ntmps92;rw[d]at b;go_wp2_with fail;go_ret;exact⟨_,rfl,b,_,rfl,by simp[Tm.jL,Tm.args,Tm.s,d,c,f]⟩
 ·by_cases e:l.length=2
  ·rw[e];by_cases c:s.toList=[101,113]
   ·have g:(s.toList==[101,113])=true:=by simpa using c
    go_enter Tryz.func92,Tryz.ntmps92;rw[e]at b;go_wp2_with fail;go_ret;exact⟨_,rfl,b,_,rfl,by simp[Tm.jL,Tm.args,Tm.s,e,c]⟩
   ·have g:(s.toList==[101,113])=false:=by simpa using c
    go_enter Tryz.func92,Tryz.ntmps92;rw[e]at b;go_wp2_with fail;go_ret;exact⟨_,rfl,b,_,rfl,by simp[Tm.jL,Tm.args,Tm.s,e,c]⟩
  ·by_cases i:l.length=3;·rw[i];go_enter Tryz.func92,Tryz.ntmps92;rw[i]at b;go_wp2_with fail;go_ret;exact⟨_,rfl,b,_,rfl,by simp[Tm.jL,Tm.args,Tm.s,i]⟩
   ·have u:((l.length:Int)==0)=false:=by simpa using(show ¬(l.length:Int)=0 by omega)
    have r:((l.length:Int)==2)=false:=by simpa using(show ¬(l.length:Int)=2 by omega)
    have q:((l.length:Int)==3)=false:=by simpa using(show ¬(l.length:Int)=3 by omega)
    go_enter Tryz.func92,Tryz.ntmps92;go_wp2_with fail;go_ret;refine⟨_,rfl,b,_,rfl,?_⟩;simp only[Tm.jL,Tm.args,Tm.s];exact⟨(λh=>by cases h),λh=>by rcases h with⟨h, -⟩|⟨h, -⟩|⟨h, -⟩<;>omega⟩
def ael(t:Tm)(v:Int)(p:t.nodes<=1099511627776)(z:ah v)(A:Nat->Prop)(w:World)(vs:List Value)(g:Tm.rep A w t vs):Calls Tryz.prog 91 #[.agg vs.toArray,↑v] w (Pure w (Eg (t.Fits v))):=by
 have D:=Y (λw'(l:J A w w')=>anJ t v A w' vs z (Tm.ae.1 _ _ _ _ _ g l));have C:=Y (λw'(l:J A w w')=>anL t A w' vs p (Tm.ae.1 _ _ _ _ _ g l));obtain⟨x,u,rfl, -⟩:=Tm.dV g;clear g;go_enter Tryz.func91,Tryz.ntmps91;go_wp2_with fail;refine(D _ (J.alloc _ _ _)).mono ?_;rintro e q⟨r,rfl,a,b,rfl,i⟩;have c:=Y (show Below w w q from iO (a.mono zh));have B:=Y (aA (bq w (.cells #[↑t.kind,↑t.n,.string t.s,.slice x t.args.length u] 34)) a);clear a;obtain⟨L,K,I,H,G⟩:=aF B;have F:=c.o.size;cases b with
  |false=>have y:=Y (show ¬t.Good v fromλh=>by have :=i.2 h;cases this);clear i;go_wp2_with fail;go_ret;exact⟨_,rfl,c,_,rfl,⟨(λh=>by cases h),λh=>absurd h.1 y⟩⟩
  |true=>
   have E:=Y (i.1 rfl);clear i;go_wp2_with fail;refine(C _ (J.ob c)).mono ?_;rintro e M⟨r,rfl,a,rfl⟩;have f:=Y (c.o.trans (a.mono c.o.size));clear a;by_cases j:t.nodes<=24
   ·have m:=Y j;have d:(t.nodes:Int)<=24:=zB;clear j;go_wp2_with fail;go_ret;exact⟨_,rfl,f,_,rfl,⟨λ_=>⟨E,m⟩,λ_=>(by first|rfl|simp[d])⟩⟩
   ·have m:=Y j;have d:¬(t.nodes:Int)<=24:=zB;clear j;go_wp2_with fail;go_ret;exact⟨_,rfl,f,_,rfl,⟨(λh=>by first|(cases h;done)|(simp at h;omega)),λh=>absurd h.2 m⟩⟩
structure Cl where
  head : Tm
  body : List Tm
  vars : Int
def Cl.rep(A:Nat->Prop)(w:World)(c:Cl)(vs:List Value):Prop:=∃a d b bc,vs=[↑c.head.kind,↑c.head.n,.string c.head.s,.slice a c.head.args.length d,.slice b c.body.length bc,↑c.vars]/\Tm.rep A w c.head [↑c.head.kind,↑c.head.n,.string c.head.s,.slice a c.head.args.length d]/\iN A w c.body (.slice b c.body.length bc)/\ah c.vars
def Cl.ae:iy Cl.rep:=by
 refine⟨λA w m c i h k=>?_,λA n w c i h l=>?_,λA w c i h=>?_⟩;·obtain⟨a,g,b,bc,rfl,f,e,d⟩:=h;exact⟨a,g,b,bc,rfl,Tm.ae.1 _ _ _ _ _ f k,ag.keeps Tm.ae e k,d⟩
 ·obtain⟨a,g,b,bc,rfl,f,e,d⟩:=h;exact⟨a,g,b,bc,rfl,Tm.ae.2.1 _ _ _ _ _ f l,ag.mono Tm.ae zB e l,d⟩
 ·obtain⟨a,g,b,bc,rfl,f,e,d⟩:=h;intro u j;simp only[jr,yz,vI]at j;rcases j with rfl|rfl|rfl|rfl|rfl|rfl<;>rfl
def Xc{l:List Tm}{t:Tm}(h:t∈l):t.nodes<=Tm.aC l:=by
 induction l with
  |nil=>cases h
  |cons x r b=>
   simp only[Tm.aC];rcases jr.1 h with rfl|h;·omega
   ·have :=b h;omega
def aem(l:List Tm)(v:Int)(hnd:Tm.aC l<=1099511627776)(hi:ah v)(A:Nat->Prop)(w:World)(u:Value)(hu:iN A w l u):Calls Tryz.prog 56 #[u,↑v] w (Pure w (Eg (∀g∈l,g.ky/\g.Fits v))):=by
 obtain⟨a,cap,b,off,rfl,hlc,hcm,hlb,ha,he⟩:=hu.at;have HE:=Y he;have HA:=Y ha;have HI:=Y hi;have nG:=Y hnd;clear hu he ha hi hnd;go_enter Tryz.func56,Tryz.ntmps56;go_wp2_with fail;go_loopw[9](λi W=>∃j:Nat,j<=l.length/\i= ↑j/\Below w w W/\∀q(hq:q<l.length),q<j->l[q].ky/\l[q].Fits v)(λi _=>l.length - (intOf i).toNat);case atStart=>exact⟨0,dA _,rfl,Z _ _,λq _ h=>absurd h (QV _)⟩
 case round=>
  obtain⟨j,hj,rfl,hb,hq⟩:=hrel;have HB:=Y hb;have HQ:=Y hq;have hz:=hb.size;clear hb hq;by_cases hlt:j<l.length
  ·obtain⟨rfl,bQ⟩:=HA zB;obtain⟨sa,sc,c0,c1,c2,c3,hr⟩:=lJ HE bQ (J.ob HB) hlt;have hlt':(j:Int)<(l.length:Int):=zB;have nT:=Y hlt;obtain⟨t,ht⟩:∃t,t=l[j]'hlt:=⟨_,rfl⟩;have hmem:t∈l:=by rw[ht];exact bN _
   rw[<-ht]at c0 c1 c2 c3 hr;have hn:=Xc hmem;have hnn:=nG.o;have HT:=Y ht;have HR:=Y hr;have HN:=Y (show t.nodes<=1099511627776 by omega);clear hr ht hmem hn hnn;go_wp2_with fail;refine(aek t A _ _ (Tm.ae.1 _ _ _ _ _ HR (J.alloc _ _ _))).mono ?_;rintro e w1⟨r,rfl,hb,g,rfl,hg⟩;have HX:=Y (aA (bq wr (.cells #[↑t.kind,↑t.n,.string t.s,.slice sa t.args.length sc] 34)) hb);have HB1:=Y ((HB.o.alloc zB (.cells #[↑t.kind,↑t.n,.string t.s,.slice sa t.args.length sc] 34)).trans (hb.mono (by simp;omega)));have HR1:=Y (Tm.ae.1 _ _ _ _ _ (Tm.ae.1 _ _ _ _ _ HR (J.alloc _ _ (.cells (#[↑t.kind,↑t.n,.string t.s,.slice sa t.args.length sc]:Array Value) 34))) (J.ob hb));clear hb c0 c1 c2 c3;obtain⟨x0,x1,x2,x3,xf⟩:=aF HX;cases g with
    |false=>have qd:=Y (show ¬t.ky fromλh=>by have :=hg.2 h;cases this);clear hg;go_wp2_with fail;go_ret;exact⟨_,rfl,HB1,_,rfl,⟨(λh=>by cases h),λh=>absurd (h t (by rw[HT.o];exact bN _)).1 qd⟩⟩
    |true=>
     have Gu:=Y (hg.1 rfl);clear hg;go_wp2_with fail;refine(ael t v HN HI A _ _ HR1).mono ?_;rintro e w2⟨r,rfl,hb,g,rfl,hg⟩;have HB2:=Y (HB1.o.trans (hb.mono HB1.o.size));clear hb x0 x1 x2 x3 xf;cases g with
      |false=>have qd:=Y (show ¬t.Fits v fromλh=>by have :=hg.2 h;cases this);clear hg;go_wp2_with fail;go_ret;exact⟨_,rfl,HB2,_,rfl,⟨(λh=>by cases h),λh=>absurd (h t (by rw[HT.o];exact bN _)).2 qd⟩⟩
      |true=>
       have MU:=Y (hg.1 rfl);clear hg;go_wp2_with fail;go_roundw;case rel=>
        refine⟨j+1,zB,zd,HB2,λq hq hqj=>?_⟩;by_cases e:q=j;·subst e;rw[<-HT.o];exact⟨Gu,MU⟩
        ·exact HQ q hq zB
       case measure=>first|(simp[intOf];done)|(simp[intOf];omega)
  ·have hlt':¬(j:Int)<(l.length:Int):=zB;have Aw:=Y (show ∀g∈l,g.ky/\g.Fits v fromλg hg=>by obtain⟨q,hq,rfl⟩:=vH.1 hg;exact HQ q hq zB);go_wp2_with fail;go_ret;exact⟨_,rfl,HB,_,rfl,⟨λ_=>Aw,λ_=>rfl⟩⟩
def iJ(l:List Tm)(v:Int):Prop:=0<=v/\v<=8/\l.length<=5/\∀g∈l,g.ky/\g.Fits v
def Cl.Good(c:Cl):Prop:=iJ c.body c.vars/\c.head.ky/\c.head.Fits c.vars/\¬c.head.jL
def Jv(l:List Tm)(v:Int)(d:Tm.aC l<=1099511627776)(m:ah v)(A:Nat->Prop)(w:World)(u:Value)(c:iN A w l u):Calls Tryz.prog 30 #[u,↑v] w (Pure w (Eg (iJ l v))):=by
 have x:=Y (aem l v d m A w u c);obtain⟨a,E,b,z,rfl,B,D,C,p,n⟩:=c.at;clear c p n;by_cases s:0<=v
 ·by_cases q:v<=8
  ·by_cases k:l.length<=5
   ·have f:(l.length:Int)<=5:=zB;go_enter Tryz.func30,Tryz.ntmps30;go_wp2_with fail;refine(x).mono ?_;rintro e F⟨r,rfl,j,g,rfl,i⟩;have y:=Y j;have t:=Y i;clear j i;go_wp2_with fail;go_ret;exact⟨_,rfl,y,_,rfl,by rw[t.o];exact⟨λh=>⟨s,q,k,h⟩,λh=>h.2.2.2⟩⟩
   ·have f:¬(l.length:Int)<=5:=zB;go_enter Tryz.func30,Tryz.ntmps30;go_wp2_with fail;go_ret;exact⟨_,rfl,Z _ _,_,rfl,⟨(λh=>by first|(cases h;done)|(simp at h;omega)),λh=>absurd h.2.2.1 k⟩⟩
  ·go_enter Tryz.func30,Tryz.ntmps30;go_wp2_with fail;go_ret;exact⟨_,rfl,Z _ _,_,rfl,⟨(λh=>by first|(cases h;done)|(simp at h;omega)),λh=>absurd h.2.1 zB⟩⟩
 ·go_enter Tryz.func30,Tryz.ntmps30;go_wp2_with fail;go_ret;exact⟨_,rfl,Z _ _,_,rfl,⟨(λh=>by first|(cases h;done)|(simp at h;omega)),λh=>absurd h.1 zB⟩⟩
def gY{w:World}{g:Nat}{E:TypeId}{v0 v1 v2 v3 b a:Value}(h:w.heap[g]?=some (.cells #[v0,v1,v2,v3,b,a] E (0,0))):w.cell? (g,0)=some v0/\w.cell? (g,1)=some v1/\w.cell? (g,2)=some v2/\w.cell? (g,3)=some v3/\w.cell? (g,4)=some b/\w.cell? (g,5)=some a/\∀o,w.frozen? ⟨g,o,none⟩=false:=⟨(bY h 0).trans rfl,(bY h 1).trans rfl,(bY h 2).trans rfl,(bY h 3).trans rfl,(bY h 4).trans rfl,(bY h 5).trans rfl,λo=>by simp[World.frozen?,h]⟩
def Cl.nodes(c:Cl):Nat:=c.head.nodes+Tm.aC c.body
def Xd(c:Cl)(G:c.nodes<=1099511627776)(A:Nat->Prop)(w:World)(vs:List Value)(hc:Cl.rep A w c vs):Calls Tryz.prog 52 #[.agg vs.toArray] w (Pure w (Eg c.Good)):=by
 obtain⟨h,l,v⟩:=c;obtain⟨a,K,b,bc,rfl,M,I,F⟩:=hc;simp only[Cl.nodes]at G;simp only at M I F;obtain⟨_,_, -, -,e, -, -,hbl, -⟩:=I.at;have P:=Y M;have nU:=Y I;have U:=Y F;have Cn:=Y (show h.nodes<=1099511627776 by omega);have mq:=Y (show Tm.aC l<=1099511627776 by omega);have i1:v<=9223372036854775807:=by unfold ah at F;omega
 have i2: -9223372036854775808<=v:=by unfold ah at F;omega
 clear M I F e G;have T:=Y (bq w (.cells #[↑h.kind,↑h.n,.string h.s,.slice a h.args.length K,.slice b l.length bc,↑v] 65));have u:=Y ((gQ _ w).alloc (zL _) (.cells #[↑h.kind,↑h.n,.string h.s,.slice a h.args.length K,.slice b l.length bc,↑v] 65));have O:=Y (J.alloc A w (.cells #[↑h.kind,↑h.n,.string h.s,.slice a h.args.length K,.slice b l.length bc,↑v] 65));by_cases h1:v<0;·go_enter Tryz.func52,Tryz.ntmps52;go_wp2_with fail;go_ret;exact⟨_,rfl,u,_,rfl,⟨(λh=>by first|(cases h;done)|(simp at h;omega)),λh=>absurd h.1.1 (by simp only;omega)⟩⟩
 by_cases h2:8<v;·go_enter Tryz.func52,Tryz.ntmps52;go_wp2_with fail;go_ret;exact⟨_,rfl,u,_,rfl,⟨(λh=>by first|(cases h;done)|(simp at h;omega)),λh=>absurd h.1.2.1 (by simp only;omega)⟩⟩
 by_cases h3:5<l.length
 ·have Q:(5:Int)<(l.length:Int):=zB;go_enter Tryz.func52,Tryz.ntmps52;go_wp2_with fail;go_ret;exact⟨_,rfl,u,_,rfl,⟨(λh=>by first|(cases h;done)|(simp at h;omega)),λh=>absurd h.1.2.2.1 (by simp only;omega)⟩⟩
 have Q:¬(5:Int)<(l.length:Int):=zB;go_enter Tryz.func52,Tryz.ntmps52;go_wp2_with fail;have N:=Y (aek h A _ _ (Tm.ae.1 _ _ _ _ _ P O));generalize w.alloc (.cells #[↑h.kind,↑h.n,.string h.s,.slice a h.args.length K,.slice b l.length bc,↑v] 65)=w0 at T u O N ⊢;refine(N).mono ?_;rintro e w1⟨r,rfl,m,g,rfl,d⟩;have S:=Y (aA T m);have t:=Y (u.o.trans (m.mono u.o.size));have W:=Y (O.o.trans (J.ob m));clear m N;obtain⟨E,D,C,B,z,y,x⟩:=gY S;cases g with|false=>have L:=Y (show ¬h.ky fromλk=>by have :=d.2 k;cases this);clear d;go_wp2_with fail;go_ret;exact⟨_,rfl,t,_,rfl,⟨(λh=>by cases h),λk=>absurd k.2.1 L⟩⟩|true=>have Gu:=Y (d.1 rfl);clear d;go_wp2_with fail;refine(ael h v Cn U A _ _ (Tm.ae.1 _ _ _ _ _ P W)).mono ?_;rintro e w2⟨r,rfl,j,g,rfl,d⟩;clear E D C B z y x;have R:=Y (aA S j);have q:=Y (t.o.trans (j.mono t.o.size));have V:=Y (W.o.trans (J.ob j));clear j;obtain⟨E,D,C,B,z,y,x⟩:=gY R;cases g with|false=>have L:=Y (show ¬h.Fits v fromλk=>by have :=d.2 k;cases this);clear d;go_wp2_with fail;go_ret;exact⟨_,rfl,q,_,rfl,⟨(λh=>by cases h),λk=>absurd k.2.2.1 L⟩⟩|true=>have MU:=Y (d.1 rfl);clear d;go_wp2_with fail;refine(Xb h A _ _ (Tm.ae.1 _ _ _ _ _ P V)).mono ?_;rintro e w3⟨r,rfl,i,g,rfl,d⟩;clear E D C B z y x;have iQ:=Y (aA R i);have p:=Y (q.o.trans (i.mono q.o.size));have X:=Y (V.o.trans (J.ob i));clear i;obtain⟨E,D,C,B,z,y,x⟩:=gY iQ;cases g with|true=>have Z:=Y (d.1 rfl);clear d;go_wp2_with fail;go_ret;exact⟨_,rfl,p,_,rfl,⟨(λh=>by cases h),λk=>absurd Z k.2.2.2⟩⟩|false=>have Ri:=Y (show ¬h.jL fromλk=>by have :=d.2 k;cases this);clear d;go_wp2_with fail;refine(aem l v mq U A _ _ (ag.keeps Tm.ae nU X)).mono ?_;rintro e w4⟨r,rfl,H,g,rfl,d⟩;have bL:=Y (p.o.trans (H.mono p.o.size));have HG:=Y d;clear H d E D C B z y x;go_wp2_with fail;go_ret;exact⟨_,rfl,bL,_,rfl,by rw[HG.o];exact⟨λk=>⟨⟨by simp only;omega,by simp only;omega,by simp only;omega,k⟩,Gu,MU,Ri⟩,λk=>k.1.2.2.2⟩⟩
abbrev Ay(A:Nat->Prop)(w:World)(l:List Cl)(v:Value):Prop:=ag 6 Cl.rep A w l v
def anZ{w:World}{b a:Nat}{v0 v1 v2 v3 d c:Value}(h:qJ w b a [v0,v1,v2,v3,d,c]):w.cell? (b,a)=some v0/\w.cell? (b,a+1)=some v1/\w.cell? (b,a+2)=some v2/\w.cell? (b,a+3)=some v3/\w.cell? (b,a+4)=some d/\w.cell? (b,a+5)=some c:=⟨h 0 _ rfl,h 1 _ rfl,h 2 _ rfl,h 3 _ rfl,h 4 _ rfl,h 5 _ rfl⟩
def MV{A:Nat->Prop}{w d:World}{l:List Cl}{b c:Nat}(o:nE A w 6 Cl.rep l b c)(p:A b)(m:J A w d){j:Nat}(i:j<l.length):∃a g f bc,d.cell? (b,c+j*6)=some ↑l[j].head.kind/\d.cell? (b,c+j*6+1)=some ↑l[j].head.n/\d.cell? (b,c+j*6+2)=some (.string l[j].head.s)/\d.cell? (b,c+j*6+3)=some (.slice a l[j].head.args.length g)/\d.cell? (b,c+j*6+4)=some (.slice f l[j].body.length bc)/\d.cell? (b,c+j*6+5)=some ↑l[j].vars/\Cl.rep A d l[j] [↑l[j].head.kind,↑l[j].head.n,.string l[j].head.s,.slice a l[j].head.args.length g,.slice f l[j].body.length bc,↑l[j].vars]:=by obtain⟨z,y,k,e⟩:=o j _ (aJ i);have h:=Cl.ae.1 _ _ _ _ _ k m;obtain⟨a,g,f,bc,rfl, -⟩:=k;obtain⟨x,v,u,t,r,q⟩:=anZ (qJ.keeps p e m);exact⟨a,g,f,bc,x,v,u,t,r,q,h⟩
def fV(l:List Cl):Prop:=l.length<=24/\∀c∈l,c.Good
def mR:List Cl->Nat|[]=>0|c::r=>c.nodes+mR r
def aen{l:List Cl}{c:Cl}(h:c∈l):c.nodes<=mR l:=by
 induction l with
  |nil=>cases h
  |cons x r b=>
   simp only[mR];rcases jr.1 h with rfl|h;·omega
   ·have :=b h;omega
def Rj(l:List Cl)(hnd:mR l<=1099511627776)(A:Nat->Prop)(w:World)(u:Value)(hu:Ay A w l u):Calls Tryz.prog 29 #[u] w (Pure w (Eg (fV l))):=by
 obtain⟨a,cap,b,off,rfl,hlc,hcm,hlb,ha,he⟩:=ag.at hu;have HE:=Y he;have HA:=Y ha;have nG:=Y hnd;clear hu he ha hnd;go_enter Tryz.func29,Tryz.ntmps29;go_wp2_with fail;go_loopw[7](λi W=>∃j:Nat,j<=l.length/\i= ↑j/\Below w w W/\∀q(hq:q<l.length),q<j->l[q].Good)(λi _=>l.length - (intOf i).toNat);case atStart=>exact⟨0,dA _,rfl,Z _ _,λq _ h=>absurd h (QV _)⟩
 case round=>
  obtain⟨j,hj,rfl,hb,hq⟩:=hrel;have HB:=Y hb;have HQ:=Y hq;have hz:=hb.size;clear hb hq;by_cases hlt:j<l.length
  ·obtain⟨rfl,bQ⟩:=HA zB;obtain⟨sa,sc,ba,bc,c0,c1,c2,c3,c4,c5,hr⟩:=MV HE bQ (J.ob HB) hlt;have hlt':(j:Int)<(l.length:Int):=zB;have nT:=Y hlt;obtain⟨t,ht⟩:∃t,t=l[j]'hlt:=⟨_,rfl⟩;have hmem:t∈l:=by rw[ht];exact bN _
   rw[<-ht]at c0 c1 c2 c3 c4 c5 hr;have hn:=aen hmem;have hnn:=nG.o;have HT:=Y ht;have HR:=Y hr;have HN:=Y (show t.nodes<=1099511627776 by omega);clear hr ht hmem hn hnn;go_wp2_with fail;refine(Xd t HN.o A _ _ (Cl.ae.1 _ _ _ _ _ HR (J.alloc _ _ _))).mono ?_;rintro e w1⟨r,rfl,hb,g,rfl,hg⟩;have HB1:=Y ((HB.o.alloc zB (.cells #[↑t.head.kind,↑t.head.n,.string t.head.s,.slice sa t.head.args.length sc,.slice ba t.body.length bc,↑t.vars] 65)).trans (hb.mono (by simp;omega)));clear hb c0 c1 c2 c3 c4 c5;cases g with
    |false=>have qd:=Y (show ¬t.Good fromλh=>by have :=hg.2 h;cases this);clear hg;go_wp2_with fail;go_ret;exact⟨_,rfl,HB1,_,rfl,⟨(λh=>by cases h),λh=>absurd (h.2 t (by rw[HT.o];exact bN _)) qd⟩⟩
    |true=>
     have Gu:=Y (hg.1 rfl);clear hg;go_wp2_with fail;go_roundw;case rel=>
      refine⟨j+1,zB,zd,HB1,λq hq hqj=>?_⟩;by_cases e:q=j;·subst e;rw[<-HT.o];exact Gu
      ·exact HQ q hq zB
     case measure=>first|(simp[intOf];done)|(simp[intOf];omega)
  ·have hlt':¬(j:Int)<(l.length:Int):=zB;have Aw:=Y (show ∀g∈l,g.Good fromλg hg=>by obtain⟨q,hq,rfl⟩:=vH.1 hg;exact HQ q hq zB);by_cases Ei:l.length<=24
   ·have aeo:(l.length:Int)<=24:=zB;go_wp2_with fail;go_ret;exact⟨_,rfl,HB,_,rfl,⟨λ_=>⟨Ei,Aw⟩,(λ_=>by first|rfl|simp[aeo])⟩⟩
   ·have aeo:¬(l.length:Int)<=24:=zB;go_wp2_with fail;go_ret;exact⟨_,rfl,HB,_,rfl,⟨(λh=>by first|(cases h;done)|(simp at h;omega)),λh=>absurd h.1 zB⟩⟩
def jA(f:Rd->Tm×Rd):Nat->List Tm->Rd->List Tm×Rd|0,l,r=>(l,r)|k+1,l,r=>if r.bad then(l,r)else if((f r).2.at_ [44]).1 then jA f k (l++[(f r).1]) ((f r).2.at_ [44]).2 else(l++[(f r).1],((f r).2.at_ [44]).2)
def Rd.must(sg:Str)(r:Rd):Rd:=if(r.at_ sg).1 then(r.at_ sg).2 else(r.at_ sg).2.kill
def gD(r:Rd):List Tm×Rd:=((jA (cz 24) (r.s.length+1) [] r).1,(jA (cz 24) (r.s.length+1) [] r).2.must [46])
def Ps.must(sg:Str)(p:Ps):Ps:=if p.bad then p else if(p.take sg).1 then(p.take sg).2 else p.kill
def an0{f:Rd->Tm×Rd}(k:Nat)(l:List Tm)(r:Rd)(h:r.bad=true):jA f k l r=(l,r):=by cases k with|zero=>rfl|succ k=>rw[jA,G h]
def fI(r:Rd):Cl×Rd:=let h:=cz 24 {r with vars:=[]};if(h.2.at_ [58,45]).1 then(⟨h.1,(gD (h.2.at_ [58,45]).2).1,((gD (h.2.at_ [58,45]).2).2.vars.length:Nat)⟩,(gD (h.2.at_ [58,45]).2).2)else(⟨h.1,[],(((h.2.at_ [58,45]).2.must [46]).vars.length:Nat)⟩,(h.2.at_ [58,45]).2.must [46])
section
open Classical
noncomputable def lL:Nat->List Cl->Rd->Option (List Cl)|0,l,_=>some l|k+1,l,r=>if r.space.s=[]then some l else if(fI r.space).2.bad=true\/¬(fI r.space).1.Good then none else lL k (l++[(fI r.space).1]) (fI r.space).2
def Ej:Option (List Cl)->List Cl×Int|none=>([],1)|some l=>if l.length>24 then([],3)else(l,0)
noncomputable def gF(s:Str):List Cl×Int:=if s.length>2000 then([],3)else Ej (lL (s.length+1) [] ⟨s,[],false⟩)
noncomputable def dI(s:Str):List Tm×Int×Int:=if s.length>2000 then([],0,3)else if(gD ⟨s,[],false⟩).2.bad=true\/(gD ⟨s,[],false⟩).2.space.s≠[]\/¬iJ (gD ⟨s,[],false⟩).1 ((gD ⟨s,[],false⟩).2.vars.length:Nat)then([],0,1)else((gD ⟨s,[],false⟩).1,((gD ⟨s,[],false⟩).2.vars.length:Nat),0)
end
def Rk{sg:Str}(r:Rd):(r.must sg).s.length<=r.s.length/\((r.must sg).bad=false->(r.must sg).s.length+sg.length<=r.s.length):=by
 unfold Rd.must;have h:=at_len (sg:=sg) r;split;·rename_i a;exact⟨h.1,λ_=>h.2 a⟩
 ·exact⟨h.1,λe=>by cases e⟩
def aep{f:Rd->Tm×Rd}(a:∀r,(f r).2.s.length<=r.s.length):∀(k:Nat)(l:List Tm)(r:Rd),(jA f k l r).2.s.length<=r.s.length
 |0,l,r=>zL _
 |k+1,l,r=>by
  rw[jA];have c:=a r;have b:=(at_len (sg:=[44]) (f r).2).1;split;·exact zL _
  ·split;·have :=aep a k (l++[(f r).1]) ((f r).2.at_ [44]).2;omega
   ·simp only;omega
def an1(r:Rd):(gD r).2.s.length<=r.s.length:=by unfold gD;have :=aep (Jk 24) (r.s.length+1) [] r;have :=(Rk (sg:=[46]) (jA (cz 24) (r.s.length+1) [] r).2).1;simp only;omega
def an2(r:Rd):(fI r).2.s.length<=r.s.length/\((fI r).2.bad=false->(fI r).2.s.length<r.s.length):=by
 unfold fI;simp only;have b:=Jk 24 {r with vars:=[]};generalize cz 24 {r with vars:=[]}=X at*;have e:=at_len (sg:=[58,45]) X.2;split;·rename_i c;have a:=an1 (X.2.at_ [58,45]).2;have d:=e.2 c;simp only[bn,fT]at b d ⊢;exact⟨zB,λ_=>zB⟩
 ·have a:=Rk (sg:=[46]) (X.2.at_ [58,45]).2;simp only[bn,fT]at b a ⊢;exact⟨zB,λh=>by have :=a.2 h;omega⟩
open Go.Lib
def qN(n:Nat)(c:UInt8):Nat:=n*10+(c.toNat - 48)
def fq(d:Str):Nat:=d.foldl qN 0
def yH(d:Str):Prop:=∀c∈d,mQ c=true
def Cq{c:UInt8}:mQ c=true↔48<=c.toNat/\c.toNat<=57:=by unfold mQ;simp
def an3{d:Str}(h:yH d):Mr d=(fq d:Int):=by unfold Mr fq;suffices hs:∀(d:Str)(n:Nat),yH d->d.foldl (λ(n:Int)(c:UInt8)=>10*n+((c.toNat:Int) - 48)) (n:Int)=((d.foldl qN n:Nat):Int)from hs d 0 h;intro d;induction d with|nil=>intro n _;rfl|cons c r e=>intro n h;have i:=Cq.1 (h c zh);rw[Mg,Mg,<-e (qN n c) (λx f=>h x (by simp[f]))];congr 1;unfold qN;omega
def Xe(d:Str)(c:UInt8):fq (d++[c])=fq d*10+(c.toNat - 48):=by unfold fq;rw[Wq];rfl
def Rm:∀(d:Str)(n:Nat),d.foldl qN n=n*10 ^ d.length+fq d|[],n=>by simp[fq]|c::r,n=>by unfold fq;rw[Mg,Mg,Rm r (qN n c),Rm r (qN 0 c)];unfold qN;rw[bn,Nat.pow_succ,D7,qH,oQ,Nat.mul_assoc,Nat.mul_comm 10 (10 ^ r.length)];omega
def aeq(c:UInt8)(r:Str):fq (c::r)=(c.toNat - 48)*10 ^ r.length+fq r:=by show List.foldl qN (qN 0 c) r=_;rw[Rm];unfold qN;simp
def aer:∀(d:Str),yH d->fq d<10 ^ d.length|[],_=>by simp[fq]|c::r,h=>by have e:=Cq.1 (h c zh);have b:=aer r (λx a=>h x (by simp[a]));rw[aeq,bn,Nat.pow_succ];have :(c.toNat - 48)*10 ^ r.length<=9*10 ^ r.length:=F8 _ zB;omega
def Xf{c:UInt8}{r:Str}(a:mQ c=true)(b:c≠48):10 ^ r.length<=fq (c::r):=by have a:=Cq.1 a;have d:c.toNat≠48:=λe=>b (QU.1 (by rw[e];rfl));rw[aeq];have :1*10 ^ r.length<=(c.toNat - 48)*10 ^ r.length:=F8 _ zB;omega
def aes{c:UInt8}(h:mQ c=true):UInt8.ofNat (48+(c.toNat - 48))=c:=by have a:=Cq.1 h;rw[show 48+(c.toNat - 48)=c.toNat by omega];simp
def aet{u:Nat}(h:¬u<10):decDigits u=decDigits (u/10)++[UInt8.ofNat (48+u%10)]:=by rw[decDigits,dif_neg h]
def an4:∀(n:Nat)(d:Str),d.length=n->yH d->d≠[]->(d.head?≠some 48\/d=[48])->decDigits (fq d)=d:=by
 intro n;induction n with
  |zero=>intro d i _ a;exact absurd (F5 i) a
  |succ n o=>
   intro d i b a f;obtain⟨l,c,rfl⟩:∃l c,d=l++[c]:=⟨d.dropLast,d.getLast a,(aAq a).symm⟩;have s:=Cq.1 (b c zh);rw[Xe];by_cases g:l=[];·subst g;rw[show fq []=0 from rfl,decDigits_one zB,D7,qH,aes (b c zh)];rfl
   ·obtain⟨x,r,rfl⟩:∃x r,l=x::r:=adw g;have j:x≠48:=by
     rcases f with f|f;·intro e;apply f;rw[e];rfl
     ·simp at f
    have p:=Xf (r:=r) (b x zh) j;have q:1<=10 ^ r.length:=Nat.one_le_pow _ _ zB;rw[aet zB,show(fq (x::r)*10+(c.toNat - 48))/10=fq (x::r)by omega,show(fq (x::r)*10+(c.toNat - 48))%10=c.toNat - 48 by omega,aes (b c zh)];rw[o (x::r) (by simpa using i) (λy h=>b y (by simp at h ⊢;rcases h with rfl|h<;>simp[*])) zh (.inl (by simpa using j))]
def aeu(u:Nat):yH (decDigits u)/\decDigits u≠[]/\((decDigits u).head?=some 48->u=0)/\fq (decDigits u)=u:=by
 induction u using Nat.strongRecOn with
  |_ u j=>
   have a:∀k,k<10->mQ (UInt8.ofNat (48+k))=true/\(UInt8.ofNat (48+k)).toNat=48+k:=λk p=>by
    have e:(UInt8.ofNat (48+k)).toNat=48+k:=by simp;omega
    exact⟨Cq.2 zB,e⟩
   by_cases h:u<10
   ·rw[decDigits_one h];obtain⟨f,d⟩:=a u h;refine⟨λc b=>?_,zh,λe=>?_,?_⟩;·simp only[iX]at b;subst b;exact f
    ·simp only[anm,bW]at e;have :=congrArg UInt8.toNat e;rw[d]at this;have o:(48:UInt8).toNat=48:=rfl;omega
    ·rw[show[UInt8.ofNat (48+u)]=[]++[UInt8.ofNat (48+u)]from rfl,Xe,d,show fq []=0 from rfl];omega
   ·rw[aet h];obtain⟨f,d,n,m⟩:=j (u/10) zB;obtain⟨i,g⟩:=a (u%10) zB;refine⟨λc b=>?_,zh,λe=>?_,?_⟩
    ·simp only[iw,iX]at b;rcases b with b|rfl;·exact f c b
     ·exact i
    ·have :u/10=0:=n (by obtain⟨x,r,l⟩:=adw d;rw[l]at e ⊢;simpa using e);omega
    ·rw[Xe,m,g];omega
def an5(d:Str)(n:Nat):n<=d.foldl qN n:=by rw[Rm];have :n*1<=n*10 ^ d.length:=amZ _ (Nat.one_le_pow _ _ zB);omega
def aev:∀(d:Str)(n:Nat),yH d->parseUint10 n d= .ok (d.foldl qN n)\/(parseUint10 n d= .range/\18446744073709551616<=d.foldl qN n)
 |[],n,_=> .inl rfl
 |c::r,n,h=>by
  have e:=Cq.1 (h c zh);have a:=an5 r (qN n c);rw[Mg];unfold parseUint10;rw[G e];split;·refine .inr ⟨rfl,?_⟩;unfold qN at a ⊢;omega
  ·split;·refine .inr ⟨rfl,?_⟩;unfold qN at a ⊢;omega
   ·exact aev r _ λx b=>h x (by simp[b])
def aew{d:Str}(h:yH d)(a:d≠[]):parseMag d= .ok (fq d)\/(parseMag d= .range/\18446744073709551616<=fq d):=by unfold parseMag;rw[O a];exact aev d 0 h
def an6{d:Str}(h:yH d)(a:d≠[]):atoiAll d=if 9223372036854775808<=fq d then .range else .ok (fq d:Int):=by
 obtain⟨c,r,rfl⟩:=adw a;have f:=Cq.1 (h c zh);unfold atoiAll;simp only;rw[O zB];rcases aew h a with e|⟨e,g⟩
 ·rw[e];simp only;rw[O (show ¬(c.toNat=45/\9223372036854775808<fq (c::r))fromλe=>zB)];rw[O (show ¬c.toNat=45 by omega)];by_cases b:9223372036854775808<=fq (c::r);·rw[G ⟨zB,b⟩,G b]
  ·rw[O (λe=>b e.2),O b]
 ·rw[e,G zB]
def an7{d:Str}(h:yH d)(b:d≠[]):atoiAll (45::d)=if 9223372036854775808<fq d then .range else .ok (-(fq d:Int)):=by
 unfold atoiAll;have a:(45:UInt8).toNat=45:=rfl;simp only;rw[G (.inr a)];rcases aew h b with e|⟨e,f⟩
 ·rw[e];simp only[a];by_cases c:9223372036854775808<fq d;·simp[c]
  ·simp[c]
 ·rw[e,G zB]
def El(t:Str):Option Int:=match atoiAll t with| .ok k=>if itoa k=t/\ -1099511627776<=k/\k<=1099511627776 then some k else none|_=>none
def an8{t d:Str}(j:yH d)(ht:t=d\/t=45::d):Ji t=El t:=by
 have C:∀x r,d=x::r->x≠45:=λx r e e'=>by have :=Cq.1 (j x (by rw[e];simp));rw[e']at this;have M:(45:UInt8).toNat=45:=rfl;omega
 have B:digitsOf t=d:=by
  unfold digitsOf;rcases ht with rfl|rfl;·cases t with|nil=>rfl|cons x r=>rw[O (by simpa using C x r rfl)]
  ·rfl
 have D:=aer d j;unfold Ji El;rw[B,an3 j];by_cases c:d=[];·rw[G (.inl c)];subst c;rcases ht with rfl|rfl<;>rfl
 obtain⟨x,r,l⟩:=adw c;have o:=j x (by rw[l];simp);have b:(t=d/\atoiAll t=if 9223372036854775808<=fq d then .range else .ok (fq d:Int))\/(t=45::d/\atoiAll t=if 9223372036854775808<fq d then .range else .ok (-(fq d:Int))):=by
  rcases ht with rfl|rfl;·exact .inl ⟨rfl,an6 j c⟩
  ·exact .inr ⟨rfl,an7 j c⟩
 by_cases i:d.head?=some 48/\t≠[48]
 ·rw[G (.inr (.inr i))];rcases b with⟨e,b⟩|⟨e,b⟩
  ·rw[b];split
   ·rename_i k a;split at a;·cases a
    ·simp only[NumEnd.ok.injEq]at a;subst a;rw[O];rintro⟨f, -⟩;rw[itoa_nonneg]at f;have J:=(aeu (fq d)).2.2.1 (by rw[f,e];exact i.1);rw[J]at f;exact i.2 (f.symm.trans (decDigits_one zB))
   ·rfl
  ·rw[b];split
   ·rename_i k a;split at a;·cases a
    ·simp only[NumEnd.ok.injEq]at a;subst a;rw[O];rintro⟨f, -⟩;by_cases F:fq d=0;·rw[F,e]at f;exact absurd f (by simp[itoa,decDigits_one])
     ·rw[itoa_neg _ zB,e]at f;simp only[sF,dx]at f;exact F ((aeu (fq d)).2.2.1 (by rw[f];exact i.1))
   ·rfl
 ·have hh:d.head?≠some 48\/d=[48]:=by
   by_cases u:d.head?=some 48
   ·right;have p:t=[48]:=DY λhh=>i ⟨u,hh⟩;rcases ht with rfl|e;·exact p
    ·rw[p]at e;simp at e
   ·exact .inl u
  have q:t=45::d->d.head?≠some 48:=λe u=>i ⟨u,by rw[e];simp⟩;have g:=an4 _ d rfl j c hh;by_cases m:d.length>13
  ·rw[G (.inr (.inl m))];have H:10 ^ 13<=fq d:=by
    have y:x≠48:=by
     rcases hh with h|h;·intro e;apply h;rw[l,e];rfl
     ·rw[h]at m;simp at m
    have :=Xf (r:=r) o y;rw[<-l]at this;have z:13<=r.length:=by rw[l,bn]at m;omega
    exact dm (Nat.pow_le_pow_right zB z) this
   rcases b with⟨e,b⟩|⟨e,b⟩
   ·rw[b];split
    ·rename_i k a;split at a;·cases a
     ·simp only[NumEnd.ok.injEq]at a;subst a;rw[O (λh=>by have :=h.2.2;omega)]
    ·rfl
   ·rw[b];split
    ·rename_i k a;split at a;·cases a
     ·simp only[NumEnd.ok.injEq]at a;subst a;rw[O (λh=>by have :=h.2.1;omega)]
    ·rfl
  ·rw[O (by rintro(h|h|h);exact c h;exact m h;exact i h)];have L:fq d<10000000000000:=uB D (dm (Nat.pow_le_pow_right zB (show d.length<=13 by omega)) zB);rcases b with⟨e,b⟩|⟨e,b⟩
   ·rw[b,O (show ¬9223372036854775808<=fq d by omega),G e.symm];simp only;by_cases n:(fq d:Int)>1099511627776;·rw[G n,O (λh=>by have :=h.2.2;omega)]
    ·rw[O n,G ⟨by rw[itoa_nonneg,g,e],zB,zB⟩]
   ·have s:d≠t:=λe'=>by rw[e]at e';exact absurd (congrArg List.length e') zh
    have y:x≠48:=λe'=>q e (by rw[l,e'];rfl);have A:=Xf (r:=r) o y;rw[<-l]at A;have N:1<=10 ^ r.length:=Nat.one_le_pow _ _ zB;rw[b,O (show ¬9223372036854775808<fq d by omega),O s];simp only;by_cases n:(fq d:Int)>1099511627776;·rw[G n,O (λh=>by have :=h.2.1;omega)]
    ·rw[O n,G ⟨by rw[itoa_neg _ zB,g,e],zB,zB⟩]
