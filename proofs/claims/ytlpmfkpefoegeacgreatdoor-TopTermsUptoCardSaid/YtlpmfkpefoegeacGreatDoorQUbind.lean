import Derived.Test.YtlpmfkpefoegeacGreatDoorQOwn
namespace Go.Proofs.YtlpmfkpefoegeacGreatDoor
set_option maxRecDepth 99999
set_option maxHeartbeats 0
set_option linter.all false
def dn(b:Nat)(c:Ce):Ce:=if c.kind=0 then{c with n:=c.n+b}else c
def nW(b:Nat)(l:List Ce)(j:Nat):List Ce:=l.mapIdx λi c=>if b<=i/\i<j then dn b c else c
def RG(b:Nat)(l:List Ce)(j:Nat):(nW b l j).length=l.length:=by simp[nW]
def JF(b:Nat)(l:List Ce)(j i:Nat)(h:i<(nW b l j).length):(nW b l j)[i]=if b<=i/\i<j then dn b (l[i]'(by rw[RG]at h;exact h))else l[i]'(by rw[RG]at h;exact h):=by simp[nW]
def aoM(b:Nat)(l:List Ce):nW b l b=l:=by apply oN (by simp[nW]);intro i c a;rw[JF,O zB]
def afa(b:Nat)(l:List Ce)(j:Nat)(c:b<=j)(d:j<l.length):nW b l (j+1)=(nW b l j).set j (dn b l[j]):=by
 apply oN (by simp[nW]);intro i g f;rw[JF,Ga];by_cases e:j=i;·subst e;rw[G ⟨c,zB⟩,G rfl]
 ·rw[O e,JF];by_cases a:b<=i/\i<j;·rw[G a,G ⟨a.1,zB⟩]
  ·rw[O a,O zB]
def aoN(b:Nat)(l:List Ce)(j:Nat)(d:b<=j)(c:j<l.length)(a:(l[j]).kind≠0):nW b l (j+1)=nW b l j:=by
 rw[afa b l j d c];apply oN zh;intro i g f;rw[Ga];split;·rename_i e;subst e;rw[JF,O zB,dn,O a]
 ·rfl
def aoO(l a:List Ce):nW l.length (l++a) (l++a).length=l++a.map (dn l.length):=by
 apply oN (by simp[nW]);intro i b c;rw[JF];by_cases e:l.length<=i;·rw[G ⟨e,by simpa[nW]using b⟩,Ja e,Ja e,QT]
 ·rw[O zB,F7 zB,F7 zB]
open Classical in noncomputable def gV(h:Hp)(a:List Ce):Hp×Int×Int:=if ¬(h.Good/\Hp.Good ⟨a,[]⟩)then(h,0,1)else if 65536<h.cells.length+a.length then(h,0,3)else(⟨h.cells++a.map (dn h.cells.length),h.trail⟩,h.cells.length,0)
open Go.RowKit
def XE{α:Type}(f:α->List Value)(ok:α->Prop)(E:TypeId)(a:Nat)(base:Nat)(l:List α)(r:Value)(w':World):Prop:=I f ok E a w' base l r
def RH(l:List Ce)(A:Nat->Prop)(w:World)(v:Value)(f:ag 3 Ce.rep A w l v):Calls Tryz.prog 60 #[v] w (Pure w (XE Ce.vals Ce.Ok 112 3 w l)):=by
 obtain⟨a,j,b,D,rfl,F,H,G,i,u⟩:=f.at;have C:=Y f;clear f u;have M:∀(w:World)(a:Option Addr)(n c:Nat),(binOp .eql 56 (.slice a n c) (.slice none 0 0)).run Tryz.prog w= .ok (.bool a.isNone) w:=λw a n c=>Lib.run_eql_slice_nil w _ _ a n c _ _ Tryz.underlying56;cases a with
  |none=>
   have z:l=[]:=by cases l with|nil=>rfl|cons x r=>have :=(i zh).1;cases this
   subst z;go_enter Tryz.func60,Tryz.ntmps60;go_wp2_with fail;go_ret;exact⟨_,rfl,Z _ _,I.nil⟩
  |some p=>have O:=Y i;clear i;have t:Hd (∀m,Below w w m->∀g,w.heap.size<=g->ag 3 Ce.rep (λb=>True/\ownB (.slice (some ⟨g,0,none⟩) 0 0)≠some b) m l (.slice (some p) l.length j)):=λw' y g N=>ag.mono Ce.ae zB (ag.keeps Ce.ae C (J.ob y)) (λb _ _=>⟨trivial,by simp[ownB]⟩);go_enter Tryz.func60,Tryz.ntmps60;go_wp2_with(at_builtin;refine Xj rfl (.tmp 5) (.tmp 6) 56 rfl w 112 3 32 Eo Ce.ae (A:=λ_=>True) (.slice (some ⟨w,0,none⟩) 0 0) [] rfl ((I.gT Ce.lM (ok:=Ce.Ok) (l:=[]) ⟨⟨by simp,.inl ⟨rfl,_,rfl⟩⟩,fun x h=>by simp at h⟩ _)) _ rfl l (t.o _ ((Z _ _).alloc (zL _) _) _ (zL _)) (by simp;omega) (by simp) ?_;intro L K d B);go_ret;exact⟨_,rfl,B.below ((Z _ _).alloc (zL _) _) (by simp) (fun k h=>by simp[ownB]at h),I.fJ d⟩
def XF(l:List Int)(A:Nat->Prop)(w:World)(v:Value)(f:ag 1 sM A w l v):Calls Tryz.prog 132 #[v] w (Pure w (XE Ci ah 3 1 w l)):=by
 obtain⟨a,j,b,D,rfl,F,H,G,i,u⟩:=f.at;have C:=Y f;clear f u;have M:∀(w:World)(a:Option Addr)(n c:Nat),(binOp .eql 57 (.slice a n c) (.slice none 0 0)).run Tryz.prog w= .ok (.bool a.isNone) w:=λw a n c=>Lib.run_eql_slice_nil w _ _ a n c _ _ Tryz.underlying57;cases a with
  |none=>
   have z:l=[]:=by cases l with|nil=>rfl|cons x r=>have :=(i zh).1;cases this
   subst z;go_enter Tryz.func132,Tryz.ntmps132;go_wp2_with fail;go_ret;exact⟨_,rfl,Z _ _,I.nil⟩
  |some p=>have O:=Y i;clear i;have t:Hd (∀m,Below w w m->∀g,w.heap.size<=g->ag 1 sM (λb=>True/\ownB (.slice (some ⟨g,0,none⟩) 0 0)≠some b) m l (.slice (some p) l.length j)):=λw' y g N=>ag.mono aN zB (ag.keeps aN C (J.ob y)) (λb _ _=>⟨trivial,by simp[ownB]⟩);go_enter Tryz.func132,Tryz.ntmps132;go_wp2_with(at_builtin;refine Xj rfl (.tmp 5) (.tmp 6) 57 rfl w 3 1 8 kC aN (A:=λ_=>True) (.slice (some ⟨w,0,none⟩) 0 0) [] rfl ((I.gT eu (ok:=ah) (l:=[]) ⟨⟨by simp,.inl ⟨rfl,_,rfl⟩⟩,fun x h=>by simp at h⟩ _)) _ rfl l (t.o _ ((Z _ _).alloc (zL _) _) _ (zL _)) (by simp;omega) (by simp) ?_;intro L K d B);go_ret;exact⟨_,rfl,B.below ((Z _ _).alloc (zL _) _) (by simp) (fun k h=>by simp[ownB]at h),I.fJ d⟩
def JG(A:Nat->Prop)(x:Hp×Int×Int)(r:Value)(w':World):Prop:=∃a,r= .tuple #[.agg a.toArray,↑x.2.1,↑x.2.2]/\Hp.rep A w' x.1 a
def Hp.aoP{A:Nat->Prop}{w:World}{a:List Ce}{v:Value}(b:sN A w a v):Hp.rep A w ⟨a,[]⟩ [v,.slice none 0 0]:=⟨v,_,rfl,b,ag.nil ..⟩
def Pure.mk{w w':World}{R:Value->World->Prop}{v:Value}(b:Below w w w')(a:R v w'):Pure w R (.returned v) w':=⟨v,rfl,b,a⟩
def dL{w:World}{g:Nat}{E:TypeId}{v0 v1:Value}(h:w.heap[g]?=some (.cells #[v0,v1] E (0,0))):w.cell? (g,0)=some v0/\w.cell? (g,1)=some v1/\∀o,w.frozen? ⟨g,o,none⟩=false:=⟨(bY h 0).trans rfl,(bY h 1).trans rfl,λo=>by simp[World.frozen?,h]⟩
def JG.old{A:Nat->Prop}{w w':World}{h:Hp}{vs:List Value}{n e:Int}(a:Hp.rep A w h vs)(c:Below w w w'):JG (λb=>A b\/New w b) (h,n,e) (.tuple #[.agg vs.toArray,↑n,↑e]) w':=⟨vs,rfl,Hp.rep.mono (Hp.rep.keeps a (J.ob c)) (λ_ _ h=> .inl h)⟩
def az.kG{α:Type}{w:World}{base:Nat}{E:TypeId}{b:Nat}{R:(Nat->Prop)->World->α->List Value->Prop}{A:Nat->Prop}{xs:List α}{v:Value}(h:az w base E b R A xs v):∃a cap,v= .slice a xs.length cap/\xs.length<=cap/\cap<=maxLen:=by
 obtain⟨e,k,f,m⟩:=h;rcases f.2 with⟨i,a,rfl⟩|⟨g,cap,j,rfl,n,o,l,c,d,_⟩;·exact⟨a,0,by rw[i],zB,by simp[maxLen]⟩
 ·exact⟨_,cap,rfl,c,d⟩
def jM.kG{w:World}{base:Nat}{l:List Ce}{v:Value}(h:jM w base l v):∃a cap,v= .slice a l.length cap/\l.length<=cap/\cap<=maxLen:=I.val h
def aoQ(w:World)(base:Nat)(c b:Obj)(l:List Ce)(v:Value)(a:World):Prop:=Below w w a/\a.heap[w.heap.size]?=some c/\a.heap[w.heap.size+1]?=some b/\jM a base l v
def sN.aoR{w:World}{base:Nat}{l:List Ce}{v:Value}{A:Nat->Prop}(h:jM w base l v)(a:l.length<=1048576)(c:∀b,ownB v=some b->A b):sN A w l v:=I.sl Ce.lM Ce.Cr h a c
def XG(h:Hp)(d:List Ce)(A:Nat->Prop)(w:World)(vs:List Value)(v:Value)(hh:Hp.rep A w h vs)(hv:sN A w d v):Calls Tryz.prog 33 #[.agg vs.toArray,v] w (Pure w (JG (λb=>A b\/New w b) (gV h d))):=by
 obtain⟨a,m,b,K,rfl,hc1,hc2,hc3,ht1,ht2,ht3,T,Q⟩:=Hp.nS hh;obtain⟨a',cap',b',off',rfl,aAC,hcm',aAD, -, -⟩:=hv.at;have HH:=Y hh;have HC:=Y T;have HV:=Y hv;have kH:=Y (λw'(l:J A w w')=>Eh h A w' _ (Hp.rep.keeps hh l));have HG2:=Y (λw'(l:J A w w')=>Eh ⟨d,[]⟩ A w' _ (Hp.rep.keeps (Hp.aoP hv) l));have HTR:=Y Q;clear hh hv T Q;go_enter Tryz.func33,Tryz.ntmps33;go_wp2_with fail;refine(kH _ ((J.alloc _ _ _).trans (J.alloc _ _ _))).mono ?_;rintro e w1⟨v,rfl,B,t,rfl,Q⟩;have h2:=mi w (.cells #[.slice a h.cells.length m,.slice b h.trail.length K] 59) (.cells #[.slice none 0 0,.slice none 0 0] 59);have bK:=Y (aA h2.1 B);have bu:=Y (aA h2.2 B);have HB:=Y (show Below w w w1 from iO (iO (B.mono zh)));have hz:w.heap.size+1<w1:=by have :=B.size;simp at this;omega
 have hz':w.heap.size<w1.heap.size:=by omega
 have HT:=Y Q;have P:=bF;clear h2 B Q;obtain⟨F,E,xf⟩:=dL bK;obtain⟨D,C,Z⟩:=dL bu;cases t with
  |false=>
   go_wp2_with fail;refine bX (v:= .tuple #[.agg #[.slice a h.cells.length m,.slice b h.trail.length K],.int .i64 0,.int .i64 1]) (by simp[results,Tryz.results33,go_sem,P,F,E,D,C]) rfl ?_;have hg:¬(h.Good/\Hp.Good ⟨d,[]⟩):=λhg=>by have :=HT.o.2 hg.1;cases this
   have r:Below w w ((w1.setCell ⟨w.heap.size+1,0,none⟩ (.slice a h.cells.length m)).setCell ⟨w.heap.size+1,1,none⟩ (.slice b h.trail.length K)):=bE (bE HB (by simp) _) (by simp) _;rw[gV,G hg];exact Pure.mk r (JG.old HH r)
  |true=>
   have HT1:=Y (HT.o.1 rfl);clear HT;go_wp2_with fail;refine(HG2 _ (J.ob HB)).mono ?_;rintro e L⟨v,rfl,z,t,rfl,Q⟩;have afb:=Y (aA bK z);have afc:=Y (aA bu z);have RI:=Y (show Below w w L from HB.o.trans (z.mono zB));have hz2:w.heap.size+1<L:=by have :=z.size;omega
   have hz2':w.heap.size<L.heap.size:=by omega
   have HT':=Y Q;clear Q F E xf D C Z z;obtain⟨F,E,xf⟩:=dL afb;obtain⟨D,C,Z⟩:=dL afc;cases t with
    |false=>
     go_wp2_with fail;refine bX (v:= .tuple #[.agg #[.slice a h.cells.length m,.slice b h.trail.length K],.int .i64 0,.int .i64 1]) (by simp[results,Tryz.results33,go_sem,P,F,E,D,C]) rfl ?_;have hg:¬(h.Good/\Hp.Good ⟨d,[]⟩):=λhg=>by have :=HT'.o.2 hg.2;cases this
     have r:Below w w ((L.setCell ⟨w.heap.size+1,0,none⟩ (.slice a h.cells.length m)).setCell ⟨w.heap.size+1,1,none⟩ (.slice b h.trail.length K)):=bE (bE RI (by simp) _) (by simp) _;rw[gV,G hg];exact Pure.mk r (JG.old HH r)
    |true=>
     have hg:h.Good/\Hp.Good ⟨d,[]⟩:=⟨HT1,HT'.o.1 rfl⟩;have HG:=Y hg;have hl1:h.cells.length<=65536:=hg.1.2.2.1;have hl2:d.length<=65536:=hg.2.2.2.1;clear hg;by_cases S:65536<h.cells.length+d.length
     ·have X:(65536:Int)<h.cells.length+d.length:=zB;go_wp2_with fail;refine bX (v:= .tuple #[.agg #[.slice a h.cells.length m,.slice b h.trail.length K],.int .i64 0,.int .i64 3]) (by simp[results,Tryz.results33,go_sem,P,F,E,D,C]) rfl ?_;have r:Below w w ((L.setCell ⟨w.heap.size+1,0,none⟩ (.slice a h.cells.length m)).setCell ⟨w.heap.size+1,1,none⟩ (.slice b h.trail.length K)):=bE (bE RI (by simp) _) (by simp) _;rw[gV,O (dY HG.o),G S];exact Pure.mk r (JG.old HH r)
     ·have X:(h.cells.length:Int)+d.length<=65536:=zB;go_wp2_with fail;refine(RH h.cells A _ _ (ag.keeps Ce.ae HC (J.ob RI))).mono ?_;rintro e w3⟨v,rfl,y,f⟩;obtain⟨ca,cc,rfl,hcl,hcm⟩:=jM.kG f;have afe:=Y (aA afb y);have aff:=Y (aA afc y);have afg:=Y (show Below w w w3 from RI.o.trans (y.mono zB));have hz3:L.heap.size<=w3.heap.size:=y.size;have HO:=Y (I.gT Ce.lM f (λ_=>True));have nX:Hd (sN (λb=>True/\ownB (.slice ca h.cells.length cc)≠some b) w3 d (.slice a' d.length cap')):=by have h1:=ag.mono (A':=λb=>A b/\b<w) Ce.ae zB HV (λb r h=>⟨h,r⟩);exact ag.mono Ce.ae zB (ag.keeps Ce.ae h1 (J.ob afg)) (λb _ r=>⟨trivial,λe=>by have :=(I.lt f b e).1;omega⟩)
      clear f y F E xf D C Z;obtain⟨F,E,xf⟩:=dL afe;obtain⟨D,C,Z⟩:=dL aff;go_wp2_with(at_builtin;refine Xj rfl (.tmp 31) (.tmp 32) 56 rfl L 112 3 32 Eo Ce.ae (A:=λ_=>True) (.slice ca h.cells.length cc) h.cells rfl HO _ rfl d nX zB hz3 ?_;intro v2 w4 f aj;obtain⟨va,vc,hv2,hvl,qg⟩:=az.kG f;rw[bB]at hv2 hvl;subst hv2;have iR:=Y (I.fJ f);have RJ:=Y aj;have lQ:=aj.size;clear f aj);have hbb:h.cells.length<=(h.cells++d).length:=zh;have Nf:=Y HG.o.2.1;have s:=Y (show(h.cells++d).length=h.cells.length+d.length from bB);have hN:(h.cells++d).length<=65536:=by rw[s.o];omega
      have afh:Below w w w4:=RJ.o.below afg zB (λk l=>by have :=(I.lt (I.fJ HO) k l).1;omega);have p:∀k,k<L.heap.size->w4.heap[k]?=w3.heap[k]?:=λk l=>RJ.o.grown.block k (by omega) (λe=>by have :=(I.lt (I.fJ HO) k e.symm).1;omega);have Cz:=Y ((p _ hz2').trans afe);have XH:=Y ((p _ hz2).trans aff);have aoT:=Y afh;clear afh p F E xf D C Z;go_loopw[9](λi wr=>∃j:Nat,h.cells.length<=j/\j<=h.cells.length+d.length/\i= ↑j/\aoQ w L (.cells #[.slice a h.cells.length m,.slice b h.trail.length K] 59) (.cells #[.slice none 0 0,.slice none 0 0] 59) (nW h.cells.length (h.cells++d) j) (.slice va (h.cells.length+d.length) vc) wr)(λi _=>h.cells.length+d.length - (intOf i).toNat);case atStart=>exact⟨h.cells.length,zL _,zB,rfl,aoT,Cz,XH,by rw[aoM];exact iR⟩
      case round=>
       obtain⟨j,W,hj,rfl,R⟩:=hrel;have M:=Y R;obtain⟨N,hi1,hi2,yN⟩:=R;have hsz5:w.heap.size+1<wr:=ax hi2;clear N hi1 hi2;by_cases hlt:j<h.cells.length+d.length
       ·have V:j<(h.cells++d).length:=by rw[s.o];exact hlt
        have U:(nW h.cells.length (h.cells++d) j).length=h.cells.length+d.length:=by rw[RG,s.o]
        obtain⟨g,gc,CB,aAE,XI,aoU,cO,hfz,hgl,hgb,q⟩:=I.at Ce.lM yN zB;rw[U]at CB;simp only[cK,dx]at CB;obtain⟨rfl,rfl⟩:=CB;have hjl:j<(nW h.cells.length (h.cells++d) j).length:=by rw[RG];exact V
        obtain⟨c,T⟩:∃c,c=(h.cells++d)[j]:=⟨_,rfl⟩;have x:(nW h.cells.length (h.cells++d) j)[j]'hjl=c:=by rw[JF,O zB,T]
        have c0:=q j hjl 0 ↑c.kind (by rw[x];rfl);have c1:=q j hjl 1 ↑c.n (by rw[x];rfl);simp only[rD]at c0;have hbj:j - h.cells.length<d.length:=zB;have hcb:c=d[j - h.cells.length]:=T.trans (Ja W);have u:=Nf (j - h.cells.length) hbj;simp only at u;rw[<-hcb]at u;have afi:c.Ok:=yN.2 c (by rw[<-x];exact bN _);have sV:=Y T;clear T;have jO:=Y afi;have Ng:=Y x;have nX:=Y U;have kU:=Y cO;have GK:=Y yN;clear q hcb x afi U cO yN;have aAF:(0:Int)<=(j:Int):=zN _;have aAG:(j:Int)<(h.cells.length:Int)+d.length:=zB;by_cases l:c.kind=0
        ·have hn:0<=c.n/\c.n<65536:=by unfold Ce.fU at u;omega
         obtain⟨hn0,hn1⟩:=hn;have HK:=Y l;rw[l]at c0;clear l u;go_wp2_with fail;go_roundw;case rel=>
          refine⟨j+1,zB,zB,zd,bE M.o.1 (by simp only;omega) _,?_,?_,?_⟩;·rw[aW _ _ _ _ (by simp;omega)];exact M.o.2.1
          ·rw[aW _ _ _ _ (by simp;omega)];exact M.o.2.2.1
          ·rw[afa _ _ _ W V,<-sV.o];refine I.set Ce.lM GK kU (by rw[nX.o];exact hlt) zB ?_ ?_;·rw[Ng.o,dn,G HK.o];rfl
           ·rw[dn,G HK.o];obtain⟨o1,o2,o3⟩:=jO;exact⟨o1,by unfold ah;simp only;omega,o3⟩
         case measure=>simp[intOf];omega
        ·have hk':(c.kind==0)=false:=by simpa using l
         have HK:=Y l;clear l u;go_wp2_with fail;go_roundw;case rel=>refine⟨j+1,zB,zB,zd,M.o.1,M.o.2.1,M.o.2.2.1,?_⟩;rw[aoN _ _ _ W V (by rw[<-sV.o];exact HK.o)];exact GK
         case measure=>simp[intOf];omega
       ·have bZ:j=h.cells.length+d.length:=zB;have HJE:=Y bZ;have N:=M.o.2.1;have hic:=M.o.2.2.1;obtain⟨F,E,xf⟩:=dL N;obtain⟨D,C,Z⟩:=dL hic;have GK:=Y yN;clear N hic bZ yN;go_wp2_with fail;refine bX (v:= .tuple #[.agg #[.slice va (h.cells.length+d.length) vc,.slice b h.trail.length K],↑h.cells.length,.int .i64 0]) (by simp[results,Tryz.results33,go_sem,P,F,E,D,C]) rfl ?_;have r:Below w w ((wr.setCell ⟨w.heap.size+1,0,none⟩ (.slice va (h.cells.length+d.length) vc)).setCell ⟨w.heap.size+1,1,none⟩ (.slice b h.trail.length K)):=bE (bE M.o.1 (by simp) _) (by simp) _;rw[gV,O (dY HG.o),O S];refine Pure.mk r ⟨_,rfl,_,_,rfl,?_,?_⟩
        ·have h6:=GK;rw[HJE.o]at h6;rw[show nW h.cells.length (h.cells++d) (h.cells.length+d.length)=h.cells++d.map (dn h.cells.length)from by rw[<-s.o];exact aoO _ _]at h6;refine sN.aoR (I.kept h6 λk l=>?_) (by simp;omega) (λk l=>?_);·have :=(h6.lt k l).1;rw[aW _ _ _ _ (by simp;omega),aW _ _ _ _ (by simp;omega)]
         ·have :=(h6.lt k l).1;exact .inr (by unfold New;omega)
        ·exact ag.mono aN zB (ag.keeps aN HTR (J.ob r)) (λ_ _ h=> .inl h)
def Nh(n:Int)(r:Value)(_:World):Prop:=r= ↑n
def aoW{A:Nat->Prop}{w:World}{h:Hp}{vs:List Value}(q:Hp.rep A w h vs):∃a cap b f d g c i,vs=[.slice a h.cells.length cap,.slice b h.trail.length f]/\h.cells.length<=cap/\cap<=maxLen/\h.cells.length<=1048576/\h.trail.length<=f/\f<=maxLen/\h.trail.length<=1048576/\Hd (0<h.cells.length->a=some ⟨d,g,none⟩/\A d)/\Hd (nE A w 3 Ce.rep h.cells d g)/\Hd (0<h.trail.length->b=some ⟨c,i,none⟩/\A c)/\Hd (nE A w 1 sM h.trail c i):=by obtain⟨a,cap,b,f,rfl,o,n,m,l,k,j,t,p⟩:=Hp.nS q;obtain⟨_,_,d,g,e, -, -, -,v,s⟩:=t.at;simp only[cK,dx]at e;obtain⟨rfl,rfl⟩:=e;obtain⟨_,_,c,i,e, -, -, -,u,r⟩:=p.at;simp only[cK,dx]at e;obtain⟨rfl,rfl⟩:=e;exact⟨a,cap,b,f,d,g,c,i,rfl,o,n,m,l,k,j,Y v,Y s,Y u,Y r⟩
def aoX(l:List Ce)(b:Int)(i:Nat)(a:Int):Prop:=qK l (l.length+1 - i) a=look l b/\ah a
def look_ok(h:Hp)(a:Int)(K:ah a)(A:Nat->Prop)(w:World)(vs:List Value)(I:Hp.rep A w h vs):Calls Tryz.prog 131 #[.agg vs.toArray,↑a] w (Pure w (Nh (look h.cells a))):=by
 obtain⟨H,y,P,X,T,rJ,tb,Gs,rfl,hc1,hc2,hc3,ht1,ht2,ht3,HA,HE,Ju,xm⟩:=aoW I;have HI:=Y K;clear I K;go_enter Tryz.func131,Tryz.ntmps131;go_wp2_with fail;go_loopw[1,10](λx i wr=>∃(j:Nat)(b:Int),j<=h.cells.length+1/\i= ↑j/\x= ↑b/\Below (w+1) (w.alloc (.cells #[.slice H h.cells.length y,.slice P h.trail.length X] 59)) wr/\aoX h.cells a j b)(λ_ i _=>h.cells.length+1 - (intOf i).toNat);case atStart=>exact⟨0,a,dA _,rfl,rfl,Z _ _,rfl,HI⟩
 case round=>
  obtain⟨j,b,hj,rfl,rfl,z,k⟩:=hrel;have p:=Y z;have B:=Y k.1;have q:=z.size;simp only[bO]at q;have hz':w.heap.size<wr.heap.size:=q;have f0:wr.cell? ⟨w.heap.size,0,none⟩=some (.slice H h.cells.length y):=by rw[z.cell (by simp)];simp
  have hbi:=k.2;clear z k;by_cases hlt:j<h.cells.length+1
  ·have N:(j:Int)<(h.cells.length:Int)+1:=zB;have E:=Y (show h.cells.length+1 - j=(h.cells.length - j)+1 by omega);by_cases f:Inb h.cells b
   ·obtain⟨v,rfl,R,u⟩:=pX f;have C:=Y u;obtain⟨rfl,W⟩:=HA zB;have t:J A w wr:=(J.alloc _ _ _).trans (J.ob (p.o.mono zh));obtain⟨D,U,c2,i0,Q,i2⟩:=yG HE W t R;have hlb:T<wr:=iW wr _ D;have hv0:(0:Int)<=(v:Int):=zN _;have hv1:(v:Int)<(h.cells.length:Int):=zB;have L:=Y f;clear t u f;by_cases d:Stop h.cells (v:Int)
    ·have c:look h.cells a=(v:Int):=by have :=B;rw[E.o,qK,O (dY L.o),G d]at this;exact this.symm
     have m:=Y c;unfold Stop at d;rw[C.o]at d;have F:=Y d;clear c d;by_cases g:h.cells[v].kind=0;·have r:h.cells[v].n=v:=F.o.resolve_left (dY g);rw[g]at D;rw[r]at U;clear g r;go_wp2_with fail;go_ret;exact⟨_,rfl,iO ((p.o.alloc q _).mono zh),by unfold Nh;rw[m.o];rfl⟩
     ·have hk':(h.cells[v].kind != 0)=true:=by simpa using g
      clear g;go_wp2_with fail;go_ret;exact⟨_,rfl,iO ((p.o.alloc q _).mono zh),by unfold Nh;rw[m.o];rfl⟩
    ·have s:qK h.cells (h.cells.length - j) h.cells[v].n=look h.cells a:=by have :=B;rw[E.o,qK,O (dY L.o),O d,C.o]at this;exact this
     have S:=Y s;unfold Stop at d;rw[C.o]at d;have g:h.cells[v].kind=0:=anc.1 λe=>d (.inl e);have r:¬h.cells[v].n=v:=λe=>d (.inr e);have hn':(h.cells[v].n==(v:Int))=false:=by simpa using r
     rw[g]at D;clear d g r s;go_wp2_with fail;go_roundw;case rel=>refine⟨j+1,h.cells[v].n,zB,zd,rfl,p.o.alloc q _,?_,Q⟩;rw[show h.cells.length+1 - (j+1)=h.cells.length - j by omega];exact S
     case measure=>simp[intOf];omega
   ·have c:look h.cells a= -1:=by have :=B;rw[E.o,qK,G f]at this;exact this.symm
    have m:=Y c;unfold Inb at f;clear c;go_wp2_with fail;all_goals first|(exfalso;omega)|(go_ret;exact⟨_,rfl,iO (p.o.mono zh),by unfold Nh;rw[m.o];rfl⟩)|go_ways
  ·have c:look h.cells a= -1:=by have :=B;rw[show h.cells.length+1 - j=0 by omega,qK]at this;exact this.symm
   have m:=Y c;clear c;have V:j=h.cells.length+1:=zB;subst V;go_wp2_with fail;go_ret;exact⟨_,rfl,iO (p.o.mono zh),by unfold Nh;rw[m.o];rfl⟩
def aG(u:Value):Value->World->Prop:=λv _=>v=u
def Ni(base:Nat)(l:List Ce):Value->World->Prop:=λv w=>jM w base l v
def sZ(base:Nat)(l:List Int):Value->World->Prop:=λv w=>dC w base l v
def vQ(R:Value->World->Prop):Prop:=∀v w a,R v w->Below w w a->R v a
def AJ(u:Value):vQ (aG u):=λ_ _ _ h _=>h
def GL(base:Nat)(l:List Ce):vQ (Ni base l):=λv w b h a=>I.below h a
def Ew(base:Nat)(l:List Int):vQ (sZ base l):=λv w b h a=>I.below h a
def posts(a:List (Value->World->Prop))(i:Nat):Value->World->Prop:=a.getD i λ_ _=>True
def AL{a:List (Value->World->Prop)}(h:∀R∈a,vQ R)(i:Nat)(v:Value)(w w':World)(c:posts a i v w)(d:Below w w w'):posts a i v w':=by
 unfold posts at*;by_cases b:i<a.length
 ·have e:a.getD i (λ_ _=>True)=a[i]:=by simp[List.getD,b]
  rw[e]at c ⊢;exact h _ (bN b) v w w' c d
 ·simp[List.getD,b]
def tC{α β:Type}{f:α->List Value}{ok:α->Prop}{B:β->List Value}{o:β->Prop}{E s:TypeId}{b e base base':Nat}{w:World}{l:List α}{t:List β}{v r:Value}(y:E≠s)(h:I f ok E b w base l v)(A:I B o s e w base' t r):∀k,ownB v=some k->ownB r≠some k:=by
 intro k i p;have j:∀{α:Type}{f:α->List Value}{ok:α->Prop}{E:TypeId}{b base:Nat}{l:List α}{v:Value},I f ok E b w base l v->ownB v=some k->∃c,w.heap[k]?=some (.cells c E (0,0)):=by
  intro α f ok E b base l v h i;rcases h.1.2 with⟨_,a,rfl⟩|⟨g,C,q,rfl,x,D,u,_⟩;·cases a<;>simp[ownB]at i
  ·simp only[ownB,BZ.1 x,if_false,bW]at i;subst i;exact⟨q,u⟩
 obtain⟨c,z⟩:=j h i;obtain⟨F,n⟩:=j A p;rw[z]at n;simp only[bW,Obj.cells.injEq]at n;exact y n.2.1
def aoY(w:World)(base:Nat)(h:Hp)(vs:List Value):Prop:=∃c t,vs=[c,t]/\jM w base h.cells c/\dC w base h.trail t
def XJ(base:Nat)(h:Hp):Value->World->Prop:=λv w=>∃a,v= .agg a.toArray/\aoY w base h a
def aoZ(base:Nat)(h:Hp):vQ (XJ base h):=λv w i⟨b,e,c,t,g,f,d⟩a=>⟨b,e,c,t,g,I.below f a,I.below d a⟩
def I.eG{α:Type}{f:α->List Value}{ok:α->Prop}{E i:TypeId}{b base:Nat}{w:World}{l:List α}{v:Value}{g:Nat}{c:Array Value}{n:Nat×Nat}(h:I f ok E b w base l v)(e:w.heap[g]?=some (.cells c i n))(m:E≠i):ownB v≠some g:=by
 intro d;rcases h.1.2 with⟨_,a,rfl⟩|⟨r,q,p,rfl,k,o,j,_⟩;·cases a<;>simp[ownB]at d
 ·simp only[ownB,BZ.1 k,if_false,bW]at d;subst d;rw[j]at e;simp only[bW,Obj.cells.injEq]at e;exact m e.2.1
def gG{w:World}{g:Nat}{E:TypeId}{v0 v1 v2:Value}(h:w.heap[g]?=some (.cells #[v0,v1,v2] E (0,0))):w.cell? (g,0)=some v0/\w.cell? (g,1)=some v1/\w.cell? (g,2)=some v2/\∀o,w.frozen? ⟨g,o,none⟩=false:=⟨(bY h 0).trans rfl,(bY h 1).trans rfl,(bY h 2).trans rfl,λo=>by simp[World.frozen?,h]⟩
def kV(g base:Nat)(cv tv:Value)(l:List Ce)(t:List Int)(k:Int)(w:World):Prop:=w.heap[g]?=some (.cells #[cv,tv,↑k] 191 (0,0))/\jM w base l cv/\dC w base t tv/\base<=g/\l.length<=65536/\(t.length:Int)+k<=70000/\ -1<=k/\k<=400
section
variable {g base : Nat} {cv tv : Value} {l : List Ce} {t : List Int} {k : Int} {w : World}
def kV.lt(h:kV g base cv tv l t k w):g<w/\base<=g/\base<=w:=by obtain⟨a,_,_,b,_⟩:=h;have :=ax a;omega
def kV.keeps{w':World}(h:kV g base cv tv l t k w)(a:w'.heap[g]?=w.heap[g]?)(c:∀b,ownB cv=some b->w'.heap[b]?=w.heap[b]?)(ht:∀b,ownB tv=some b->w'.heap[b]?=w.heap[b]?):kV g base cv tv l t k w':=by obtain⟨i,f,e,d⟩:=h;exact⟨a.trans i,f.kept c,e.kept ht,d⟩
def kV.below{w':World}(h:kV g base cv tv l t k w)(a:Below w w w'):kV g base cv tv l t k w':=h.keeps (a.block _ h.lt.1) (λb e=>a.block _ (h.2.1.lt b e).2) (λb e=>a.block _ (h.2.2.1.lt b e).2)
def kV.vals(h:kV g base cv tv l t k w):∃ca cc b a,cv= .slice ca l.length cc/\tv= .slice b t.length a/\l.length<=cc/\cc<=maxLen/\t.length<=a/\a<=maxLen:=by obtain⟨n,d,c,m⟩:=h;obtain⟨ca,cc,rfl,j,i⟩:=I.val d;obtain⟨b,a,rfl,f,e⟩:=I.val c;exact⟨ca,cc,b,a,rfl,rfl,j,i,f,e⟩
def kV.rep(h:kV g base cv tv l t k w):Hp.rep (λ_=>True) w ⟨l,t⟩ [cv,tv]:=by obtain⟨j,b,a,i,f,e,d,c⟩:=h;exact⟨cv,tv,rfl,I.sl Ce.lM Ce.Cr b zB (λ_ _=>trivial),I.sl eu Az a zB (λ_ _=>trivial)⟩
def kV.turn{k':Int}(h:kV g base cv tv l t k w)(h1: -1<=k')(h2:k'<=k):kV g base cv tv l t k' (w.setCell (g,2) ↑k'):=by
 obtain⟨e1,e2,e3,e4,e5,e6,e7,e8⟩:=h;refine⟨(aX e1 2 _).trans rfl,e2.kept λb hb=>?_,e3.kept λb hb=>?_,e4,e5,zB,zB,zB⟩;·exact aW _ _ _ _ (λe=>I.eG e2 e1 af (hb.trans (congrArg some e)))
 ·exact aW _ _ _ _ (λe=>I.eG e3 e1 af (hb.trans (congrArg some e)))
end
def Ex(g o:Nat)(w:World)(u:Value):Ch (λb=>b=g) w (w.setCell (g,o) u):=(Ch.refl (λb=>b=g) w).setCell (p:=(g,o)) (Or.inl (show g=g from rfl)) u
def Ch.RL{w w':World}{g:Nat}(h:Ch (λb=>b=g) w w')(o:Nat)(u:Value):Ch (λb=>b=g) w (w'.setCell (g,o) u):=h.setCell (p:=(g,o)) (Or.inl (show g=g from rfl)) u
def jM.cell{w:World}{base:Nat}{l:List Ce}{ca:Option Addr}{cc:Nat}(h:jM w base l (.slice ca l.length cc)){i:Nat}(a:i<l.length):∃b,ca=some ⟨b,0,none⟩/\ownB (.slice ca l.length cc)=some b/\w.cell? (b,i*3)=some ↑l[i].kind/\w.cell? (b,i*3+1)=some ↑l[i].n/\w.cell? (b,i*3+2)=some (.string l[i].s)/\l[i].Ok/\(∀o,w.frozen? ⟨b,o,none⟩=false)/\b<w/\base<=b:=by obtain⟨b,k,e,q,p,m,j,g,f,d,c⟩:=I.at Ce.lM h zB;simp only[cK,dx]at e;obtain⟨rfl,rfl⟩:=e;exact⟨b,rfl,j,c i a 0 _ rfl,c i a 1 _ rfl,c i a 2 _ rfl,h.2 _ (bN a),g,f,d⟩
def Still(r:Value)(w:World)(e:Ending)(w':World):Prop:=e= .returned r/\w=w'
def AO(g base:Nat)(cv tv:Value)(l:List Ce)(t:List Int)(k:Int)(w:World)(h:kV g base cv tv l t k w)(i:Nat)(e:i<l.length):Calls Tryz.prog 154 #[.pointer (some (g,0)),↑i] w (Still (.bool (l[i].kind==0)) w):=by
 obtain⟨F,E,s,r,rfl,rfl,D,C,B,A⟩:=h.vals;obtain⟨d,c,f,z,y,x,v,u⟩:=h;obtain⟨q,p,o,n⟩:=gG d;obtain⟨b,rfl, -,I,H,G,a, -⟩:=jM.cell c e;have m:(0:Int)<=(i:Int):=zN _;have j:(i:Int)<(l.length:Int):=zB;clear d c f a;go_enter Tryz.func154,Tryz.ntmps154;go_wp2_with fail;go_ret;exact⟨rfl,rfl⟩
def ao0(g base:Nat)(cv tv:Value)(l:List Ce)(t:List Int)(w:World)(p:Bool×Int)(e:Ending)(w':World):Prop:=e= .returned (.bool p.1)/\Ch (λb=>b=g) w w'/\kV g base cv tv l t p.2 w'
def RN(g base:Nat)(cv tv:Value)(l:List Ce)(t:List Int)(v:Int)(k:Nat):Prop:=∀(a:Int)(w:World),ah a->kV g base cv tv l t k w->Calls Tryz.prog 156 #[.pointer (some (g,0)),↑v,↑a] w (ao0 g base cv tv l t w (bG l v k [a]))
def ao1(g base:Nat)(cv tv:Value)(l:List Ce)(t:List Int)(v:Int):RN g base cv tv l t v 0:=by intro a w r h;have e:=Y h;obtain⟨F,E,q,p,rfl,rfl,D,C,B,A⟩:=h.vals;have f:=h.lt;obtain⟨b,d,c,z,y,x,u,s⟩:=h;obtain⟨n,m,k,j⟩:=gG b;have i:=bF;clear b d c;go_enter Tryz.func156,Tryz.ntmps156;go_wp2_with fail;go_ret;exact⟨rfl,Ex _ _ _ _,e.o.turn (k':= -1) af af⟩
theorem afj(l:List Ce)(v:Int)(w:Nat)(z:Int)(r:List Int):bG l v (w+1) (z::r)=if look l z<0 then(false, -1)else if(cellAt l (look l z)).kind=0 then(if look l z=v then(true,(w:Int))else bG l v w r)else if(cellAt l (look l z)).kind=3 then bG l v w (argsAt (look l z) (cellAt l (look l z)).n++r)else bG l v w r:=rfl
def JH(a n:Int)(j:Nat)(h:j<(argsAt a n).length):(argsAt a n)[j]=a+1+j:=by simp[argsAt]
def ao2(g base:Nat)(cv tv:Value)(l:List Ce)(t:List Int)(v:Int)(hv:ah v)(k:Nat)(hg:iH l)(ih:∀m,m<=k->RN g base cv tv l t v m):RN g base cv tv l t v (k+1):=by
 intro a w ha h;have HU:=Y h;obtain⟨ca,cc,ta,tc,rfl,rfl,e1,e2,e3,e4⟩:=h.vals;have Q:=h.lt;have mD:=Y (HU.o.turn (k':=k) zB zB);obtain⟨h1,h2,h3,h4,h5,h6,h7,h8⟩:=h;obtain⟨x0,x1,x2,xf⟩:=gG h1;have hcs:=bF;have RO:(k:Int)<=400:=zB;have HI:=Y ha;have IH:=Y ih;have HG:=Y hg;have HV:=Y hv;have hk0:(0:Int)<=(k:Int):=zN _;rw[show((k+1:Nat):Int)=(k:Int)+1 by omega]at x2;clear h1 h2 h3 h6 h7 h8 ha ih hg hv;go_enter Tryz.func156,Tryz.ntmps156;go_wp2_with fail;refine(look_ok ⟨l,t⟩ a HI (λ_=>True) _ _ mD.o.rep).mono ?_;rintro e F⟨r,rfl,C,rfl⟩;have E:=Y (mD.o.below C);have M:=Y (show Ch (λb=>b=g) w F from(Ex _ _ _ _).tb C);obtain⟨y0,y1,y2,yf⟩:=gG E.o.1;have hz2:=C.size;simp only[oL]at hz2;clear x0 x1 x2 xf C;have hge:=Rb l a;by_cases y:look l a<0
 ·have hp:bG l v (k+1) [a]=(false, -1):=by rw[afj,G y]
  have HP:=Y hp;clear hp;go_wp2_with fail;go_ret;rw[HP.o];exact⟨rfl,M.o.RL _ _,E.o.turn (k':= -1) af zB⟩
 ·obtain⟨x,hx,H,T⟩:=pX (ME (l:=l) (a:=a) zB).1;have S:bG l v (k+1) [a]=if l[x].kind=0 then(if(x:Int)=v then(true,(k:Int))else(false,(k:Int)))else if l[x].kind=3 then bG l v k (argsAt (x:Int) l[x].n)else(false,(k:Int)):=by rw[afj,O y,T,hx,Jo,sG]
  have X:=HG x H;have fD:=Y S;have HX:=Y hx;rw[hx];have hx0:(0:Int)<=(x:Int):=zN _;have hx1:(x:Int)<(l.length:Int):=zB;obtain⟨cb,rfl, -,c0,c1,c2,hok, -,V, -⟩:=jM.cell E.o.2.1 H;clear S T hx y hge;go_wp2_with fail;refine(AO _ _ _ _ _ _ _ _ E x H).mono ?_;rintro e w3⟨rfl,rfl⟩;by_cases D:l[x].kind=0
  ·rw[D]at c0 ⊢;have HK:=Y D;clear D X;by_cases q:(x:Int)=v
   ·have B:=Y (show bG l v (k+1) [a]=(true,(k:Int))by rw[fD.o,G HK.o,G q]);have hq:((x:Int)==v)=true:=by simpa using q
    clear q;go_wp2_with fail;go_ret;rw[B.out];exact⟨rfl,M,E⟩
   ·have B:=Y (show bG l v (k+1) [a]=(false,(k:Int))by rw[fD.o,G HK.o,O q]);have hq:((x:Int)==v)=false:=by simpa using q
    clear q;go_wp2_with fail;go_ret;rw[B.out];exact⟨rfl,M,E⟩
  ·have R:(l[x].kind==0)=false:=by simpa using D
   rw[R];by_cases u:l[x].kind=3
   ·have hn:1<=l[x].n/\l[x].n<=4/\(x:Int)+l[x].n<l.length:=by unfold Ce.fU at X;omega
    obtain⟨hn1,vR,hnl⟩:=hn;obtain⟨c,I⟩:=dH (show 0<=l[x].n by omega);have B:=Y (show bG l v (k+1) [a]=bG l v k (argsAt (x:Int) (c:Int))by rw[fD.o,O D,G u,I]);have W:(argsAt (x:Int) (c:Int)).length=c:=by simp[argsAt]
    rw[I]at c1 hn1 vR hnl;rw[u]at c0;have kW:=Y W;have hlb:cb<F:=V;have XK:c<=4:=zB;clear D R u X W I;go_wp2_with fail;have pq:=Y (E.o.below ((Z _ _).alloc (zL _) (.cells #[.int .i64 3,↑c,.string l[x].s] 112)));have eY:=Y (M.o.alloc (.cells #[.int .i64 3,↑c,.string l[x].s] 112));have HB3:=Y (bq F (.cells #[.int .i64 3,↑c,.string l[x].s] 112));have hne:g≠F:=zB;clear c0 c1 c2 y0 y1 y2 yf;go_loopw[8](λi wr=>∃j m:Nat,j<=c/\i= ↑((j:Int)+1)/\m<=k/\bG l v k ((argsAt (x:Int) (c:Int)).take j)=(false,(m:Int))/\kV g base (.slice (some (cb,0)) l.length cc) (.slice ta t.length tc) l t m wr/\Ch (λb=>b=g) w wr/\wr.heap[F.heap.size]?=some (.cells #[.int .i64 3,↑c,.string l[x].s] 112 (0,0)))(λi _=>c+1 - (intOf i).toNat);case atStart=>exact⟨0,k,dA _,rfl,zL _,by rw[nD,Jo],pq,eY,HB3⟩
    case round=>
     obtain⟨j,m,hj,rfl,hm,N,hu,U,K⟩:=hrel;have dD:=Y N;have nY:=Y hu;have iA:=Y U;have bL:=Y K;obtain⟨z0,z1,z2,zf⟩:=gG K;clear N hu U K;by_cases Q:j<c
     ·have J:j<(argsAt (x:Int) (c:Int)).length:=by rw[kW.o];exact Q
      have f:argsAt (x:Int) (c:Int)=(argsAt (x:Int) (c:Int)).take j++(((x:Int)+1+(j:Int))::(argsAt (x:Int) (c:Int)).drop (j+1)):=by
       conv=>lhs;rw[<-Aj j (argsAt (x:Int) (c:Int))]
       rw[QN J,JH]
      have A:(argsAt (x:Int) (c:Int)).take (j+1)=(argsAt (x:Int) (c:Int)).take j++[(x:Int)+1+j]:=by rw[iq J,JH]
      have dN:=Y (show bG l v k (argsAt (x:Int) (c:Int))=bG l v m ([(x:Int)+1+j]++(argsAt (x:Int) (c:Int)).drop (j+1))by
       conv=>lhs;rw[f]
       rw[MF,dD.o,O zh];simp);have dW:=Y (show bG l v k ((argsAt (x:Int) (c:Int)).take (j+1))=bG l v m [(x:Int)+1+j]by rw[A,MF,dD.o,O zh];simp);clear f A J;go_wp2_with fail;rw[show(x:Int)+((j:Int)+1)=(x:Int)+1+j by omega];refine(IH.out m hm ((x:Int)+1+j) wr (by unfold ah;omega) nY).mono ?_;rintro e w5⟨rfl,dw,lS⟩;have fE:=Y lS;have fF:=Y dw;have bH:=Y ((dw.block F (ax bL) (λe=>hne e.symm)).trans bL);obtain⟨q0,q1,q2,qf⟩:=gG fE.o.1;have qP:=Jp l v m [(x:Int)+1+j];have z:=MF l v m [(x:Int)+1+j] ((argsAt (x:Int) (c:Int)).drop (j+1));have mE:=MH l v m [(x:Int)+1+j];generalize bG l v m [(x:Int)+1+j]=p at*;obtain⟨pf,L⟩:=p;simp only at qP z mE q0 q1 q2;have GM:=Y z;have yO:=Y mE;clear lS dw z mE z0 z1 z2 zf;obtain⟨hp1,hp2⟩:=qP;cases pf with
       |true=>have P:0<=L:=yO rfl;have d:=Y (show bG l v (k+1) [a]=(true,L)by rw[B.out,dN.o,GM.o,G (.inl rfl)]);go_wp2_with fail;go_ret;rw[d.o];exact⟨rfl,iA.o.trans fF (λ_ h=> .inl h),fE⟩
       |false=>
        by_cases P:L<0;·have d:=Y (show bG l v (k+1) [a]=(false,L)by rw[B.out,dN.o,GM.o,G (.inr P)]);have XL:=Y (decide_eq_false (show ¬(0:Int)<=L by omega));go_wp2_with fail;go_ret;rw[d.o];exact⟨congrArg Ending.returned (congrArg Value.bool XL.out),iA.o.trans fF (λ_ h=> .inl h),fE⟩
        ·obtain⟨pm,rfl⟩:=dH (show 0<=L by omega);go_wp2_with fail;go_roundw;case rel=>exact⟨j+1,pm,zB,zd,zB,dW,fE,iA.o.trans fF (λ_ h=> .inl h),bH⟩
         case measure=>simp[intOf];omega
     ·have bZ:j=c:=zB;have d:=Y (show bG l v (k+1) [a]=(false,(m:Int))by have :=dD;rw[kg (by rw[kW.o];omega)]at this;rw[B.out,this]);clear bZ;go_wp2_with fail;go_ret;rw[d.o];exact⟨rfl,iA,nY⟩
   ·have B:=Y (show bG l v (k+1) [a]=(false,(k:Int))by rw[fD.o,O D,O u]);have Nj:(l[x].kind==3)=false:=by simpa using u
    have hlb:cb<F:=V;clear D u X;go_wp2_with fail;go_ret;rw[B.out];exact⟨rfl,M.o.alloc _,E.o.below ((Z _ _).alloc (zL _) _)⟩
def afk(g base:Nat)(cv tv:Value)(l:List Ce)(t:List Int)(v:Int)(d:ah v)(e:iH l):∀k,RN g base cv tv l t v k:=by intro k;induction k using Nat.strongRecOn with|_ k c=>cases k with|zero=>exact ao1 g base cv tv l t v|succ k=>exact ao2 g base cv tv l t v d k e λm f=>c m zB
def ao3{l:List Ce}{v:Nat}(a:Int)(h:v<l.length):fB l (v:Int) a=l.set v {l[v]with n:=a}:=by
 apply oN (by simp[fB]);intro i c b;simp only[fB,dF,Wl,Ga];by_cases e:v=i;·subst e;simp
 ·simp[e]
def UM(g:Nat)(cv tv:Value)(b:Nat):Prop:=b=g\/ownB cv=some b\/ownB tv=some b
def mU(g base:Nat)(cv tv:Value)(w:World)(l:List Ce)(t:List Int)(k:Int)(w':World):Prop:=∃a,kV g base cv a l t k w'/\Ch (UM g cv tv) w w'/\(∀b,ownB a=some b->ownB tv=some b\/w<=b)
def mU.yP{g base:Nat}{cv tv:Value}{w w':World}{l:List Ce}{t:List Int}{k:Int}(h:kV g base cv tv l t k w')(a:Ch (λb=>b=g) w w'):mU g base cv tv w l t k w':=⟨tv,h,a.mono λx _ e=> .inl e,λb h=> .inl h⟩
def mU.trans{g base:Nat}{cv tv tv':Value}{w w' c:World}{l:List Ce}{t:List Int}{k:Int}(e:Ch (UM g cv tv) w w')(ht:∀b,ownB tv'=some b->ownB tv=some b\/w<=b)(h:mU g base cv tv' w' l t k c):mU g base cv tv w l t k c:=by
 obtain⟨n,m,j,i⟩:=h;refine⟨n,m,e.trans j λx a=>?_,λb f=>?_⟩
 ·rcases a with a|a|a;·exact .inl (.inl a)
  ·exact .inl (.inr (.inl a))
  ·rcases ht x a with a|a;·exact .inl (.inr (.inr a))
   ·exact .inr a
 ·rcases i b f with d|d;·exact ht b d
  ·exact .inr (dm e.size d)
def ao4(g base:Nat)(cv tv:Value)(w:World)(l:List Ce)(t:List Int)(k:Int)(e:Ending)(w':World):Prop:=∃r,e= .returned r/\mU g base cv tv w l t k w'
def bind_ok(g base:Nat)(cv tv:Value)(l:List Ce)(t:List Int)(k:Int)(w:World)(h:kV g base cv tv l t k w)(hk:(t.length:Int)+1+k<=70000)(v:Nat)(hv:v<l.length)(a:Int)(ha:ah a):Calls Tryz.prog 155 #[.pointer (some (g,0)),↑v,↑a] w (ao4 g base cv tv w (fB l (v:Int) a) (t++[(v:Int)]) k):=by
 have HU:=Y h;obtain⟨ca,cc,ta,tc,rfl,rfl,e1,e2,e3,e4⟩:=h.vals;have hlt:=h.lt;obtain⟨h1,h2,h3,h4,h5,h6,h7,h8⟩:=h;obtain⟨x0,x1,x2,xf⟩:=gG h1;obtain⟨cb,rfl,cO,c0,c1,c2,hok,hfz,hcb,ao5⟩:=jM.cell h2 hv;have hcg:cb≠g:=λe=>I.eG h2 h1 af (cO.trans (congrArg some e));have aAH:¬g=cb:=λe=>hcg e.symm;have hcs:=bF;have hi0:(0:Int)<=(v:Int):=zN _;have hi1:(v:Int)<(l.length:Int):=zB;have HB1:=Y ((aW w (cb,v*3+1) ↑a g (λe=>hcg e.symm)).trans h1);have HT1:=Y (h3.kept (w':=w.setCell (cb,v*3+1) ↑a) λb hb=>aW _ _ _ _ (λe=>tC af h2 h3 cb cO (hb.trans (congrArg some e))));have eX:=Y (I.set (u:= ↑a) Ce.lM h2 cO hv (j:=1) zB (y:={l[v]with n:=a}) rfl ⟨hok.1,ha,hok.2.2⟩);have kU:=Y cO;have HTG:=Y (I.eG h3 h1 af);have fw:=Y (λb=>h3.lt b);clear h1 h2 h3 hok cO;go_enter Tryz.func155,Tryz.ntmps155;go_wp2_with(at_builtin;go_must(refine ja rfl (.tmp 20) (.tmp 22) 57 rfl base 3 1 8 kC aN (A:=λ_=>True) (.slice ta t.length tc) t rfl (I.gT eu HT1 _) (v:Int) [↑v] (by simp only[oL];rfl) rfl ⟨by unfold ah;omega,rfl⟩ ⟨zB,by simp;omega⟩ ?_);go_must(intro v2 w2 hown aj;obtain⟨aS,aT,hv2,kX,rO⟩:=az.kG hown;rw[show(t++[(v:Int)]).length=t.length+1 by simp]at hv2;subst hv2;have bA:=Y (I.fJ hown);have HG2:=Y aj;have hz2:=aj.size;simp only[bO,oL]at hz2;have hB2:=(aj.grown.block g (by simp;omega) (λe=>HTG e.symm)).trans (aI HB1 _);have HB2:=Y hB2;obtain⟨y0,y1,y2,yf⟩:=gG hB2;clear hown aj hB2));refine Cc (v:= .tuple #[]) (by simp[results,Tryz.results155,go_sem]) rfl ?_;have ao7:w2.heap[cb]?=(w.setCell (cb,v*3+1) ↑a).heap[cb]?:=(HG2.o.grown.block cb (by simp;omega) (λe=>tC af HU.o.2.1 HU.o.2.2.1 cb kU.o e.symm)).trans (QW _ _ _ (by simpa using hcb));have ho2:=bA.o;have mV:ownB (.slice aS (t.length+1) aT)≠some g:=I.eG (by simpa using ho2) HB2.o (by decide);refine⟨_,rfl,.slice aS (t.length+1) aT,⟨(aX HB2.o 1 _).trans rfl,?_,?_,h4,by rw[MJ];exact h5,by simp;omega,h7,h8⟩,?_,λb hb=>?_⟩;·rw[ao3 a hv];refine eX.o.kept λb hb=>?_;obtain rfl:cb=b:=zI (kU.o.symm.trans hb);rw[aW _ _ _ _ (λe=>hcg e)];exact ao7
 ·exact ho2.kept λb hb=>aW _ _ _ _ (fun e=>mV (hb.trans (congrArg some e)))
 ·refine Ch.setCell (p:=⟨g,1,none⟩) ?_ (.inl (.inl rfl)) _;refine HG2.o.ch ((Ch.setCell (p:=⟨cb,v*3+1,none⟩) (Ch.refl _ _) (.inl (.inr (.inl kU))) _).alloc _) λb hb=> .inl (.inr (.inr hb))
 ·rcases HG2.o.block with h9|h9;·exact .inl (h9.symm.trans hb)
  ·have :=h9 b hb;simp only[bO,oL]at this;exact .inr zB
