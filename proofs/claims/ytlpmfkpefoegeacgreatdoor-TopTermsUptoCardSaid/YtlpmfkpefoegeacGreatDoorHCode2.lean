import Derived.Test.YtlpmfkpefoegeacGreatDoorQMaker
import Derived.StillTailTactics
import Derived.Test.YtlpmfkpefoegeacGreatDoorQTwo
namespace Go.Proofs.YtlpmfkpefoegeacGreatDoor
set_option maxRecDepth 99999
set_option maxHeartbeats 0
set_option linter.all false
open Go.RowKit
def aV(c:List Ce)(t:Tm):List Ce:=if t.kind=3 then xI c t else dU (c++[⟨0,0,.empty⟩]) c.length t
def Yz{c:List Ce}{k:Nat}{t:Tm}(h:t.kind≠3):(dU c k t).length=c.length:=by
 obtain⟨a,n,s,l⟩:=t;simp only[Tm.kind]at h;simp only[dU,O h];repeat' split
 all_goals simp
def Sz(t:Tm)(g base:Nat)(l:List Ce)(cv:Value)(A:Nat->Prop)(w:World)(vs:List Value)(hm:qx g base l cv w)(hlen:l.length+1+2*t.nodes<=4194304)(hv:Tm.rep A w t vs)(hA:∀b,A b->b<w/\¬jF g cv b):Calls Tryz.prog 58 #[.pointer (some (g,0)),.agg vs.toArray] w (λe w'=>e= .returned ↑l.length/\pF g base cv w (aV l t) w'):=by
 have HV:=Y hv;have HM:=Y hm;have HA:=Y hA;obtain⟨sa,sc,rfl, -⟩:=Tm.dV hv;obtain⟨ca,cc,rfl,hcc,aqu⟩:=I.val hm.own;obtain⟨b0,bf⟩:=vZ hm.box;have hgs:=ax hm.box;have hbw:=hm.CX;have hgb:=hm.lt;have hcs:=bF;have xK:=Y (λb(hb:ownB (.slice ca l.length cc)=some b)=>hm.own.lt b hb);have HLEN:=Y hlen;have hll:l.length+1<=4194304:=zB;clear hv hA hlen;by_cases h3:t.kind=3;·have HP:=Y (show aV l t=xI l t by rw[aV,G h3]);have HF:=Y (aqy t);clear hm;rw[h3]at HV ⊢;go_enter Tryz.func58,Tryz.ntmps58;go_wp2_with fail;refine(HF g base l (.slice ca l.length cc) A _ [_,_,_,_] (HM.o.below ((Z _ _).alloc (zL _) _)) (by have :=HLEN.o;omega) (Tm.ae.1 _ _ _ _ _ HV (J.alloc _ _ _)) (λb hb=>⟨by have :=(HA b hb).1;simp;omega,(HA b hb).2⟩)).mono ?_;rintro e w1⟨rfl,hst⟩;have HST:=Y (pF.trans ((Ch.refl _ _).alloc _) (λb hb=> .inl hb) hst);clear hst b0 bf;go_wp2_with fail;go_ret;exact⟨rfl,by rw[HP.o];exact HST⟩
 ·have HP:=Y (show aV l t=dU (l++[⟨0,0,.empty⟩]) l.length t by rw[aV,O h3]);have h3':(t.kind==3)=false:=by simpa using h3
  have HFL:=Y (Yz (c:=l++[⟨0,0,.empty⟩]) (k:=l.length) h3);have fO:=Y (aI (aI hm.box (.cells #[↑t.kind,↑t.n,.string t.s,.slice sa t.args.length sc] 34)) (.cells #[.int .i64 0,.int .i64 0,.string .empty] 112));have YA:=Y (bq w (.cells #[↑t.kind,↑t.n,.string t.s,.slice sa t.args.length sc] 34));have dO:=Y (I.gT Ce.lM (I.below hm.own ((Z _ _).alloc (zL _) (.cells #[↑t.kind,↑t.n,.string t.s,.slice sa t.args.length sc] 34))) (λ_=>True));clear h3 hm;go_enter Tryz.func58,Tryz.ntmps58;go_wp2_with(at_builtin;go_must(refine ja rfl (.tmp 15) (.tmp 17) 56 rfl base 112 3 32 Eo Ce.ae (A:=λ_=>True) (.slice ca l.length cc) l rfl dO (⟨0,0,.empty⟩:Ce) [.int .i64 0,.int .i64 0,.string .empty] (by simp only[bO];rfl) rfl ⟨⟨by unfold ah;simp only;omega,by unfold ah;simp only;omega,af⟩,rfl⟩ ⟨zB,by simp;omega⟩ ?_);go_must(intro v2 w2 hown aj;have bA:=Y (I.fJ hown);obtain⟨aS,aT,hv2,kX,rO⟩:=I.val bA;rw[bB,dZ]at hv2;subst hv2;have HB2:=Y (show w2.heap[g]?=_ from(aj.grown.block g (by simp;omega) (λe=>by have :=(xK _ e.symm).1;omega)).trans fO);obtain⟨y0,yf⟩:=vZ HB2;have NP:=ax HB2;have HG2:=Y aj;have hz2:=aj.size;clear hown aj b0 bf));have hst:=Sn HM hll (Ch.refl (jF g (.slice ca l.length cc)) (w.alloc (.cells #[↑t.kind,↑t.n,.string t.s,.slice sa t.args.length sc] 34))) zh bA HB2 HG2;clear y0 yf NP hz2 bA HB2 HG2 fO dO;generalize w2.setCell (g,0) (.slice aS (l.length+1) aT)=W1 at hst ⊢;obtain⟨Hg,hm1,hc1,ho1⟩:=hst;obtain⟨c1a,Sq,rfl,hl1,aqv⟩:=I.val hm1.own;have Hl:(l++[(⟨0,0,.empty⟩:Ce)]).length=l.length+1:=zh;rw[Hl]at hl1 hm1 ho1;obtain⟨y0,yf⟩:=vZ hm1.box;have aga:=ax hm1.box;obtain⟨x0,x1,x2,x3,xf⟩:=aF ((hc1.block w zh (λe=>by
   rcases e with e|e;·omega
   ·have :=(xK _ e).2;omega)).trans YA);have hxs:w.heap.size<W1.heap.size:=by have :=hc1.size;simp at this;omega
  have gK:=Y hm1;have eX:=Y hc1;have fH:=Y ho1;have Co:=Y (show J A w W1 from(J.alloc A w _).trans (hc1.keeps (A:=A) (λb _ hb=>(HA b hb).2)));clear hm1 hc1 ho1;go_still_tail 8,zP;change wpList _ _ _ _ _ W1.drew;have HPT:=Y (agd t g base l.length (l++[(⟨0,0,.empty⟩:Ce)]) (.slice c1a (l.length+1) Sq) A W1.drew [_,_,_,_] (gK.o.below (Z _ _).drew) zh (by have :=HLEN.o;simp;omega) (Tm.ae.1 _ _ _ _ _ (Tm.ae.1 _ _ _ _ _ HV Co) (J.drew _ _)) (λb hb=>⟨by have :=(HA b hb).1;simp;omega,λe=>by
   rcases e with e|e;·exact(HA b hb).2 (.inl e)
   ·rcases fH b e with e|e;·exact(HA b hb).2 (.inr e)
    ·have :=(HA b hb).1;simp at e;omega⟩));have dJ:=Y (show Ch (jF g (.slice ca l.length cc)) _ W1.drew from eX.o.drew);generalize W1.drew=w4 at HPT dJ ⊢;clear y0 yf x0 x1 x2 x3 xf;go_wp2_with fail;refine(HPT).mono ?_;rintro e w3⟨⟨v3,rfl⟩,vU⟩;obtain⟨mY,hm2,hc2,ho2⟩:=pF.trans dJ fH vU;obtain⟨c2a,c2c,rfl,hl2,aAX⟩:=I.val hm2.own;have hf:=HFL;rw[Hl]at hf;rw[hf]at hl2 hm2 ho2;have HS2:=Y (pF.trans ((Ch.refl _ _).alloc _) (λb hb=> .inl hb) ⟨_,hm2,hc2,ho2⟩);obtain⟨y0,yf⟩:=vZ hm2.box;have NP:=ax hm2.box;clear vU hm2 hc2 ho2 hf;go_wp2_with fail;go_ret;exact⟨zh,by rw[HP.o];exact HS2⟩
def aD(n:Nat):List Ce:=(List.range n).map λ(i:Nat)=>(⟨0,(i:Int),.empty⟩:Ce)
def lY(n:Nat):(aD n).length=n:=by simp[aD]
def aqA(n:Nat):aD (n+1)=aD n++[⟨0,(n:Int),.empty⟩]:=by simp[aD,adN]
def agf(n:Nat)(hn:n<=65536)(w:World):Calls Tryz.prog 57 #[↑n] w (λe w'=>∃cv,e= .returned (.pointer (some ⟨w.heap.size,0,none⟩))/\Below w w w'/\qx w (w+1) (aD n) cv w'):=by
 have Z:=bF;go_enter Tryz.func57,Tryz.ntmps57;go_wp2_with fail;have E:=Y (bq w (.cells #[.slice none 0 0] 108));have R:=Y ((gQ _ w).alloc (zL _) (.cells #[.slice none 0 0] 108));obtain⟨g,k⟩:∃g,g=w.heap.size:=⟨_,rfl⟩;have r:=Y k;have T:g<(w.alloc (.cells #[.slice none 0 0] 108)).heap.size:=by rw[k];simp
 rw[<-k]at E;rw[<-k];clear k;go_loopw[8](λi W=>∃(j:Nat)(cv:Value),j<=n/\i= ↑j/\Below w w W/\qx g (g+1) (aD j) cv W)(λi _=>n - (intOf i).toNat);case atStart=>exact⟨0,_,dA _,rfl,R,E,I.nil,zB,by simp[aD],zB⟩
 case round=>
  obtain⟨j,cv,hj,rfl,hb,hm⟩:=hrel;have A7:=Y hb;have HM:=Y hm;obtain⟨C,B,rfl,u,U⟩:=I.val hm.own;rw[lY]at u hm HM;obtain⟨J,H⟩:=vZ hm.box;have X:=ax hm.box;have v:=hm.CX;have z:=Y (λb(hb:ownB (.slice C j B)=some b)=>hm.own.lt b hb);have P:=Y (I.gT Ce.lM hm.own (λ_=>True));have O:=Y (aI hm.box (.cells #[.int .i64 0,↑j,.string .empty] 112));clear hb hm;by_cases s:j<n
  ·have m:(j:Int)<(n:Int):=zB;have t:(aD j).length<4194304:=by rw[lY];omega
   go_wp2_with(at_builtin;go_must(refine ja rfl (.tmp 15) (.tmp 18) 56 rfl (g+1) 112 3 32 Eo Ce.ae (A:=λ_=>True) (.slice C j B) (aD j) rfl P (⟨0,(j:Int),.empty⟩:Ce) [.int .i64 0,↑j,.string .empty] rfl rfl ⟨⟨by unfold ah;simp only;omega,by unfold ah;simp only;omega,(show ByteArray.empty.size<=1048576 by decide)⟩,rfl⟩ ⟨t,v⟩ ?_);go_must(intro v2 K d p;have D:=Y (I.fJ d);obtain⟨aS,aT,l,kX,rO⟩:=I.val D;rw[bB,dZ,lY]at l;subst l;have f:=Y (show K.heap[g]?=_ from(p.grown.block g (by simp;omega) (λe=>by have :=(z _ e.symm).1;omega)).trans O);obtain⟨z0,zf⟩:=vZ f;have NP:=ax f;have y:=Y p;have S:=p.size;clear d p J H));go_roundw;case rel=>
    obtain⟨x,N,L,h3⟩:=Sn HM (by rw[lY];omega) (Ch.refl _ _) (zL _) D f y;refine⟨j+1,x,zB,zd,?_,by rw[aqA];exact N⟩;refine((Ch.of_below (M:=λ_=>False) A7).trans L (fun b hb=> .inr ?_)).below (fun _ _ h=>h);have V:=r.o;rcases hb with rfl|hb;·omega
    ·have :=(z.o b hb).1;omega
   case measure=>first|(simp[intOf];done)|(simp[intOf];omega)
  ·have Q:j=n:=zB;subst Q;have m:¬((j:Int)<(j:Int)):=zB;clear s;go_wp2_with fail;go_ret;have hm:=HM;rw[r.o]at hm;exact⟨by rw[<-r.o];rfl,A7,_,hm⟩
def aK:List Ce->List Tm->List Ce×List Int|c,[]=>(c,[])|c,t::r=>((aK (aV c t) r).1,(c.length:Int)::(aK (aV c t) r).2)
def YB:∀(l:List Tm)(c:List Ce)(t:Tm),aK c (l++[t])=(aV (aK c l).1 t,(aK c l).2++[((aK c l).1.length:Int)])|[],c,t=>by simp[aK]|x::r,c,t=>by simp only[oO,aK,YB r]
def yT:∀(l:List Tm)(c:List Ce),(aK c l).2.length=l.length|[],c=>rfl|x::r,c=>by simp only[aK,bn,yT r]
def NQ(t:Tm)(c:List Ce):c.length<=(aV c t).length/\(aV c t).length<=c.length+2*t.nodes:=by
 have b:1<=t.nodes:=by cases t;simp only[Tm.nodes];omega
 unfold aV;split;·obtain⟨k,n,s,l⟩:=t;have a:=xJ l (c++⟨3,(l.length:Int),s⟩::List.replicate l.length ⟨0,0,.empty⟩) (c.length+1);simp only[bB,bn,BX]at a;simp only[xI,Tm.nodes];omega
 ·rename_i h;rw[Yz h];simp;omega
def EL:∀(l:List Tm)(c:List Ce),c.length<=(aK c l).1.length/\(aK c l).1.length<=c.length+2*Tm.aC l|[],c=>by simp[aK,Tm.aC]|x::r,c=>by simp only[aK,Tm.aC];have b:=NQ x c;have a:=EL r (aV c x);omega
def agh(c:List Ce)(l:List Tm)(j:Nat)(a:j<l.length):(aK c (l.take j)).1.length+2*l[j].nodes<=c.length+2*Tm.aC l:=by have d:=EL (l.take j) c;have b:=Yw l j a;omega
def NR:∀(l:List Tm),(∀g∈l,g.nodes<=24)->Tm.aC l<=24*l.length|[],_=>by simp[Tm.aC]|x::r,h=>by simp only[Tm.aC,bn];have c:=h x (rA ..);have b:=NR r (λg a=>h g (sD _ a));omega
structure Bk where
  cells : List Ce
  vars : Int
  head : Int
  goals : List Int
def bI(l:List Tm)(v:Int):Bk:=⟨(aK (aD v.toNat) l).1,v, -1,(aK (aD v.toNat) l).2⟩
def aB(c:Cl):Bk:=⟨(aK (aV (aD c.vars.toNat) c.head) c.body).1,c.vars,(c.vars.toNat:Int),(aK (aV (aD c.vars.toNat) c.head) c.body).2⟩
def SB:Bk:=⟨[],0,0,[]⟩
noncomputable def Hm(l:List Tm)(v:Int):Bk×Int:=open Classical in if iJ l v then(bI l v,0)else(SB,1)
noncomputable def Ho(c:Cl):Bk×Int:=open Classical in if c.Good then(aB c,0)else(SB,1)
def agi(A:Nat->Prop)(x:Bk×Int)(r:Value)(w':World):Prop:=∃b a,r= .tuple #[.agg #[b,↑x.1.vars,↑x.1.head,a],↑x.2]/\sN A w' x.1.cells b/\gX A w' x.1.goals a
structure SC (w : World) (g gb rb : Nat) (x : List Ce) (gs : List Int) (v hd : Int) (cv gv : Value) (W : World) : Prop where
  lW : Below w.heap.size w W
  mkr : qx g (g + 1) x cv W
  box : W.heap[gb]? = some (.cells #[.slice none 0 0, .int .i64 v, .int .i64 hd, gv] 67 (0, 0))
  own : dC W (g + 1) gs gv
  res : W.heap[rb]? = some (.cells #[.slice none 0 0, .int .i64 0, .int .i64 0, .slice none 0 0] 67 (0, 0))
  gw : w.heap.size ≤ g
  gbw : w.heap.size ≤ gb
  ne1 : gb ≠ g
  ne2 : rb ≠ g
  ne3 : rb ≠ gb
def aqB(l:List Tm)(v:Int)(hi:ah v)(hnd:Tm.aC l<=1099511627776)(w:World)(u:Value)(hu:iN (λb=>b<w) w l u):Calls Tryz.prog 32 #[u,↑v] w (Pure w (agi (New w) (Hm l v))):=by
 have hcs:=bF;have vW:=Y (λ(W:World)(h:Below w w W)=>Jv l v hnd hi (λb=>b<w) W u (ag.keeps Tm.ae hu (J.ob h)));obtain⟨a,cap,b,off,rfl,hlc,hcm,hlb,ha,he⟩:=hu.at;have HE:=Y he;have wh:=Y ha;have YC:=Y (show ∀t∈l,∀(W:World),J (λb=>b<w) w W->∀{us},Tm.rep (λb=>b<w) W t us->Tm.rep (λb=>b<w) W t us fromλ_ _ _ _ _ h=>h);clear hu ha he;go_enter Tryz.func32,Tryz.ntmps32;go_wp2_with fail;have NS:=Y (bq w (.cells #[.slice none 0 0,.int .i64 0,.int .i64 0,.slice none 0 0] 67));have HB0:=Y ((gQ _ w).alloc (zL _) (.cells #[.slice none 0 0,.int .i64 0,.int .i64 0,.slice none 0 0] 67));refine(vW _ HB0).mono ?_;rintro e w1⟨r,rfl,hb1,q,rfl,hq⟩;have HB1:=Y (HB0.o.trans (hb1.mono HB0.o.size));have yU:=Y (aA NS hb1);clear hb1 HB0 NS;obtain⟨rb,hrb⟩:∃rb,rb=w.heap.size:=⟨_,rfl⟩;have NU:=Y hrb;have hrw:rb<w1:=by rw[hrb];exact ax yU
 have aqC:w<=rb:=zB;rw[<-hrb]at yU;obtain⟨r0,r1,r2,r3,rf⟩:=aF yU;rw[<-hrb];clear hrb;cases q with
  |false=>
   have mV:¬iJ l v:=λh=>by have :=hq.2 h;cases this
   have Hq:=Y (show Hm l v=(SB,1)by rw[Hm,O mV]);clear mV hq;go_wp2_with fail;refine bX (v:= .tuple #[.agg #[.slice none 0 0,.int .i64 0,.int .i64 0,.slice none 0 0],.int .i64 1]) (by simp[results,Tryz.results32,go_sem,hcs,r0,r1,r2,r3];try rfl) rfl ?_;rw[Hq.o];exact Pure.mk (bE (bE (bE (bE HB1 (by simp only;omega) _) (by simp only;omega) _) (by simp only;omega) _) (by simp only;omega) _) ⟨_,_,rfl,ag.nil ..,ag.nil ..⟩
  |true=>
   have ow:iJ l v:=hq.1 rfl;have Hq:=Y (show Hm l v=(bI l v,0)by rw[Hm,G ow]);obtain⟨v0,v8,l5,lg⟩:=ow;have YD:=NR l (λg hg=>(lg g hg).2.2);clear lg hnd;obtain⟨n,rfl⟩:=dH v0;clear hq;go_wp2_with fail;refine(agf n zB w1).mono ?_;rintro e w2⟨xM,rfl,hb2,hm2⟩;have HB2:=Y (HB1.o.trans (hb2.mono HB1.o.size));have tK:=Y (aA yU hb2);have ji:=Y hm2;have hz2:=ax hm2.box;have hz1:=HB1.o.size;clear hb2 hm2 r0 r1 r2 r3 rf;obtain⟨g,hg⟩:∃g,g=w1.heap.size:=⟨_,rfl⟩;rw[<-hg]at ji hz2 ⊢;have hgr:rb<g:=zB;have hgw:w<=g:=zB;clear hg;go_wp2_with fail;have SE:=Y (show SC w g w2 rb (aK (aD n) (l.take 0)).1 (aK (aD n) (l.take 0)).2 (n:Int) (-1) xM (.slice none 0 0) (w2.alloc (.cells #[.slice none 0 0,↑n,.int .i64 (-1),.slice none 0 0] 67))from⟨HB2.o.alloc HB2.o.size _,ji.o.below ((Z _ _).alloc (zL _) _),bq _ _,I.nil,aI tK _,hgw,HB2.o.size,zB,zB,by have :=ax tK;omega⟩);have aqD:(aD n).length<=8:=by rw[lY];omega
   have pE:=Y (show(aK (aD n) l).1.length<=1048576 by have :=EL l (aD n);omega);obtain⟨gb,hgb⟩:∃gb,gb=w2.heap.size:=⟨_,rfl⟩;rw[<-hgb]at SE ⊢;clear hgb HB1 HB2 yU tK ji;go_loopw[21](λi W=>∃(j:Nat)(cv gv:Value),j<=l.length/\i= ↑j/\SC w g gb rb (aK (aD n) (l.take j)).1 (aK (aD n) (l.take j)).2 (n:Int) (-1) cv gv W)(λi _=>l.length - (intOf i).toNat);case atStart=>exact⟨0,_,_,dA _,rfl,SE.out⟩
   case round=>
    obtain⟨j,cv,gv,hj,rfl,hcd⟩:=hrel;have CD:=Y hcd;obtain⟨hbel,hmk,pG,hown,hres,hgw,SF,hne1,hne2,xN⟩:=hcd;have hzb:=hbel.size;have hgb:=ax pG;obtain⟨na,nc,rfl,hnl,hnm⟩:=I.val hown;have NV:(aK (aD n) (l.take j)).2.length=(l.take j).length:=yT _ _;have hll:(l.take j).length<=l.length:=by rw[dX];omega
    by_cases hlt:j<l.length
    ·obtain⟨rfl,bQ⟩:=wh zB;obtain⟨sa,sc,d0,d1,d2,d3,hr⟩:=lJ HE bQ (J.ob hbel) hlt;have hlt':(j:Int)<(l.length:Int):=zB;have hj0:(0:Int)<=(j:Int):=zN _;obtain⟨t,ht⟩:∃t,t=l[j]'hlt:=⟨_,rfl⟩;rw[<-ht]at d0 d1 d2 d3 hr;have HT:=Y ht;have nT:=Y hlt;have rT:=agh (aD n) l j hlt;rw[<-ht]at rT;have HR:=Y (show Tm.rep (λb=>b<w) _ t _ from Tm.ae.1 _ _ _ _ _ (YC.out t (by rw[ht];exact bN _) _ (J.ob hbel) hr) (J.alloc _ _ (.cells #[↑t.kind,↑t.n,.string t.s,.slice sa t.args.length sc] 34)));obtain⟨nn,hnn⟩:∃nn,nn=(aK (aD n) (l.take j)).2.length:=⟨_,rfl⟩;rw[<-hnn]at pG hown CD hnl;have yV:=Y (hbel.alloc hbel.size (.cells #[↑t.kind,↑t.n,.string t.s,.slice sa t.args.length sc] 34));have kJ:=Y (hmk.below ((Z _ _).alloc (zL _) (.cells #[↑t.kind,↑t.n,.string t.s,.slice sa t.args.length sc] 34)));have fO:=Y (aI pG (.cells #[↑t.kind,↑t.n,.string t.s,.slice sa t.args.length sc] 34));have wm:=Y (bq wr (.cells #[↑t.kind,↑t.n,.string t.s,.slice sa t.args.length sc] 34));have HOW:=Y (I.below hown ((Z _ _).alloc (zL _) (.cells #[↑t.kind,↑t.n,.string t.s,.slice sa t.args.length sc] 34)));have xD:=Y (aI hres (.cells #[↑t.kind,↑t.n,.string t.s,.slice sa t.args.length sc] 34));obtain⟨ee,ik⟩:∃ee,ee=wr.heap.size:=⟨_,rfl⟩;have hsz0:ee<(wr.alloc (.cells #[↑t.kind,↑t.n,.string t.s,.slice sa t.args.length sc] 34)).heap.size:=by rw[ik];simp
     have heg:gb<ee:=zB;have hgg:=ax hmk.box;have aqF:g<ee:=zB;have hew:w<=ee:=zB;rw[<-ik]at wm;have xK:=Y (λb(hb:ownB (.slice na nn nc)=some b)=>hown.lt b hb);have Ht:=Y (λb(hb:ownB cv=some b)=>hmk.own.lt b hb);have wy:=Y ik;have hbl:(aK (aD n) (l.take j)).1.length+1+2*t.nodes<=4194304:=zB;clear hr ht hbel hmk pG hown hres rT NV hnn;go_wp2_with fail;clear d0 d1 d2 d3;rw[<-wy.o];clear ik;generalize wr.alloc (.cells #[↑t.kind,↑t.n,.string t.s,.slice sa t.args.length sc] 34)=wa at yV kJ fO wm HOW xD hsz0 HR ⊢;have hW1:wa.drew.heap[gb]?=some (.cells #[.slice none 0 0,↑n,.int .i64 (-1),.slice na nn nc] 67 (0,0))/\wa.drew.heap[ee]?=some (.cells #[↑t.kind,↑t.n,.string t.s,.slice sa t.args.length sc] 34 (0,0)):=⟨fO,wm⟩;refine jd (F:=λk w'=>k=1\/k=3->(w'.heap[gb]?=some (.cells #[.slice none 0 0,↑n,.int .i64 (-1),.slice na nn nc] 67 (0,0))/\w'.heap[ee]?=some (.cells #[↑t.kind,↑t.n,.string t.s,.slice sa t.args.length sc] 34 (0,0)))) zP ?_;refine zT 0 (λ_=>hW1) ?_;simp only[U];refine zY 1 (λ_=>hW1) ?_ (z:=by intro w' hw;obtain⟨q0,q1,q2,q3,qf⟩:=aF (hw zB).1;go_simp<;>with_reducible rfl);simp only[U];refine zT 2 (λ_=>hW1) ?_;simp only[U];refine zY 3 (λ_=>hW1) ?_ (z:=by intro w' hw;obtain⟨q0,q1,q2,q3,qf⟩:=aF (hw zB).2;go_simp<;>with_reducible rfl);simp only[U];refine zO 4 ?_;go_simp;refine(Sz t g (g+1) (aK (aD n) (l.take j)).1 cv (λb=>b<w) wa.drew [_,_,_,_] (kJ.o.below (Z _ _).drew) hbl (Tm.ae.1 _ _ _ _ _ HR (J.drew _ _)) (λb hb=>⟨by have hb':b<w:=hb;have :=yV.out.size;simp;omega,λe=>by
      have hb':b<w:=hb;rcases e with e|e;·omega
      ·have :=(Ht b e).1;omega⟩)).mono ?_;rintro e w2⟨rfl,mY,hm2,hc2,ho2⟩;have A8:¬jF g cv gb:=λe=>by
      rcases e with e|e;·exact hne1 e
      ·exact I.eG kJ.o.own fO af e
     have NW:¬jF g cv ee:=λe=>by
      rcases e with e|e;·omega
      ·have h1:=(Ht _ e).2;have h2:=wy.o;omega
     have yX:¬jF g cv rb:=λe=>by
      rcases e with e|e;·exact hne2 e
      ·exact I.eG kJ.o.own xD af e
     have HB2:=Y (yV.out.drew.trans (((Ch.refl _ _).trans hc2 (λ_ h=> .inl h)).mono (M':=jF g cv) (λ_ _ h=>h)|> λh=>(show Below w wa.drew w2 from⟨h.os,h.tape,h.output,h.size,λk hk=>h.block k (by have :=yV.out.size;simp;omega) (λe=>by
      rcases e with e|e;·omega
      ·have :=(Ht k e).1;omega)⟩)));have wB:=Y ((hc2.block gb (by simpa using ax fO) A8).trans (show wa.drew.heap[gb]?=_ from fO));have tK:=Y ((hc2.block rb (by simpa using ax xD) yX).trans (show wa.drew.heap[rb]?=_ from xD));have tL:=Y (I.kept HOW (w':=w2) (λb hb=>hc2.block b (by simpa using(HOW.o.lt b hb).2) (λe=>by
      rcases e with e|e;·have :=(HOW.o.lt b hb).1;omega
      ·exact tC af kJ.o.own HOW b e hb)));have ji:=Y hm2;refine⟨λk hk hF dR=>⟨(hc2.block gb (by simpa using ax fO) A8).trans (hF dR).1,(hc2.block ee (by simpa using ax wm) NW).trans (hF dR).2⟩,?_⟩;clear hc2 ho2 hm2 A8 NW yX hW1 kJ fO wm HOW xD xK yV HR;try simp only[U]
     refine zO 5 ?_;go_simp;refine⟨λk hk hF dR=>⟨aI (hF dR).1 _,aI (hF dR).2 _⟩,?_⟩;refine zO 6 ?_;have hz2:=ji.o.CX;have agk:(aK (aD n) (l.take j)).1.length<=4194304:=zB;refine uC (.tmp 26) (.tmp 30) 57 rfl (g+1) 3 1 8 kC aN (.slice na nn nc) (aK (aD n) (l.take j)).2 rfl (I.gT eu tL (λ_=>True)) ((aK (aD n) (l.take j)).1.length:Int) [↑((aK (aD n) (l.take j)).1.length:Int)] rfl rfl ⟨by unfold ah;omega,rfl⟩ ⟨by rw[yT];omega,hz2⟩ ?_;intro v2 w4 hown2 aj;have iR:=Y (I.fJ hown2);have yY:=ji.o.own;have hkc:∀b,ownB (.slice na nn nc)=some b->b≠gb/\b≠g/\b≠rb/\ownB mY≠some b:=λb hb=>⟨λe=>I.eG tL wB af (e▸hb),λe=>I.eG tL ji.o.box af (e▸hb),λe=>I.eG tL tK af (e▸hb),λe=>tC (by decide) yY tL.o b e hb⟩;have lC:∀k,k<w2.heap.size->ownB (.slice na nn nc)≠some k->w4.heap[k]?=w2.heap[k]?:=λk hk hn=>(aj.grown.block k (by simp;omega) (λe=>hn e.symm)).trans (QW _ _ _ hk);have wC:=Y ((lC gb (ax wB) (λe=>(hkc _ e).1 rfl)).trans wB);have EM:=Y ((lC rb (ax tK) (λe=>(hkc _ e).2.2.1 rfl)).trans tK);have NY:=Y ((lC g (ax ji.o.box) (λe=>(hkc _ e).2.1 rfl)).trans ji.o.box);have EN:=Y (I.kept yY (w':=w4) (λb hb=>lC b (yY.lt b hb).2 (λe=>(hkc b e).2.2.2 hb)));have lQ:=aj.size;have bL:=Y (aj.below (HB2.o.alloc HB2.o.size (.cells #[↑((aK (aD n) (l.take j)).1.length:Int)] 3)) (by have :=HB2.o.size;simp;omega) (λb hb=>by have :=(tL.o.lt b hb).1;omega));refine⟨λk hk hF dR=>⟨(aj.grown.block gb (by have :=ax wB;simp;omega) (λe=>(hkc _ e.symm).1 rfl)).trans (hF dR).1,(aj.grown.block ee (ax (hF dR).2) (λe=>I.eG (I.below tL ((Z _ _).alloc (zL _) _)) (hF dR).2 af e.symm)).trans (hF dR).2⟩,?_⟩;obtain⟨aS,aT,hv2, -, -⟩:=I.val iR;rw[bB,dZ]at hv2;subst hv2;clear hown2 aj lC hkc yY;try simp only[U]
     refine zO 7 ?_;go_simp;refine⟨λ_ _ h=>h,?_⟩;obtain⟨y0,y1,y2,y3,yf⟩:=aF wC;have EO:=ax wC;refine zO 8 ?_;go_simp;refine⟨λk hk _ h1=>?_,zQ ?_⟩
     ·rcases h1 with h1|h1;·subst h1;exact absurd (show waits _ 8 1=true by kernel_rfl) (by rw[hk];decide)
      ·subst h1;exact absurd (show waits _ 8 3=true by kernel_rfl) (by rw[hk];decide)
     go_wp2_with fail;go_roundw;case rel=>
      have hgl:(aK (aD n) (l.take j)).2.length+1=((aK (aD n) (l.take j)).2++[((aK (aD n) (l.take j)).1.length:Int)]).length:=zh;refine⟨j+1,mY,.slice aS ((aK (aD n) (l.take j)).2.length+1) aT,zB,zd,?_⟩;rw[iq nT.o,YB,<-HT.o];refine⟨bL.o.setCell (by simp only;omega) _,⟨?_,?_,ji.o.lt,ji.o.len,?_⟩,(aX wC 3 _).trans rfl,?_,?_,hgw,SF,hne1,hne2,xN⟩;·rw[aW _ _ _ _ (by simp only;exactλe=>hne1 e.symm)];exact NY
      ·exact I.kept EN (λb hb=>aW _ _ _ _ (by simp only;exactλe=>I.eG EN wC af (e▸hb)))
      ·have :=ax NY;simp;omega
      ·exact I.kept iR (λb hb=>aW _ _ _ _ (by simp only;exactλe=>I.eG iR wC af (e▸hb)))
      ·rw[aW _ _ _ _ (by simp only;exact xN)];exact EM
     case measure=>first|(simp[intOf];done)|(simp[intOf];omega)
    ·have bZ:j=l.length:=zB;subst bZ;have hlt':¬((l.length:Int)<(l.length:Int)):=zB;obtain⟨ca,cc,rfl,hcl,hcm⟩:=I.val hmk.own;obtain⟨m0,mf⟩:=vZ hmk.box;obtain⟨y0,y1,y2,y3,yf⟩:=aF pG;obtain⟨r0,r1,r2,r3,rf⟩:=aF hres;have hgg:=ax hmk.box;have hrr:=ax hres;clear hlt hbel hmk pG hown hres NV;rw[nQ]at CD;have hxl:(aK (aD n) (l.take l.length)).1=(aK (aD n) l).1:=by rw[nQ]
     have hgl:(aK (aD n) (l.take l.length)).2=(aK (aD n) l).2:=by rw[nQ]
     rw[hxl]at m0 hcl;rw[hgl]at y3 hnl;clear hxl hgl;obtain⟨X,hX⟩:∃X,X=aK (aD n) l:=⟨_,rfl⟩;rw[<-hX]at m0 hcl y3 hnl CD;have HX:=Y hX;clear hX;go_wp2_with fail;have hch:Ch (λb=>b=gb\/b=rb) wr wr:=Ch.refl _ _;have aM:=(((((hch.setCell (p:=(gb,0)) (.inl (.inl rfl)) (.slice ca X.1.length cc)).setCell (p:=(rb,0)) (.inl (.inr rfl)) (.slice ca X.1.length cc)).setCell (p:=(rb,1)) (.inl (.inr rfl)) ↑n).setCell (p:=(rb,2)) (.inl (.inr rfl)) (.int .i64 (-1))).setCell (p:=(rb,3)) (.inl (.inr rfl)) (.slice na X.2.length nc));have YE:¬gb=rb:=λe=>xN e.symm;have c1:=CD.out.mkr.own;have c2:=CD.out.own;have c3:=CD.out.box;have c4:=CD.out.res;have Hu:=Ch.below (Ch.trans (Ch.of_below (M:=λb=>b=gb\/b=rb) CD.out.lW) aM (λ_ h=> .inl h)) (λk hk e=>by omega);refine bX (v:= .tuple #[.agg #[.slice ca X.1.length cc,.int .i64 (n:Int),.int .i64 (-1),.slice na X.2.length nc],.int .i64 0]) (by simp[results,Tryz.results32,go_sem,hcs,r0,r1,r2,r3,y0,y1,y2,y3,xN,YE];try rfl) rfl ?_;rw[Hq.o];have YF:=pE.o;rw[<-HX.o]at YF;refine Pure.mk Hu ⟨_,_,rfl,?_,?_⟩
     ·show sN _ _ (aK (aD n) l).1 _;rw[<-HX.o];exact I.sl Ce.lM Ce.Cr (I.kept c1 (fun b hb=>aM.block b (c1.lt b hb).2 (fun e=>by
       rcases e with e|e;·exact I.eG c1 c3 (by decide) (e▸hb)
       ·exact I.eG c1 c4 (by decide) (e▸hb)))) (by omega) (fun b hb=>by have :=(c1.lt b hb).1;unfold New;omega)
     ·show gX _ _ (aK (aD n) l).2 _;rw[<-HX.o];have hl2:=yT l (aD n);rw[<-HX.o]at hl2;exact I.sl eu Az (I.kept c2 (fun b hb=>aM.block b (c2.lt b hb).2 (fun e=>by
       rcases e with e|e;·exact I.eG c2 c3 (by decide) (e▸hb)
       ·exact I.eG c2 c4 (by decide) (e▸hb)))) (by omega) (fun b hb=>by have :=(c2.lt b hb).1;unfold New;omega)
def aqH(c:Cl)(hnd:c.nodes<=1099511627776)(w:World)(vs:List Value)(hc:Cl.rep (λb=>b<w.heap.size) w c vs):Calls Tryz.prog 31 #[.agg vs.toArray] w (Pure w (agi (New w) (Ho c))):=by
 have hcs:=bF;have vW:=Y (λ(W:World)(h:Below w.heap.size w W)=>Xd c hnd (λb=>b<w.heap.size) W vs (Cl.ae.1 _ _ _ _ _ hc (J.ob h)));obtain⟨h,l,v⟩:=c;obtain⟨ha,hcp,a,cap,rfl,hh,hu,hi⟩:=hc;simp only at hh hu hi;obtain⟨_,_,b,off,e, -, -,hlb,nL,he⟩:=hu.at;simp only[cK,dx]at e;obtain⟨rfl,rfl⟩:=e;have HE:=Y he;have wh:=Y nL;have NZ:=Y hh;have YC:=Y (show ∀t∈l,∀(W:World),J (λb=>b<w.heap.size) w W->∀{us},Tm.rep (λb=>b<w.heap.size) W t us->Tm.rep (λb=>b<w.heap.size) W t us fromλ_ _ _ _ _ h=>h);simp only[Cl.nodes]at hnd;clear hu nL he hh;go_enter Tryz.func31,Tryz.ntmps31;go_wp2_with fail;have h2:=mi w (.cells #[↑h.kind,↑h.n,.string h.s,.slice ha h.args.length hcp,.slice a l.length cap,↑v] 65) (.cells #[.slice none 0 0,.int .i64 0,.int .i64 0,.slice none 0 0] 67);have agl:=Y h2.1;have NS:=Y h2.2;have HB0:=Y (((gQ _ w).alloc (zL _) (.cells #[↑h.kind,↑h.n,.string h.s,.slice ha h.args.length hcp,.slice a l.length cap,↑v] 65)).alloc zh (.cells #[.slice none 0 0,.int .i64 0,.int .i64 0,.slice none 0 0] 67));refine(vW _ HB0).mono ?_;rintro e w1⟨r,rfl,hb1,q,rfl,hq⟩;have HB1:=Y (HB0.o.trans (hb1.mono HB0.o.size));have yU:=Y (aA NS hb1);have SG:=Y (aA agl hb1);clear hb1 HB0 NS agl h2;obtain⟨rb,hrb⟩:∃rb,rb=w.heap.size+1:=⟨_,rfl⟩;obtain⟨pb,hpb⟩:∃pb,pb=w.heap.size:=⟨_,rfl⟩;have NU:=Y hrb;have hrw:rb<w1.heap.size:=by rw[hrb];exact ax yU
 have aqC:w.heap.size<=rb:=zB;have hpw:pb<w1.heap.size:=zB;have hpr:¬rb=pb:=zB;have aA1:w.heap.size<=pb:=zB;rw[<-hrb]at yU;rw[<-hpb]at SG;obtain⟨r0,r1,r2,r3,rf⟩:=aF yU;rw[<-hrb];rw[<-hpb];clear hrb hpb;cases q with
  |false=>
   have mV:¬(⟨h,l,v⟩:Cl).Good:=λh=>by have :=hq.2 h;cases this
   have Hq:=Y (show Ho ⟨h,l,v⟩=(SB,1)by rw[Ho,O mV]);clear mV hq;go_wp2_with fail;refine bX (v:= .tuple #[.agg #[.slice none 0 0,.int .i64 0,.int .i64 0,.slice none 0 0],.int .i64 1]) (by simp[results,Tryz.results31,go_sem,hcs,r0,r1,r2,r3];try rfl) rfl ?_;rw[Hq.o];exact Pure.mk (bE (bE (bE (bE HB1 (by simp only;omega) _) (by simp only;omega) _) (by simp only;omega) _) (by simp only;omega) _) ⟨_,_,rfl,ag.nil ..,ag.nil ..⟩
  |true=>
   have ow:(⟨h,l,v⟩:Cl).Good:=hq.1 rfl;have Hq:=Y (show Ho ⟨h,l,v⟩=(aB ⟨h,l,v⟩,0)by rw[Ho,G ow]);obtain⟨⟨v0,v8,l5,lg⟩, -,hft, -⟩:=ow;simp only at v0 v8 l5 lg hft;have hhn:=hft.2;obtain⟨n,rfl⟩:=dH v0;have YD:=NR l (λg hg=>(lg g hg).2.2);clear lg hnd hq hft;obtain⟨x0,x1,x2,x3,x4,x5,xf⟩:=gY SG;go_wp2_with fail;refine(agf n zB w1).mono ?_;rintro e w2⟨xM,rfl,hb2,hm2⟩;have HB2:=Y (HB1.o.trans (hb2.mono HB1.o.size));have tK:=Y (aA yU hb2);have YG:=Y (aA SG hb2);have ji:=Y hm2;have hz2:=ax hm2.box;have hz1:=HB1.o.size;clear hb2 hm2 r0 r1 r2 r3 rf x0 x1 x2 x3 x4 x5 xf;obtain⟨g,hg⟩:∃g,g=w1.heap.size:=⟨_,rfl⟩;rw[<-hg]at ji hz2 ⊢;have hgr:rb<g:=zB;have yZ:pb<g:=zB;have hgw:w.heap.size<=g:=zB;clear hg HB1 yU SG;go_wp2_with fail;go_cut[5](λu5 wr=>∃(gb:Nat)(cv:Value),u5= .pointer (some (gb,0))/\SC w g gb rb (aK (aV (aD n) h) (l.take 0)).1 (aK (aV (aD n) h) (l.take 0)).2 (n:Int) (n:Int) cv (.slice none 0 0) wr/\wr.heap[pb]?=some (.cells #[↑h.kind,↑h.n,.string h.s,.slice ha h.args.length hcp,.slice a l.length cap,↑n] 65 (0,0)));case first=>
    have hW1:w2.drew.heap[pb]?=some (.cells #[↑h.kind,↑h.n,.string h.s,.slice ha h.args.length hcp,.slice a l.length cap,↑n] 65 (0,0)):=YG;have CY:=Y (ji.o.below (Z _ _).drew);have HB3:=Y (HB2.o.drew);have JY:=Y (show w2.drew.heap[rb]?=_ from tK);have Hw:=Y hW1;refine jd (F:=λk w'=>k=1\/k=4->w'.heap[pb]?=some (.cells #[↑h.kind,↑h.n,.string h.s,.slice ha h.args.length hcp,.slice a l.length cap,↑n] 65 (0,0))) zP ?_;refine zT 0 (λ_=>hW1) ?_;simp only[U];refine zY 1 (λ_=>hW1) ?_ (z:=by intro w' hw;obtain⟨q0,q1,q2,q3,q4,q5,qf⟩:=gY (hw zB);go_simp<;>with_reducible rfl);simp only[U];refine zT 2 (λ_=>hW1) ?_;simp only[U];refine zT 3 (λ_=>hW1) ?_;simp only[U];refine zY 4 (λ_=>hW1) ?_ (z:=by intro w' hw;obtain⟨q0,q1,q2,q3,q4,q5,qf⟩:=gY (hw zB);go_simp<;>with_reducible rfl);simp only[U];clear HB2 tK YG ji hW1;generalize w2.drew=w3 at CY HB3 JY Hw ⊢;refine JP (i:=5) (j:=7) zP (lK rfl au ?_) (lK rfl au ?_)
    ·go_simp;refine(Sz h g (g+1) (aD n) xM (λb=>b<w.heap.size) w3 [_,_,_,_] CY (by rw[lY];omega) (Tm.ae.1 _ _ _ _ _ NZ (J.ob HB3)) (λb hb=>⟨by have hb':b<w.heap.size:=hb;have :=HB3.o.size;omega,λe=>by
      have hb':b<w.heap.size:=hb;rcases e with e|e;·omega
      ·have :=(CY.o.own.lt b e).1;omega⟩)).mono ?_;rintro e w5⟨rfl,mY,CZ,uO,YH⟩;have Hy:¬jF g xM pb:=λe=>by
      rcases e with e|e;·omega
      ·exact I.eG CY.o.own Hw af e
     have yX:¬jF g xM rb:=λe=>by
      rcases e with e|e;·omega
      ·exact I.eG CY.o.own JY af e
     have JZ:=Y ((uO.block pb (ax Hw) Hy).trans Hw);have N7:=Y ((uO.block rb (ax JY) yX).trans JY);have bH:=Y (Ch.below (Ch.trans (Ch.of_below (M:=jF g xM) HB3) uO (λ_ h=> .inl h)) (λk hk e=>by
      rcases e with e|e;·omega
      ·have :=(CY.o.own.lt k e).1;omega));have A9:=Y CZ;rw[lY];refine⟨λk hk hF dR=>(uO.block pb (ax Hw) Hy).trans (hF dR),?_⟩;clear Hy yX uO YH CZ;try simp only[U]
     refine zT 6 (λh=>absurd h af) ?_;simp only[U];refine zO 7 ?_;go_simp;refine⟨λk hk hF dR=>aI (hF dR) _,?_⟩;have jG:=Y (bq w5 (.cells #[.slice none 0 0,.int .i64 0,.int .i64 0,.slice none 0 0] 67));have N8:=Y ((gQ _ w5).alloc (zL _) (.cells #[.slice none 0 0,.int .i64 0,.int .i64 0,.slice none 0 0] 67));have HPZ:=Y (aI JZ (.cells #[.slice none 0 0,.int .i64 0,.int .i64 0,.slice none 0 0] 67));obtain⟨gb,hgb⟩:∃gb,gb=w5.heap.size:=⟨_,rfl⟩;rw[<-hgb]at jG ⊢;have hg5:=ax A9.o.box;have C8:=ax N7;have hp5:=ax JZ;have hb5:=bH.o.size;have lU:=ax jG;have Hz:=Y hgb;have q1:g<gb:=zB;have q2:rb<gb:=zB;have q3:pb<gb:=zB;have q4:w.heap.size<=gb:=zB;clear hgb;generalize w5.alloc (.cells #[.slice none 0 0,.int .i64 0,.int .i64 0,.slice none 0 0] 67)=wz at jG N8 HPZ lU ⊢;obtain⟨y0,y1,y2,y3,yf⟩:=aF jG;try simp only[U]
     refine zO 8 ?_;go_simp;refine⟨λk hk _ h1=>?_,zQ ?_⟩
     ·rcases h1 with h1|h1;·subst h1;exact absurd (show waits _ 8 1=true by kernel_rfl) (by rw[hk];decide)
      ·subst h1;exact absurd (show waits _ 8 4=true by kernel_rfl) (by rw[hk];decide)
     go_wp2_with fail;go_meet;have hBW:Below w5.heap.size w5 ((((wz.setCell (gb,0) (.slice none 0 0)).setCell (gb,1) ↑n).setCell (gb,2) (.int .i64 (n:Int))).setCell ⟨gb,3,none⟩ (.slice none 0 0)):=by have :=Hz.o;exact bE (bE (bE (bE N8.o (by simp only;omega) _) (by simp only;omega) _) (by simp only;omega) _) (by simp only;omega) _
     exact⟨gb,mY,rfl,⟨bH.o.trans (hBW.mono bH.o.size),A9.o.below hBW,(aX (aX (aX (aX jG 0 _) 1 _) 2 _) 3 _).trans rfl,I.nil,aA N7 hBW,hgw,q4,zB,zB,zB⟩,aA JZ hBW⟩
    ·go_simp;refine⟨λk hk hF dR=>aI (hF dR) _,?_⟩;have jG:=Y (bq w3 (.cells #[.slice none 0 0,.int .i64 0,.int .i64 0,.slice none 0 0] 67));have uN:=Y (CY.o.below ((Z _ _).alloc (zL _) (.cells #[.slice none 0 0,.int .i64 0,.int .i64 0,.slice none 0 0] 67)));have bL:=Y (HB3.o.alloc HB3.o.size (.cells #[.slice none 0 0,.int .i64 0,.int .i64 0,.slice none 0 0] 67));have N9:=Y (aI Hw (.cells #[.slice none 0 0,.int .i64 0,.int .i64 0,.slice none 0 0] 67));have EM:=Y (aI JY (.cells #[.slice none 0 0,.int .i64 0,.int .i64 0,.slice none 0 0] 67));obtain⟨gb,hgb⟩:∃gb,gb=w3.heap.size:=⟨_,rfl⟩;rw[<-hgb]at jG ⊢;have hg5:=ax CY.o.box;have C8:=ax JY;have hp5:=ax Hw;have hb5:=HB3.o.size;have hown3:=Y (λb(hb:ownB xM=some b)=>(CY.o.own.lt b hb).2);have Hz:=Y hgb;have q1:g<gb:=zB;have q2:rb<gb:=zB;have q3:pb<gb:=zB;have q4:w.heap.size<=gb:=zB;clear hgb;generalize w3.alloc (.cells #[.slice none 0 0,.int .i64 0,.int .i64 0,.slice none 0 0] 67)=wz at jG uN bL N9 EM ⊢;try simp only[U]
     refine zO 5 ?_;go_simp;refine(Sz h g (g+1) (aD n) xM (λb=>b<w.heap.size) wz [_,_,_,_] uN (by rw[lY];omega) (Tm.ae.1 _ _ _ _ _ NZ (J.ob bL)) (λb hb=>⟨by have hb':b<w.heap.size:=hb;have :=bL.o.size;omega,λe=>by
      have hb':b<w.heap.size:=hb;rcases e with e|e;·omega
      ·have :=(uN.o.own.lt b e).1;omega⟩)).mono ?_;rintro e w5⟨rfl,mY,CZ,uO,YH⟩;have Hy:¬jF g xM pb:=λe=>by
      rcases e with e|e;·omega
      ·exact I.eG uN.o.own N9 af e
     have yX:¬jF g xM rb:=λe=>by
      rcases e with e|e;·omega
      ·exact I.eG uN.o.own EM af e
     have JZ:=Y ((uO.block pb (ax N9) Hy).trans N9);have N7:=Y ((uO.block rb (ax EM) yX).trans EM);have bH:=Y (Ch.below (Ch.trans (Ch.of_below (M:=jF g xM) bL) uO (λ_ h=> .inl h)) (λk hk e=>by
      rcases e with e|e;·omega
      ·have :=(uN.o.own.lt k e).1;omega));have A9:=Y CZ;rw[lY];have A8:¬jF g xM gb:=λe=>by
      rcases e with e|e;·omega
      ·have h1:=hown3.out _ e;have h2:=Hz.o;omega
     have H5:=Y ((uO.block gb (ax jG.o) A8).trans jG.o);refine⟨λk hk hF dR=>(uO.block pb (ax N9) Hy).trans (hF dR),?_⟩;clear Hy yX A8 uO YH CZ;try simp only[U]
     refine zO 6 ?_;go_simp;refine⟨λ_ _ h=>h,?_⟩;obtain⟨y0,y1,y2,y3,yf⟩:=aF H5;have lU:=ax H5;try simp only[U]
     refine zO 8 ?_;go_simp;refine⟨λk hk _ h1=>?_,zQ ?_⟩
     ·rcases h1 with h1|h1;·subst h1;exact absurd (show waits _ 8 1=true by kernel_rfl) (by rw[hk];decide)
      ·subst h1;exact absurd (show waits _ 8 4=true by kernel_rfl) (by rw[hk];decide)
     go_wp2_with fail;go_meet;have hch:Ch (λb=>b=gb) w5 w5:=Ch.refl _ _;have aM:=(((hch.setCell (p:=(gb,0)) (.inl rfl) (.slice none 0 0)).setCell (p:=(gb,1)) (.inl rfl) ↑n).setCell (p:=(gb,2)) (.inl rfl) ↑n).setCell (p:=(gb,3)) (.inl rfl) (.slice none 0 0);exact⟨gb,mY,rfl,⟨(Ch.trans (Ch.of_below (M:=λb=>b=gb) bH) aM (λ_ h=> .inl h)).below (λk hk e=>zB),A9.o.ch aM (λb hb e=>by
      rcases hb with hb|hb;·omega
      ·exact I.eG A9.o.own H5 af (e▸hb)),(aX (aX (aX (aX H5 0 _) 1 _) 2 _) 3 _).trans rfl,I.nil,(aM.block rb (ax N7) zB).trans N7,hgw,q4,zB,zB,zB⟩,(aM.block pb (ax JZ) zB).trans JZ⟩
   case rest=>
    obtain⟨gb,cv,rfl,hcd,YI⟩:=hcut;have SE:=Y hcd;obtain⟨x0,x1,x2,x3,x4,x5,xf⟩:=gY YI;have H6:=ax YI;have aqD:(aV (aD n) h).length<=56:=by have :=(NQ h (aD n)).2;rw[lY]at this;omega
    have pE:=Y (show(aK (aV (aD n) h) l).1.length<=1048576 by have :=EL l (aV (aD n) h);omega);clear hcd YI ji HB2 tK YG;go_wp2_with fail;clear x0 x1 x2 x3 x4 x5 xf H6;go_loopw[25](λi W=>∃(j:Nat)(cv gv:Value),j<=l.length/\i= ↑j/\SC w g gb rb (aK (aV (aD n) h) (l.take j)).1 (aK (aV (aD n) h) (l.take j)).2 (n:Int) (n:Int) cv gv W)(λi _=>l.length - (intOf i).toNat);case atStart=>exact⟨0,_,_,dA _,rfl,SE.out⟩
    case round=>
     obtain⟨j,cv,gv,hj,rfl,hcd⟩:=hrel;have CD:=Y hcd;obtain⟨hbel,hmk,pG,hown,hres,hgw,SF,hne1,hne2,xN⟩:=hcd;have hzb:=hbel.size;have hgb:=ax pG;obtain⟨na,nc,rfl,hnl,hnm⟩:=I.val hown;have NV:(aK (aV (aD n) h) (l.take j)).2.length=(l.take j).length:=yT _ _;have hll:(l.take j).length<=l.length:=by rw[dX];omega
     by_cases hlt:j<l.length
     ·obtain⟨rfl,bQ⟩:=wh zB;obtain⟨sa,sc,d0,d1,d2,d3,hr⟩:=lJ HE bQ (J.ob hbel) hlt;have hlt':(j:Int)<(l.length:Int):=zB;have hj0:(0:Int)<=(j:Int):=zN _;obtain⟨t,ht⟩:∃t,t=l[j]'hlt:=⟨_,rfl⟩;rw[<-ht]at d0 d1 d2 d3 hr;have HT:=Y ht;have nT:=Y hlt;have rT:=agh (aV (aD n) h) l j hlt;rw[<-ht]at rT;have HR:=Y (show Tm.rep (λb=>b<w.heap.size) _ t _ from Tm.ae.1 _ _ _ _ _ (YC.out t (by rw[ht];exact bN _) _ (J.ob hbel) hr) (J.alloc _ _ (.cells #[↑t.kind,↑t.n,.string t.s,.slice sa t.args.length sc] 34)));obtain⟨nn,hnn⟩:∃nn,nn=(aK (aV (aD n) h) (l.take j)).2.length:=⟨_,rfl⟩;rw[<-hnn]at pG hown CD hnl;have yV:=Y (hbel.alloc hbel.size (.cells #[↑t.kind,↑t.n,.string t.s,.slice sa t.args.length sc] 34));have kJ:=Y (hmk.below ((Z _ _).alloc (zL _) (.cells #[↑t.kind,↑t.n,.string t.s,.slice sa t.args.length sc] 34)));have fO:=Y (aI pG (.cells #[↑t.kind,↑t.n,.string t.s,.slice sa t.args.length sc] 34));have wm:=Y (bq wr (.cells #[↑t.kind,↑t.n,.string t.s,.slice sa t.args.length sc] 34));have HOW:=Y (I.below hown ((Z _ _).alloc (zL _) (.cells #[↑t.kind,↑t.n,.string t.s,.slice sa t.args.length sc] 34)));have xD:=Y (aI hres (.cells #[↑t.kind,↑t.n,.string t.s,.slice sa t.args.length sc] 34));obtain⟨ee,ik⟩:∃ee,ee=wr.heap.size:=⟨_,rfl⟩;have hsz0:ee<(wr.alloc (.cells #[↑t.kind,↑t.n,.string t.s,.slice sa t.args.length sc] 34)).heap.size:=by rw[ik];simp
      have heg:gb<ee:=zB;have hgg:=ax hmk.box;have aqF:g<ee:=zB;have hew:w.heap.size<=ee:=zB;rw[<-ik]at wm;have xK:=Y (λb(hb:ownB (.slice na nn nc)=some b)=>hown.lt b hb);have Ht:=Y (λb(hb:ownB cv=some b)=>hmk.own.lt b hb);have wy:=Y ik;have hbl:(aK (aV (aD n) h) (l.take j)).1.length+1+2*t.nodes<=4194304:=zB;clear hr ht hbel hmk pG hown hres rT NV hnn;go_wp2_with fail;clear d0 d1 d2 d3;rw[<-wy.o];clear ik;generalize wr.alloc (.cells #[↑t.kind,↑t.n,.string t.s,.slice sa t.args.length sc] 34)=wa at yV kJ fO wm HOW xD hsz0 HR ⊢;have hW1:wa.drew.heap[gb]?=some (.cells #[.slice none 0 0,↑n,↑n,.slice na nn nc] 67 (0,0))/\wa.drew.heap[ee]?=some (.cells #[↑t.kind,↑t.n,.string t.s,.slice sa t.args.length sc] 34 (0,0)):=⟨fO,wm⟩;refine jd (F:=λk w'=>k=1\/k=3->(w'.heap[gb]?=some (.cells #[.slice none 0 0,↑n,↑n,.slice na nn nc] 67 (0,0))/\w'.heap[ee]?=some (.cells #[↑t.kind,↑t.n,.string t.s,.slice sa t.args.length sc] 34 (0,0)))) zP ?_;refine zT 0 (λ_=>hW1) ?_;simp only[U];refine zY 1 (λ_=>hW1) ?_ (z:=by intro w' hw;obtain⟨q0,q1,q2,q3,qf⟩:=aF (hw zB).1;go_simp<;>with_reducible rfl);simp only[U];refine zT 2 (λ_=>hW1) ?_;simp only[U];refine zY 3 (λ_=>hW1) ?_ (z:=by intro w' hw;obtain⟨q0,q1,q2,q3,qf⟩:=aF (hw zB).2;go_simp<;>with_reducible rfl);simp only[U];refine zO 4 ?_;go_simp;refine(Sz t g (g+1) (aK (aV (aD n) h) (l.take j)).1 cv (λb=>b<w.heap.size) wa.drew [_,_,_,_] (kJ.o.below (Z _ _).drew) hbl (Tm.ae.1 _ _ _ _ _ HR (J.drew _ _)) (λb hb=>⟨by have hb':b<w.heap.size:=hb;have :=yV.out.size;simp;omega,λe=>by
       have hb':b<w.heap.size:=hb;rcases e with e|e;·omega
       ·have :=(Ht b e).1;omega⟩)).mono ?_;rintro e w2⟨rfl,mY,hm2,hc2,ho2⟩;have A8:¬jF g cv gb:=λe=>by
       rcases e with e|e;·exact hne1 e
       ·exact I.eG kJ.o.own fO af e
      have NW:¬jF g cv ee:=λe=>by
       rcases e with e|e;·omega
       ·have h1:=(Ht.o _ e).2;have h2:=wy.o;omega
      have yX:¬jF g cv rb:=fun e=>by
       rcases e with e|e;·exact hne2 e
       ·exact I.eG kJ.o.own xD af e
      have HB2:=Y (yV.out.drew.trans (((Ch.refl _ _).trans hc2 (λ_ h=> .inl h)).mono (M':=jF g cv) (λ_ _ h=>h)|> λh=>(show Below w.heap.size wa.drew w2 from⟨h.os,h.tape,h.output,h.size,λk hk=>h.block k (by have :=yV.out.size;simp;omega) (λe=>by
       rcases e with e|e;·omega
       ·have :=(Ht k e).1;omega)⟩)));have wB:=Y ((hc2.block gb (by simpa using ax fO) A8).trans (show wa.drew.heap[gb]?=_ from fO));have tK:=Y ((hc2.block rb (by simpa using ax xD) yX).trans (show wa.drew.heap[rb]?=_ from xD));have tL:=Y (I.kept HOW (w':=w2) (λb hb=>hc2.block b (by simpa using(HOW.o.lt b hb).2) (λe=>by
       rcases e with e|e;·have :=(HOW.o.lt b hb).1;omega
       ·exact tC af kJ.o.own HOW b e hb)));have ji:=Y hm2;refine⟨λk hk hF dR=>⟨(hc2.block gb (by simpa using ax fO) A8).trans (hF dR).1,(hc2.block ee (by simpa using ax wm) NW).trans (hF dR).2⟩,?_⟩;clear hc2 ho2 hm2 A8 NW yX hW1 kJ fO wm HOW xD xK yV HR;try simp only[U]
      refine zO 5 ?_;go_simp;refine⟨λk hk hF dR=>⟨aI (hF dR).1 _,aI (hF dR).2 _⟩,?_⟩;refine zO 6 ?_;have hz2:=ji.o.CX;have agk:(aK (aV (aD n) h) (l.take j)).1.length<=4194304:=zB;refine uC (.tmp 30) (.tmp 34) 57 rfl (g+1) 3 1 8 kC aN (.slice na nn nc) (aK (aV (aD n) h) (l.take j)).2 rfl (I.gT eu tL (λ_=>True)) ((aK (aV (aD n) h) (l.take j)).1.length:Int) [↑((aK (aV (aD n) h) (l.take j)).1.length:Int)] rfl rfl ⟨by unfold ah;omega,rfl⟩ ⟨by rw[yT];omega,hz2⟩ ?_;intro v2 w4 hown2 aj;have iR:=Y (I.fJ hown2);have yY:=ji.o.own;have hkc:∀b,ownB (.slice na nn nc)=some b->b≠gb/\b≠g/\b≠rb/\ownB mY≠some b:=λb hb=>⟨λe=>I.eG tL wB af (e▸hb),λe=>I.eG tL ji.o.box af (e▸hb),λe=>I.eG tL.o tK.o (by decide) (e▸hb),fun e=>tC (by decide) yY tL.o b e hb⟩;have lC:∀k,k<w2.heap.size->ownB (.slice na nn nc)≠some k->w4.heap[k]?=w2.heap[k]?:=fun k hk hn=>(aj.grown.block k (by simp;omega) (λe=>hn e.symm)).trans (QW _ _ _ hk);have wC:=Y ((lC gb (ax wB) (λe=>(hkc _ e).1 rfl)).trans wB);have EM:=Y ((lC rb (ax tK) (λe=>(hkc _ e).2.2.1 rfl)).trans tK);have NY:=Y ((lC g (ax ji.o.box) (λe=>(hkc _ e).2.1 rfl)).trans ji.o.box);have EN:=Y (I.kept yY (w':=w4) (λb hb=>lC b (yY.lt b hb).2 (λe=>(hkc b e).2.2.2 hb)));have lQ:=aj.size;have bL:=Y (aj.below (HB2.o.alloc HB2.o.size (.cells #[↑((aK (aV (aD n) h) (l.take j)).1.length:Int)] 3)) (by have :=HB2.o.size;simp;omega) (λb hb=>by have :=(tL.o.lt b hb).1;omega));refine⟨λk hk hF dR=>⟨(aj.grown.block gb (by have :=ax wB;simp;omega) (λe=>(hkc _ e.symm).1 rfl)).trans (hF dR).1,(aj.grown.block ee (ax (hF dR).2) (λe=>I.eG (I.below tL ((Z _ _).alloc (zL _) _)) (hF dR).2 af e.symm)).trans (hF dR).2⟩,?_⟩;obtain⟨aS,aT,hv2, -, -⟩:=I.val iR;rw[bB,dZ]at hv2;subst hv2;clear hown2 aj lC hkc yY;try simp only[U]
      refine zO 7 ?_;go_simp;refine⟨λ_ _ h=>h,?_⟩;obtain⟨y0,y1,y2,y3,yf⟩:=aF wC;have EO:=ax wC;refine zO 8 ?_;go_simp;refine⟨λk hk _ h1=>?_,zQ ?_⟩
      ·rcases h1 with h1|h1;·subst h1;exact absurd (show waits _ 8 1=true by kernel_rfl) (by rw[hk];decide)
       ·subst h1;exact absurd (show waits _ 8 3=true by kernel_rfl) (by rw[hk];decide)
      go_wp2_with fail;go_roundw;case rel=>
       have hgl:(aK (aV (aD n) h) (l.take j)).2.length+1=((aK (aV (aD n) h) (l.take j)).2++[((aK (aV (aD n) h) (l.take j)).1.length:Int)]).length:=zh;refine⟨j+1,mY,.slice aS ((aK (aV (aD n) h) (l.take j)).2.length+1) aT,zB,zd,?_⟩;rw[iq nT.o,YB,<-HT.o];refine⟨bL.o.setCell (by simp only;omega) _,⟨?_,?_,ji.o.lt,ji.o.len,?_⟩,(aX wC 3 _).trans rfl,?_,?_,hgw,SF,hne1,hne2,xN⟩;·rw[aW _ _ _ _ (by simp only;exactλe=>hne1 e.symm)];exact NY
       ·exact I.kept EN (λb hb=>aW _ _ _ _ (by simp only;exactλe=>I.eG EN wC af (e▸hb)))
       ·have :=ax NY;simp;omega
       ·exact I.kept iR (λb hb=>aW _ _ _ _ (by simp only;exactλe=>I.eG iR wC af (e▸hb)))
       ·rw[aW _ _ _ _ (by simp only;exact xN)];exact EM
      case measure=>first|(simp[intOf];done)|(simp[intOf];omega)
     ·have bZ:j=l.length:=zB;subst bZ;have hlt':¬((l.length:Int)<(l.length:Int)):=zB;obtain⟨ca,cc,rfl,hcl,hcm⟩:=I.val hmk.own;obtain⟨m0,mf⟩:=vZ hmk.box;obtain⟨y0,y1,y2,y3,yf⟩:=aF pG;obtain⟨r0,r1,r2,r3,rf⟩:=aF hres;have hgg:=ax hmk.box;have hrr:=ax hres;clear hlt hbel hmk pG hown hres NV;rw[nQ]at CD;have hxl:(aK (aV (aD n) h) (l.take l.length)).1=(aK (aV (aD n) h) l).1:=by rw[nQ]
      have hgl:(aK (aV (aD n) h) (l.take l.length)).2=(aK (aV (aD n) h) l).2:=by rw[nQ]
      rw[hxl]at m0 hcl;rw[hgl]at y3 hnl;clear hxl hgl;obtain⟨X,hX⟩:∃X,X=aK (aV (aD n) h) l:=⟨_,rfl⟩;rw[<-hX]at m0 hcl y3 hnl CD;have HX:=Y hX;clear hX;go_wp2_with fail;have hch:Ch (λb=>b=gb\/b=rb) wr wr:=Ch.refl _ _;have aM:=(((((hch.setCell (p:=(gb,0)) (.inl (.inl rfl)) (.slice ca X.1.length cc)).setCell (p:=(rb,0)) (.inl (.inr rfl)) (.slice ca X.1.length cc)).setCell (p:=(rb,1)) (.inl (.inr rfl)) ↑n).setCell (p:=(rb,2)) (.inl (.inr rfl)) ↑n).setCell (p:=(rb,3)) (.inl (.inr rfl)) (.slice na X.2.length nc));have YE:¬gb=rb:=λe=>xN e.symm;have c1:=CD.out.mkr.own;have c2:=CD.out.own;have c3:=CD.out.box;have c4:=CD.out.res;have Hu:=Ch.below (Ch.trans (Ch.of_below (M:=λb=>b=gb\/b=rb) CD.out.lW) aM (λ_ h=> .inl h)) (fun k hk e=>by omega);refine bX (v:= .tuple #[.agg #[.slice ca X.1.length cc,.int .i64 (n:Int),.int .i64 (n:Int),.slice na X.2.length nc],.int .i64 0]) (by simp[results,Tryz.results31,go_sem,hcs,r0,r1,r2,r3,y0,y1,y2,y3,xN,YE];try rfl) rfl ?_;rw[Hq.o];have YF:=pE.o;rw[<-HX.o]at YF;refine Pure.mk Hu ⟨_,_,rfl,?_,?_⟩
      ·show sN _ _ (aK (aV (aD n) h) l).1 _;rw[<-HX.o];exact I.sl Ce.lM Ce.Cr (I.kept c1 (fun b hb=>aM.block b (c1.lt b hb).2 (fun e=>by
        rcases e with e|e;·exact I.eG c1 c3 (by decide) (e▸hb)
        ·exact I.eG c1 c4 (by decide) (e▸hb)))) (by omega) (fun b hb=>by have :=(c1.lt b hb).1;unfold New;omega)
      ·show gX _ _ (aK (aV (aD n) h) l).2 _;rw[<-HX.o];have hl2:=yT l (aV (aD n) h);rw[<-HX.o]at hl2;exact I.sl eu Az (I.kept c2 (fun b hb=>aM.block b (c2.lt b hb).2 (fun e=>by
        rcases e with e|e;·exact I.eG c2 c3 (by decide) (e▸hb)
        ·exact I.eG c2 c4 (by decide) (e▸hb)))) (by omega) (fun b hb=>by have :=(c2.lt b hb).1;unfold New;omega)
def Laid (L : List Ce) (g : Int → Int) : Int → Tm → Prop
  | a, .mk k n s l => ∃ x, Looks L a x ∧ ((k = 0 ∧ l = [] ∧ s = .empty ∧ x = g n ∧ (cellAt L x).kind = 0) ∨ (k = 1 ∧ l = [] ∧ n = 0 ∧ cellAt L x = ⟨1, 0, s⟩) ∨ (k = 2 ∧ l = [] ∧ s = .empty ∧ cellAt L x = ⟨2, n, .empty⟩) ∨
      (k = 3 ∧ n = 0 ∧ cellAt L x = ⟨3, (l.length : Int), s⟩ ∧ uP L g (x + 1) l))
where uP (L : List Ce) (g : Int → Int) : Int → List Tm → Prop
  | _, [] => True
  | a, t :: r => Laid L g a t ∧ uP L g (a + 1) r
def Agree(L c:List Ce)(k a b:Nat)(m:Nat):Prop:=∀i,((k<=i/\i<k+m)\/a<=i)->i<b->L[i]?=c[i]?
def agm:∀(t:Tm)(c:List Ce)(k i:Nat),i<c.length->i≠k->(dU c k t)[i]?=c[i]?:=by
 intro t;induction t using Tm.induct with
  |h p n s l g=>
   intro c k i b a;have m:∀(r:List Tm),(∀t∈r,t∈l)->∀(c:List Ce)(k i:Nat),i<c.length->(i<k\/k+r.length<=i)->(eZ c k r)[i]?=c[i]?:=by intro r;induction r with|nil=>intro _ c k i _ _;rfl|cons x r d=>intro e c k i b a;simp only[eZ,bn]at a ⊢;rw[d (λt j=>e t (sD _ j)) _ (k+1) i (by have :=(Hf x c k).1;omega) zB];exact g x (e x (rA ..)) c k i b zB
   simp only[dU];repeat' split
   ·exact Wi (sJ a)
   ·exact Wi (sJ a)
   ·exact Wi (sJ a)
   ·rw[m l (λ_ h=>h) _ _ i (by simp;omega) zB,vG (by simpa using b)];exact Wi (sJ a)
   ·rfl
def EP:∀(r:List Tm)(c:List Ce)(k i:Nat),i<c.length->(i<k\/k+r.length<=i)->(eZ c k r)[i]?=c[i]?|[],_,_,_,_,_=>rfl|x::r,c,k,i,b,a=>by simp only[eZ,bn]at a ⊢;rw[EP r _ (k+1) i (by have :=(Hf x c k).1;omega) zB];exact agm x c k i b zB
def ER(L:List Ce)(v:Nat):Prop:=∀i,i<v->L[i]?=some ⟨0,(i:Int),.empty⟩
def y7{L:List Ce}{i:Nat}{c:Ce}(h:L[i]?=some c):cellAt L (i:Int)=c/\Inb L (i:Int):=by have a:i<L.length:=(jQ.1 h).1;unfold cellAt Inb;rw[dF,h];exact⟨rfl,zB,zB⟩
def agn(v:Nat):∀(t:Tm)(c:List Ce)(k:Nat)(L:List Ce),t.Good (v:Int)->k<c.length->v<=k->ER L v->Agree L (dU c k t) k c.length (dU c k t).length 1->Laid L id (k:Int) t:=by
 intro t;induction t using Tm.induct with
  |h K n s l M=>
   intro c k L O o E q b;have P:∀(r:List Tm),(∀t∈r,t∈l)->(∀t∈r,t.Good (v:Int))->∀(c:List Ce)(k:Nat),k+r.length<=c.length->v<=k->Agree L (eZ c k r) k c.length (eZ c k r).length r.length->Laid.uP L id (k:Int) r:=by
    intro r;induction r with
     |nil=>intro _ _ c k _ _ _;simp only[Laid.uP]
     |cons x r C=>
      intro F u c k D E b;simp only[bn]at D b;simp only[eZ]at b;have A:=Hf x c k;have R:=xJ r (dU c k x) (k+1);simp only[Laid.uP];refine⟨M x (F x (rA ..)) c k L (u x (rA ..)) zB E q (λi z e=>?_),?_⟩;·rw[b i zB zB];exact EP r _ _ i e zB
      ·have :=C (λt y=>F t (sD _ y)) (λt y=>u t (sD _ y)) (dU c k x) (k+1) zB zB (λi z e=>b i zB zB);rw[show((k+1:Nat):Int)=(k:Int)+1 by omega]at this;exact this
   have a:=b k zB (by have :=(Hf (.mk K n s l) c k).1;omega);cases O with
    |var _ G A=>obtain⟨m,rfl⟩:=dH G;simp only[dU,if_true]at a;rw[V9 o]at a;obtain⟨d,f⟩:=y7 a;obtain⟨p,B⟩:=y7 (q m zB);rw[Laid];refine⟨(m:Int),.next f (λhs=>?_) (by rw[d];exact .stop B (.inr (by rw[p]))),.inl ⟨rfl,rfl,rfl,rfl,by rw[p]⟩⟩;unfold Stop at hs;rw[d]at hs;simp at hs;omega
    |atom _ h=>simp[dU]at a;rw[V9 o]at a;obtain⟨d,f⟩:=y7 a;rw[Laid];exact⟨(k:Int),.stop f (.inl (by rw[d];simp)),.inr (.inl ⟨rfl,rfl,rfl,d⟩)⟩
    |int _ G A=>simp[dU]at a;rw[V9 o]at a;obtain⟨d,f⟩:=y7 a;rw[Laid];exact⟨(k:Int),.stop f (.inl (by rw[d];simp)),.inr (.inr (.inl ⟨rfl,rfl,rfl,d⟩))⟩
    |comp _ _ h A R V Q=>
     have N:dU c k (.mk 3 0 s l)=eZ (c.set k ⟨0,(c.length:Int),.empty⟩++⟨3,(l.length:Int),s⟩::List.replicate l.length ⟨0,0,.empty⟩) (c.length+1) l:=by simp[dU]
     rw[N]at b a;have w:=xJ l (c.set k ⟨0,(c.length:Int),.empty⟩++⟨3,(l.length:Int),s⟩::List.replicate l.length ⟨0,0,.empty⟩) (c.length+1);simp only[bB,yB,bn,BX]at w;rw[EP l _ _ k (by simp;omega) zB,vG (by simpa using o),V9 o]at a;have g:=b c.length zB zB;rw[EP l _ _ c.length zh zB,yw zh]at g;simp only[yB,WB,yx]at g;obtain⟨d,f⟩:=y7 a;obtain⟨p,B⟩:=y7 g;rw[Laid];refine⟨(c.length:Int),.next f (λhs=>?_) (by rw[d];exact .stop B (.inl (by rw[p];simp))),.inr (.inr (.inr ⟨rfl,rfl,p,?_⟩))⟩;·unfold Stop at hs;rw[d]at hs;simp at hs;omega
     ·have :=P l (λ_ h=>h) Q (c.set k ⟨0,(c.length:Int),.empty⟩++⟨3,(l.length:Int),s⟩::List.replicate l.length ⟨0,0,.empty⟩) (c.length+1) (by simp;omega) zB (λi z e=>b i (by simp only[bB,yB,bn,BX]at z;omega) e);rw[show((c.length+1:Nat):Int)=(c.length:Int)+1 by omega]at this;exact this
def agp(v:Nat)(L:List Ce)(b:ER L v):∀(r:List Tm)(c:List Ce)(k:Nat),(∀t∈r,t.Good (v:Int))->k+r.length<=c.length->v<=k->Agree L (eZ c k r) k c.length (eZ c k r).length r.length->Laid.uP L id (k:Int) r
 |[],_,_,_,_,_,_=>by simp only[Laid.uP]
 |x::r,c,k,e,f,g,a=>by
  simp only[bn]at f a;simp only[eZ]at a;have m:=Hf x c k;have l:=xJ r (dU c k x) (k+1);simp only[Laid.uP];refine⟨agn v x c k L (e x (rA ..)) zB g b (λi j d=>?_),?_⟩;·rw[a i zB zB];exact EP r _ _ i d zB
  ·have :=agp v L b r (dU c k x) (k+1) (λt h=>e t (sD _ h)) zB zB (λi j d=>a i zB zB);rw[show((k+1:Nat):Int)=(k:Int)+1 by omega]at this;exact this
def agq(t:Tm)(c:List Ce)(i:Nat)(a:i<c.length):(aV c t)[i]?=c[i]?:=by
 unfold aV;split;·obtain⟨k,n,s,l⟩:=t;rw[xI,EP l _ _ i (by simp;omega) zB,vG a]
 ·rw[agm t _ _ i (by simp;omega) zB,vG a]
def agr(v:Nat)(t:Tm)(c L:List Ce)(k:t.Good (v:Int))(p:v<=c.length)(e:ER L v)(a:∀i,c.length<=i->i<(aV c t).length->L[i]?=(aV c t)[i]?):Laid L id (c.length:Int) t:=by
 by_cases g:t.kind=3
 ·obtain⟨w,n,s,l⟩:=t;simp only[Tm.kind]at g;subst g;have q:aV c (.mk 3 n s l)=eZ (c++⟨3,(l.length:Int),s⟩::List.replicate l.length ⟨0,0,.empty⟩) (c.length+1) l:=by simp[aV,Tm.kind,xI]
  rw[q]at a;have f:=xJ l (c++⟨3,(l.length:Int),s⟩::List.replicate l.length ⟨0,0,.empty⟩) (c.length+1);simp only[bB,bn,BX]at f;have d:=a c.length (zL _) zB;rw[EP l _ _ c.length zh zB,yw (zL _)]at d;simp only[WB,yx]at d;obtain⟨m,u⟩:=y7 d;cases k with|comp _ _ h y x g r=>rw[Laid];refine⟨(c.length:Int),.stop u (.inl (by rw[m];simp)),.inr (.inr (.inr ⟨rfl,rfl,m,?_⟩))⟩;have :=agp v L e l (c++⟨3,(l.length:Int),s⟩::List.replicate l.length ⟨0,0,.empty⟩) (c.length+1) r (by simp;omega) zB (λi j b=>a i (by simp only[bB,bn,BX]at j;omega) b);rw[show((c.length+1:Nat):Int)=(c.length:Int)+1 by omega]at this;exact this
 ·rw[aV,O g]at a;refine agn v t (c++[⟨0,0,.empty⟩]) c.length L k zh p e (λi j b=>a i (by simp only[bB,dZ]at j;omega) b)
def J3:∀(l:List Tm)(c:List Ce)(i:Nat),i<c.length->(aK c l).1[i]?=c[i]?|[],_,_,_=>rfl|x::r,c,i,a=>by simp only[aK];rw[J3 r (aV c x) i (by have :=(NQ x c).1;omega)];exact agq x c i a
def YJ(v:Nat)(L:List Ce)(f:ER L v):∀(l:List Tm)(c:List Ce),(∀t∈l,t.Good (v:Int))->v<=c.length->(∀i,c.length<=i->i<(aK c l).1.length->L[i]?=(aK c l).1[i]?)->∀(j:Nat)(g:j<l.length),∃a,(aK c l).2[j]?=some a/\Laid L id a l[j]|[],_,_,_,_,j,g=>by simp at g|x::r,c,k,o,d,j,g=>by simp only[aK]at d ⊢;have u:=NQ x c;have s:=EL r (aV c x);cases j with|zero=>refine⟨(c.length:Int),rfl,agr v x c L (k x (rA ..)) o f (λi h hil=>?_)⟩;rw[d i h zB];exact J3 r _ i hil|succ j=>obtain⟨a,e,q⟩:=YJ v L f r (aV c x) (λt p=>k t (sD _ p)) zB (λi h hil=>d i zB hil) j (by simpa using g);exact⟨a,by simpa using e,by simpa using q⟩
section
variable {H F : List Ce}
def ES{a:Int}(h:Inb F a):cellAt (H++F.map (dn H.length)) (a+(H.length:Int))=dn H.length (cellAt F a)/\Inb (H++F.map (dn H.length)) (a+(H.length:Int)):=by
 obtain⟨e,f⟩:=h;obtain⟨k,rfl⟩:=dH e;have b:k<F.length:=zB;have d:(H++F.map (dn H.length))[H.length+k]?=some (dn H.length F[k]):=by rw[yw zB,xg,Nat.add_sub_cancel_left,aJ b];rfl
 have c:=y7 d;rw[show((H.length+k:Nat):Int)=(k:Int)+(H.length:Int)by omega]at c;rw[jR b];exact c
def J4(b:Nat)(c:Ce):(dn b c).kind=c.kind:=by unfold dn;split<;>rfl
def C9(b:Nat){c:Ce}(h:c.kind≠0):dn b c=c:=by unfold dn;rw[O h]
def J5(b:Nat){c:Ce}(h:c.kind=0):(dn b c).n=c.n+b:=by unfold dn;rw[G h]
def aqK{a x:Int}(h:Looks F a x):Looks (H++F.map (dn H.length)) (a+(H.length:Int)) (x+(H.length:Int)):=by
 induction h with
  |@stop i f b=>
   obtain⟨c,g⟩:=ES (H:=H) f;refine .stop g ?_;rcases b with b|b;·exact .inl (by rw[c,J4];exact b)
   ·by_cases hk:(cellAt F i).kind=0;·exact .inr (by rw[c,J5 _ hk,b])
    ·exact .inl (by rw[c,J4];exact hk)
  |@next i k f b _ j=>
   obtain⟨c,g⟩:=ES (H:=H) f;have hk:(cellAt F i).kind=0:=DY λhk=>b (.inl hk);refine .next g (λhs=>b ?_) (by rw[c,J5 _ hk];exact j);rcases hs with hs|hs;·rw[c,J4]at hs;exact .inl hs
   ·rw[c,J5 _ hk]at hs;exact .inr zB
def ags:∀(t:Tm)(a:Int),Laid F id a t->Laid (H++F.map (dn H.length)) (λn=>n+(H.length:Int)) (a+(H.length:Int)) t:=by
 intro t;induction t using Tm.induct with
  |h k n s l o=>
   intro a h;have u:∀(r:List Tm),(∀t∈r,t∈l)->∀a,Laid.uP F id a r->Laid.uP (H++F.map (dn H.length)) (λn=>n+(H.length:Int)) (a+(H.length:Int)) r:=by intro r;induction r with|nil=>intro _ a _;simp only[Laid.uP]|cons x r g=>intro j a h;simp only[Laid.uP]at h ⊢;refine⟨o x (j x (rA ..)) a h.1,?_⟩;have :=g (λt p=>j t (sD _ p)) _ h.2;rw[show a+1+(H.length:Int)=a+(H.length:Int)+1 by omega]at this;exact this
   rw[Laid]at h ⊢;obtain⟨x,i,q⟩:=h;obtain⟨f,y⟩:=ES (H:=H) i.end_.1;refine⟨x+(H.length:Int),aqK i,?_⟩;rcases q with⟨e,d,c,b,v⟩|⟨e,d,c,b⟩|⟨e,d,c,b⟩|⟨e,d,c,b⟩;·exact .inl ⟨e,d,c,by rw[b];rfl,by rw[f,J4];exact v⟩
   ·exact .inr (.inl ⟨e,d,c,by rw[f,C9 _ (by rw[b];simp),b]⟩)
   ·exact .inr (.inr (.inl ⟨e,d,c,by rw[f,C9 _ (by rw[b];simp),b]⟩))
   ·refine .inr (.inr (.inr ⟨e,d,by rw[f,C9 _ (by rw[c];simp),c],?_⟩));have :=u l (λ_ h=>h) _ b;rw[show x+1+(H.length:Int)=x+(H.length:Int)+1 by omega]at this;exact this
end
def pI(N:Nat)(c:List Ce):Prop:=∀(i:Nat)(x:Ce),c[i]?=some x->x.fU N i
def pI.set{N:Nat}{c:List Ce}{k:Nat}{x:Ce}(h:pI N c)(b:x.fU N k):pI N (c.set k x):=by
 intro i y a;rw[List.getElem?_set]at a;split at a
 ·rename_i e;subst e;split at a;·simp only[bW]at a;subst a;exact b
  ·cases a
 ·exact h i y a
def pI.append{N:Nat}{c d:List Ce}(h:pI N c)(b:∀(i:Nat)(x:Ce),d[i]?=some x->x.fU N (c.length+i)):pI N (c++d):=by
 intro i y a;rw[List.getElem?_append]at a;split at a;·exact h i y a
 ·rename_i e;have :=b _ _ a;rwa[show c.length+(i - c.length)=i by omega]at this
def J6:ByteArray.empty.toList=[]:=Jd.1 (toList_nil.2 rfl)
def agt{N i:Nat}(h:0<N):(⟨0,0,.empty⟩:Ce).fU N i:= .inl ⟨rfl,zh,by simpa using h,J6⟩
def YK{s:ByteArray}(h:Ec s):s.toList≠[]:=by
 intro e;have h1:=toList_nil.1 (by rw[e];rfl);subst h1;rcases h with h|⟨h, -⟩;·exact absurd h af
 ·exact absurd h af
def agu{N:Nat}{c:List Ce}{s:ByteArray}{n:Nat}(h:pI N c)(e:s.toList≠[])(j:1<=n)(g:n<=4)(f:c.length+1+n<=N):pI N (c++⟨3,(n:Int),s⟩::List.replicate n ⟨0,0,.empty⟩):=by
 refine h.append λi x a=>?_;cases i with
  |zero=>simp only[yx,bW]at a;subst a;exact .inr (.inr (.inr ⟨rfl,by simp only;omega,by simp only;omega,by simp only;omega,e⟩))
  |succ i=>
   simp only[List.getElem?_cons_succ,V8]at a;split at a;·simp only[bW]at a;subst a;exact agt zB
   ·cases a
def agv{v N:Nat}(H:v<=N):∀(t:Tm)(c:List Ce)(k:Nat),t.Good (v:Int)->pI N c->(dU c k t).length<=N->pI N (dU c k t):=by
 intro t;induction t using Tm.induct with
  |h G n s l w=>
   intro c k z e a;have A:∀(r:List Tm),(∀t∈r,t∈l)->(∀t∈r,t.Good (v:Int))->∀(c:List Ce)(k:Nat),pI N c->(eZ c k r).length<=N->pI N (eZ c k r):=by intro r;induction r with|nil=>intro _ _ c k h _;exact h|cons x r g=>intro i b c k h a;simp only[eZ]at a ⊢;have j:=(xJ r (dU c k x) (k+1)).1;exact g (λt f=>i t (sD _ f)) (λt f=>b t (sD _ f)) _ _ (w x (i x (rA ..)) c k (b x (rA ..)) h zB) a
   cases z with
    |var _ o m=>simp only[dU,if_true];exact e.set (.inl ⟨rfl,o,by simp only;omega,J6⟩)
    |atom _ h=>simp[dU];exact e.set (.inr (.inl ⟨rfl,rfl,YK h⟩))
    |int _ o m=>simp[dU];exact e.set (.inr (.inr (.inl ⟨rfl,J6⟩)))
    |comp _ _ h m j C B=>
     have y:dU c k (.mk 3 0 s l)=eZ (c.set k ⟨0,(c.length:Int),.empty⟩++⟨3,(l.length:Int),s⟩::List.replicate l.length ⟨0,0,.empty⟩) (c.length+1) l:=by simp[dU]
     rw[y]at a ⊢;have d:=(xJ l (c.set k ⟨0,(c.length:Int),.empty⟩++⟨3,(l.length:Int),s⟩::List.replicate l.length ⟨0,0,.empty⟩) (c.length+1)).1;simp only[bB,yB,bn,BX]at d;refine A l (λ_ h=>h) B _ _ (agu (e.set (.inl ⟨rfl,by simp only;omega,by simp only;omega,J6⟩)) (YK h) j C (by simp;omega)) a
def agw{v N:Nat}(d:v<=N):∀(r:List Tm)(c:List Ce)(k:Nat),(∀t∈r,t.Good (v:Int))->pI N c->(eZ c k r).length<=N->pI N (eZ c k r)|[],_,_,_,h,_=>h|x::r,c,k,a,h,b=>by simp only[eZ]at b ⊢;have f:=(xJ r (dU c k x) (k+1)).1;exact agw d r _ _ (λt e=>a t (sD _ e)) (agv d x c k (a x (rA ..)) h zB) b
def agx{v N:Nat}(j:v<=N)(t:Tm)(c:List Ce)(f:t.Good (v:Int))(g:pI N c)(d:(aV c t).length<=N)(h0:0<N):pI N (aV c t):=by
 by_cases a:t.kind=3
 ·obtain⟨w,n,s,l⟩:=t;simp only[Tm.kind]at a;subst a;have p:aV c (.mk 3 n s l)=eZ (c++⟨3,(l.length:Int),s⟩::List.replicate l.length ⟨0,0,.empty⟩) (c.length+1) l:=by simp[aV,Tm.kind,xI]
  rw[p]at d ⊢;have b:=(xJ l (c++⟨3,(l.length:Int),s⟩::List.replicate l.length ⟨0,0,.empty⟩) (c.length+1)).1;simp only[bB,bn,BX]at b;cases f with|comp _ _ h y r a q=>exact agw j l _ _ q (agu g (YK h) r a zB) d
 ·rw[aV,O a]at d ⊢;refine agv j t _ _ f (g.append λi x e=>?_) d;cases i with|zero=>simp only[yx,bW]at e;subst e;exact agt h0|succ i=>simp at e
def YL{v N:Nat}(e:v<=N)(d:0<N):∀(l:List Tm)(c:List Ce),(∀t∈l,t.Good (v:Int))->pI N c->(aK c l).1.length<=N->pI N (aK c l).1|[],_,_,h,_=>h|x::r,c,a,h,b=>by simp only[aK]at b ⊢;have g:=(EL r (aV c x)).1;exact YL e d r _ (λt f=>a t (sD _ f)) (agx e x c (a x (rA ..)) h zB d) b
def agy{n N:Nat}(h:n<=N):pI N (aD n):=by intro i x a;have b:=(jQ.1 a).1;rw[lY]at b;simp only[aD,xg,am0 b,pW,bW]at a;subst a;exact .inl ⟨rfl,zh,by simp only;omega,J6⟩
def agz(n:Nat):ER (aD n) n:=λi a=>by simp[aD,am0 a]
