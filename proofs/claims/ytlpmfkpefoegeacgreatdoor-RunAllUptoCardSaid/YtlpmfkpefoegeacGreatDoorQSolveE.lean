import Derived.Test.YtlpmfkpefoegeacGreatDoorQUbind
import Derived.Deep.DeepCutAuto
import Derived.BigRegion
import Derived.Test.YtlpmfkpefoegeacGreatDoorQCode
import Derived.StillTailTactics
namespace Go.Proofs.YtlpmfkpefoegeacGreatDoor
set_option maxRecDepth 99999
set_option maxHeartbeats 0
set_option linter.all false
open Go.RowKit
noncomputable def G8(k:Nat)(l:List Ce)(t:List Int)(x y:Int):Un:=if(cellAt l x).kind=0/\(cellAt l y).kind=0 then(if x=y then⟨true,l,t,k⟩else⟨true,fB l (max x y) (min x y),t++[max x y],k⟩)else if(cellAt l x).kind=0\/(cellAt l y).kind=0 then(if(bR l (if(cellAt l y).kind=0 then y else x) k [if(cellAt l y).kind=0 then x else y]).1=true\/(bR l (if(cellAt l y).kind=0 then y else x) k [if(cellAt l y).kind=0 then x else y]).2<0 then⟨false,l,t,(bR l (if(cellAt l y).kind=0 then y else x) k [if(cellAt l y).kind=0 then x else y]).2⟩else⟨true,fB l (if(cellAt l y).kind=0 then y else x) (if(cellAt l y).kind=0 then x else y),t++[if(cellAt l y).kind=0 then y else x],((min k (bR l (if(cellAt l y).kind=0 then y else x) k [if(cellAt l y).kind=0 then x else y]).2.toNat:Nat):Int)⟩)else if cellAt l x≠cellAt l y then⟨false,l,t,k⟩else if(cellAt l x).kind=3 then bD k ((argsAt x (cellAt l x).n).zip (argsAt y (cellAt l x).n)) l t else⟨true,l,t,k⟩
theorem adX(k:Nat)(a b:Int)(l:List Ce)(t:List Int):bD (k+1) [(a,b)] l t=if look l a<0\/look l b<0 then⟨false,l,t, -1⟩else G8 k l t (look l a) (look l b):=by rw[bD];simp only[GA,tN];rfl
def anU(g base:Nat)(cv tv:Value)(w:World)(u:Un)(e:Ending)(w':World):Prop:=e= .returned (.bool u.ok)/\lJ g base cv tv w u.cells u.trail u.work w'
def QD(g base:Nat)(k:Nat):Prop:=∀(cv tv:Value)(l:List Ce)(t:List Int)(a b:Int)(w:World),gU l->aA a->aA b->jY g base cv tv l t k w->Calls Tryz.prog 133 #[.pointer (some ⟨g,0,none⟩),.int .i64 a,.int .i64 b] w (anU g base cv tv w (bD k [(a,b)] l t))
theorem anV(g base:Nat):QD g base 0:=by intro cv tv l t a b w hgood ha hb h;have HU:=zh h;obtain⟨ca,cc,ta,tc,rfl,rfl,e1,e2,e3,e4⟩:=h.vals;obtain⟨h1,h2,h3,h4,h5,h6,h7,h8⟩:=h;obtain⟨x0,x1,x2,xf⟩:=gH h1;have hcs:=dH;clear h1 h2 h3 hgood;rw[JS];go_enter Tryz.func133,Tryz.ntmps133;go_wp2_with fail;go_ret;exact⟨rfl,lJ.yw (HU.o.turn (k':= -1) (by decide) (by decide)) (CK _ _ _ _)⟩
theorem anW(g base:Nat)(k:Nat)(ih:∀m,m<=k->QD g base m):QD g base (k+1):=by
 intro cv tv l t a b w hgood ha hb h;have HU:=zh h;obtain⟨ca,cc,ta,tc,rfl,rfl,e1,e2,e3,e4⟩:=h.vals;have hlt:=h.lt;have jC:=zh (HU.o.turn (k':=k) (by omega) (by omega));obtain⟨h1,h2,h3,h4,h5,h6,h7,h8⟩:=h;obtain⟨x0,x1,x2,xf⟩:=gH h1;have hcs:=dH;have adD:(k:Int)<=400:=by omega
 have hkt:(t.length:Int)+1+k<=70000:=by omega
 have zJ:=zh ha;have ug:=zh hb;have HG:=zh hgood;have IH:=zh ih;rw[show((k+1:Nat):Int)=(k:Int)+1 by omega]at x2;clear h1 h2 h3 h6 h7 h8 ha hb hgood ih;go_enter Tryz.func133,Tryz.ntmps133;go_wp2_with fail;generalize HW1:w.setCell ⟨g,2,none⟩ (.int .i64 (k:Int))=W1 at jC ⊢;have dV:Hd (∀w',Below W1.heap.size W1 w'->w'.cell? ⟨g,0,none⟩=some (.slice ca l.length cc)/\w'.cell? ⟨g,1,none⟩=some (.slice ta t.length tc)):=zh fun w' hb=>by obtain⟨z0,z1, -⟩:=gH (jC.o.below hb).1;exact⟨z0,z1⟩
 clear x0 x1 x2 xf;refine ado (Inv:=fun w'=>Below W1.heap.size W1 w') (Po:=posts [aQ (.pointer (some ⟨g,0,none⟩)),aQ (.pointer (some ⟨g,0,none⟩)),aQ (.pointer (some ⟨g,0,none⟩)),aQ (.agg #[.slice ca l.length cc,.slice ta t.length tc]),aQ (.int .i64 a),aQ (.int .i64 (look l a)),aQ (.pointer (some ⟨g,0,none⟩)),aQ (.pointer (some ⟨g,0,none⟩)),aQ (.pointer (some ⟨g,0,none⟩)),aQ (.agg #[.slice ca l.length cc,.slice ta t.length tc]),aQ (.int .i64 b),aQ (.int .i64 (look l b)),aQ (.int .i64 (look l a)),aQ (.int .i64 (look l b))]) (Rl:=fun w w'=>Below w.heap.size w w') (by kernel_rfl) (by kernel_rfl) (by kernel_rfl) ((zB _ _).drew) ?_ ?_ ?_ ?_;·refine wK fun R hR=>?_;simp only[gK,uQ,pz]at hR;rcases hR with rfl|rfl|rfl|rfl|rfl|rfl|rfl|rfl|rfl|rfl|rfl|rfl|rfl|rfl<;>first|exact wJ _|exact EH|exact EI _|exact EJ _|exact EK _|exact EL _|exact EM _|exact EN _|exact EO _|exact CJ _ _|exact A7 _ _
 ·exact fun w1 w2 h h'=>h.trans (h'.mono h.size)
 ·intro i o ho f ac ww hinv hpo hdst hold;match i,ho with|0,ho=>obtain rfl:_=o:=zI ho;have t0:=hold 0 (by kernel_rfl);refine Or.inl ⟨aK rfl,?_⟩;clear hdst hpo hold ho hinv;unfold aI;go_simp;exact⟨rfl,zB _ _⟩|1,ho=>obtain rfl:_=o:=zI ho;have t22:=hdst 0 22 (by kernel_rfl) (by kernel_rfl);have p0:=hpo 0 (by kernel_rfl);refine Or.inl ⟨aK rfl,?_⟩;clear hdst hpo hold ho;rw[show f 0=_ from p0]at t22;clear hinv;unfold aI;go_simp;exact⟨rfl,zB _ _⟩|2,ho=>obtain rfl:_=o:=zI ho;have t23:=hdst 1 23 (by kernel_rfl) (by kernel_rfl);have p1:=hpo 1 (by kernel_rfl);refine Or.inl ⟨aK rfl,?_⟩;clear hdst hpo hold ho;rw[show f 1=_ from p1]at t23;clear hinv;unfold aI;go_simp;exact⟨rfl,zB _ _⟩|3,ho=>obtain rfl:_=o:=zI ho;have t24:=hdst 2 24 (by kernel_rfl) (by kernel_rfl);have p2:=hpo 2 (by kernel_rfl);refine Or.inl ⟨aK rfl,?_⟩;clear hdst hpo hold ho;rw[show f 2=_ from p2]at t24;obtain⟨x0,x1⟩:=dV.o ww hinv;unfold aI;go_simp;exact⟨rfl,zB _ _⟩|4,ho=>obtain rfl:_=o:=zI ho;have t1:=hold 1 (by kernel_rfl);refine Or.inl ⟨aK rfl,?_⟩;clear hdst hpo hold ho hinv;unfold aI;go_simp;exact⟨rfl,zB _ _⟩|5,ho=>obtain rfl:_=o:=zI ho;have t25:=hdst 3 25 (by kernel_rfl) (by kernel_rfl);have p3:=hpo 3 (by kernel_rfl);have t26:=hdst 4 26 (by kernel_rfl) (by kernel_rfl);have p4:=hpo 4 (by kernel_rfl);refine Or.inl ⟨aK rfl,?_⟩;clear hdst hpo hold ho;rw[show f 3=_ from p3]at t25;rw[show f 4=_ from p4]at t26;unfold aI;go_simp;have hU:=jC.o.below hinv;refine(look_ok ⟨l,t⟩ a zJ.o (fun _=>True) _ _ hU.rep).mono ?_;rintro e w1⟨r,rfl,hb,rfl⟩;exact⟨_,rfl,rfl,hb⟩|6,ho=>obtain rfl:_=o:=zI ho;have t0:=hold 0 (by kernel_rfl);refine Or.inl ⟨aK rfl,?_⟩;clear hdst hpo hold ho hinv;unfold aI;go_simp;exact⟨rfl,zB _ _⟩|7,ho=>obtain rfl:_=o:=zI ho;have t28:=hdst 6 28 (by kernel_rfl) (by kernel_rfl);have p6:=hpo 6 (by kernel_rfl);refine Or.inl ⟨aK rfl,?_⟩;clear hdst hpo hold ho;rw[show f 6=_ from p6]at t28;clear hinv;unfold aI;go_simp;exact⟨rfl,zB _ _⟩|8,ho=>obtain rfl:_=o:=zI ho;have t29:=hdst 7 29 (by kernel_rfl) (by kernel_rfl);have p7:=hpo 7 (by kernel_rfl);refine Or.inl ⟨aK rfl,?_⟩;clear hdst hpo hold ho;rw[show f 7=_ from p7]at t29;clear hinv;unfold aI;go_simp;exact⟨rfl,zB _ _⟩|9,ho=>obtain rfl:_=o:=zI ho;have t30:=hdst 8 30 (by kernel_rfl) (by kernel_rfl);have p8:=hpo 8 (by kernel_rfl);refine Or.inl ⟨aK rfl,?_⟩;clear hdst hpo hold ho;rw[show f 8=_ from p8]at t30;obtain⟨x0,x1⟩:=dV.o ww hinv;unfold aI;go_simp;exact⟨rfl,zB _ _⟩|10,ho=>obtain rfl:_=o:=zI ho;have t2:=hold 2 (by kernel_rfl);refine Or.inl ⟨aK rfl,?_⟩;clear hdst hpo hold ho hinv;unfold aI;go_simp;exact⟨rfl,zB _ _⟩|11,ho=>obtain rfl:_=o:=zI ho;have t31:=hdst 9 31 (by kernel_rfl) (by kernel_rfl);have p9:=hpo 9 (by kernel_rfl);have t32:=hdst 10 32 (by kernel_rfl) (by kernel_rfl);have pR:=hpo 10 (by kernel_rfl);refine Or.inl ⟨aK rfl,?_⟩;clear hdst hpo hold ho;rw[show f 9=_ from p9]at t31;rw[show f 10=_ from pR]at t32;unfold aI;go_simp;have hU:=jC.o.below hinv;refine(look_ok ⟨l,t⟩ b ug.o (fun _=>True) _ _ hU.rep).mono ?_;rintro e w1⟨r,rfl,hb,rfl⟩;exact⟨_,rfl,rfl,hb⟩|12,ho=>obtain rfl:_=o:=zI ho;have t27:=hdst 5 27 (by kernel_rfl) (by kernel_rfl);have p5:=hpo 5 (by kernel_rfl);refine Or.inl ⟨aK rfl,?_⟩;clear hdst hpo hold ho;rw[show f 5=_ from p5]at t27;clear hinv;unfold aI;go_simp;exact⟨rfl,zB _ _⟩|13,ho=>obtain rfl:_=o:=zI ho;have t33:=hdst 11 33 (by kernel_rfl) (by kernel_rfl);have su:=hpo 11 (by kernel_rfl);refine Or.inl ⟨aK rfl,?_⟩;clear hdst hpo hold ho;rw[show f 11=_ from su]at t33;clear hinv;unfold aI;go_simp;exact⟨rfl,zB _ _⟩|i+14,ho=>simp at ho
 ·intro f ww hinv hpo;have zK:(aQ (.int .i64 (look l a))) (f 12) ww:=hpo 12 (by decide);have EP:(aQ (.int .i64 (look l b))) (f 13) ww:=hpo 13 (by decide);simp only[gY,xI,wC,xK];rw[show f 12=_ from zK,show f 13=_ from EP];have dx:=zh (jC.o.below hinv);have iL:=zh (show Ch (fun b=>b=g) w ww from by subst HW1;exact(CK _ _ _ _).tb hinv);have hga:=acT l a;obtain⟨y0,y1,y2,yf⟩:=gH dx.o.1;clear hinv hpo zK EP HW1;by_cases hneg:look l a<0\/look l b<0;·have HR:=zh (show bD (k+1) [(a,b)] l t=⟨false,l,t, -1⟩by rw[adX,ai hneg]);go_wp2_with fail;all_goals go_ret;rw[HR.o];exact⟨rfl,lJ.yw (dx.o.turn (k':= -1) (by decide) (by omega)) (iL.o.Qn _ _)⟩
  obtain⟨x,hx,hxl,hcx⟩:=oq (JP (l:=l) (a:=a) (by omega)).1;obtain⟨y,hy,hyl,hcy⟩:=oq (JP (l:=l) (a:=b) (by omega)).1;have anX:=zh (adX k a b l t);have anY:=zh hneg;have HX:=zh hx;have HY:=zh hy;have zM:=zh (show cellAt l (x:Int)=l[x]by rw[<-hx];exact hcx);have CS:=zh (show cellAt l (y:Int)=l[y]by rw[<-hy];exact hcy);have KQ:=HG.o x hxl;have G9:=HG.o y hyl;rw[hx,hy];have hx0:(0:Int)<=(x:Int):=zN _;have hx1:(x:Int)<(l.length:Int):=by omega
  have hy0:(0:Int)<=(y:Int):=zN _;have hy1:(y:Int)<(l.length:Int):=by omega
  obtain⟨cb,rfl,bI,c0,c1,c2,hok, -,hcb, -⟩:=jh.cell dx.o.2.1 hxl;obtain⟨cb',e, -,d0,d1,d2,hok', -, -, -⟩:=jh.cell dx.o.2.1 hyl;simp only[dm,uR,lF]at e;subst e;have dE:=zh bI;have hgw:g<ww.heap.size:=dx.o.lt.1;clear hx hy hcx hcy hneg hga bI;have zx:=zh (show bD (k+1) [(a,b)] l t=G8 k l t x y by rw[anX.o,ag anY.o,HX.o,HY.o]);go_wp2_with fail;refine(zD _ _ _ _ _ _ _ _ dx.o x hxl).mono ?_;rintro e w3⟨rfl,rfl⟩;by_cases hk:l[x].kind=0
  ·rw[hk];by_cases hk2:l[y].kind=0
   ·have HR:=zh (show bD (k+1) [(a,b)] l t=if(x:Int)=y then⟨true,l,t,k⟩else⟨true,fB l (max (x:Int) y) (min (x:Int) y),t++[max (x:Int) y],k⟩by rw[zx.o,G8,zM.o,CS.o,ai ⟨hk,hk2⟩]);go_wp2_with fail;refine(zD _ _ _ _ _ _ _ _ dx.o y hyl).mono ?_;rintro e w3⟨rfl,rfl⟩;rw[hk2];clear KQ G9 hk hk2 c0 c1 c2 d0 d1 d2;rcases Nat.lt_trichotomy x y with hxy|hxy|hxy
    ·have hxy':((x:Int)!= (y:Int))=true:=by simp;omega
     have hm1:max (x:Int) (y:Int)=(y:Int):=by omega
     have hm2:min (x:Int) (y:Int)=(x:Int):=by omega
     have hres:=zh (show bD (k+1) [(a,b)] l t=⟨true,fB l (y:Int) (x:Int),t++[(y:Int)],k⟩by rw[HR.o,ag (by omega),hm1,hm2]);have fe:=zh hm1;have gX:=zh hm2;clear hm1 hm2;go_wp2_with fail;try rw[fe.o,gX.o]
     refine(bind_ok g base _ _ l t (k:Int) ww dx.o (by omega) y hyl (x:Int) (by unfold aA;omega)).mono ?_;rintro e w6⟨r,rfl,hst⟩;have HST:=zh hst;clear hst;go_wp2_with fail;go_ret;rw[hres.o];exact⟨rfl,lJ.trans (iL.o.mono fun x _ e=> .inl e) (fun b h=> .inl h) HST.o⟩
    ·subst hxy;have hres:=zh (show bD (k+1) [(a,b)] l t=⟨true,l,t,k⟩by rw[HR.o,ai rfl]);go_wp2_with fail;go_ret;rw[hres.o];exact⟨rfl,lJ.yw dx.o iL.o⟩
    ·have hxy':((x:Int)!= (y:Int))=true:=by simp;omega
     have hm1:max (x:Int) (y:Int)=(x:Int):=by omega
     have hm2:min (x:Int) (y:Int)=(y:Int):=by omega
     have hres:=zh (show bD (k+1) [(a,b)] l t=⟨true,fB l (x:Int) (y:Int),t++[(x:Int)],k⟩by rw[HR.o,ag (by omega),hm1,hm2]);have fe:=zh hm1;have gX:=zh hm2;clear hm1 hm2;go_wp2_with fail;try rw[fe.o,gX.o]
     refine(bind_ok g base _ _ l t (k:Int) ww dx.o (by omega) x hxl (y:Int) (by unfold aA;omega)).mono ?_;rintro e w6⟨r,rfl,hst⟩;have HST:=zh hst;clear hst;go_wp2_with fail;go_ret;rw[hres.o];exact⟨rfl,lJ.trans (iL.o.mono fun x _ e=> .inl e) (fun b h=> .inl h) HST.o⟩
   ·have zO:(l[y].kind==0)=false:=by simpa using hk2
    have HR:=zh (show bD (k+1) [(a,b)] l t=(if(bR l (x:Int) k [(y:Int)]).1=true\/(bR l (x:Int) k [(y:Int)]).2<0 then⟨false,l,t,(bR l (x:Int) k [(y:Int)]).2⟩else⟨true,fB l (x:Int) (y:Int),t++[(x:Int)],((min k (bR l (x:Int) k [(y:Int)]).2.toNat:Nat):Int)⟩)by rw[zx.o,G8,zM.o,CS.o,ag (fun h=>hk2 h.2),ai (.inl hk)];simp only[ag hk2]);go_wp2_with fail;refine(zD _ _ _ _ _ _ _ _ dx.o y hyl).mono ?_;rintro e w3⟨rfl,rfl⟩;rw[zO];go_wp2_with fail;refine(zD _ _ _ _ _ _ _ _ dx.o y hyl).mono ?_;rintro e w3⟨rfl,rfl⟩;rw[zO];go_wp2_with fail;refine(zD _ _ _ _ _ _ _ _ dx.o x hxl).mono ?_;rintro e w3⟨rfl,rfl⟩;rw[hk];clear KQ G9 hk hk2 zO c0 c1 c2 d0 d1 d2;go_wp2_with fail;refine(adF g base (.slice (some ⟨cb,0,none⟩) l.length cc) (.slice ta t.length tc) l t (x:Int) (by unfold aA;omega) HG.o k (y:Int) ww (by unfold aA;omega) dx.o).mono ?_;rintro e w5⟨rfl,lH,mO⟩;have eF:=zh mO;have nG:=zh (iL.o.trans lH (fun _ h=> .inl h));obtain⟨q0,q1,q2,qf⟩:=gH mO.1;have CL:=Gz l (x:Int) k [(y:Int)];have x8:=JR l (x:Int) k [(y:Int)];generalize bR l (x:Int) k [(y:Int)]=p at*;obtain⟨pf,pw⟩:=p;simp only at CL x8 q0 q1 q2;obtain⟨hp1,hp2⟩:=CL;have Ko:=zh x8;clear mO lH x8 y0 y1 y2 yf;cases pf with
     |true=>have hpw:0<=pw:=Ko.o rfl;have hres:=zh (show bD (k+1) [(a,b)] l t=⟨false,l,t,pw⟩by rw[HR.o,ai (.inl rfl)]);go_wp2_with fail;go_ret;rw[hres.o];exact⟨rfl,lJ.yw eF.o nG.o⟩
     |false=>
      by_cases hpw:pw<0;·have hres:=zh (show bD (k+1) [(a,b)] l t=⟨false,l,t,pw⟩by rw[HR.o,ai (.inr hpw)]);go_wp2_with fail;go_ret;rw[hres.o];exact⟨rfl,lJ.yw eF.o nG.o⟩
      ·obtain⟨pm,rfl⟩:=dQ (show 0<=pw by omega);have hres:=zh (show bD (k+1) [(a,b)] l t=⟨true,fB l (x:Int) (y:Int),t++[(x:Int)],(pm:Int)⟩by rw[HR.o,ag (by simp),show min k (pm:Int).toNat=pm by simp;omega]);go_wp2_with fail;refine(bind_ok g base _ _ l t (pm:Int) w5 eF.o (by omega) x hxl (y:Int) (by unfold aA;omega)).mono ?_;rintro e w6⟨r,rfl,hst⟩;have HST:=zh hst;clear hst q0 q1 q2 qf;go_wp2_with fail;go_ret;rw[hres.o];exact⟨rfl,lJ.trans (nG.o.mono fun x _ e=> .inl e) (fun b h=> .inl h) HST.o⟩
  ·have hk':(l[x].kind==0)=false:=by simpa using hk
   rw[hk'];by_cases hk2:l[y].kind=0
   ·have HR:=zh (show bD (k+1) [(a,b)] l t=(if(bR l (y:Int) k [(x:Int)]).1=true\/(bR l (y:Int) k [(x:Int)]).2<0 then⟨false,l,t,(bR l (y:Int) k [(x:Int)]).2⟩else⟨true,fB l (y:Int) (x:Int),t++[(y:Int)],((min k (bR l (y:Int) k [(x:Int)]).2.toNat:Nat):Int)⟩)by rw[zx.o,G8,zM.o,CS.o,ag (fun h=>hk h.1),ai (.inr hk2)];simp only[ai hk2]);go_wp2_with fail;refine(zD _ _ _ _ _ _ _ _ dx.o y hyl).mono ?_;rintro e w3⟨rfl,rfl⟩;rw[hk2];go_wp2_with fail;refine(zD _ _ _ _ _ _ _ _ dx.o y hyl).mono ?_;rintro e w3⟨rfl,rfl⟩;rw[hk2];clear KQ G9 hk hk2 hk' c0 c1 c2 d0 d1 d2;go_wp2_with fail;refine(adF g base (.slice (some ⟨cb,0,none⟩) l.length cc) (.slice ta t.length tc) l t (y:Int) (by unfold aA;omega) HG.o k (x:Int) ww (by unfold aA;omega) dx.o).mono ?_;rintro e w5⟨rfl,lH,mO⟩;have eF:=zh mO;have nG:=zh (iL.o.trans lH (fun _ h=> .inl h));obtain⟨q0,q1,q2,qf⟩:=gH mO.1;have CL:=Gz l (y:Int) k [(x:Int)];have x8:=JR l (y:Int) k [(x:Int)];generalize bR l (y:Int) k [(x:Int)]=p at*;obtain⟨pf,pw⟩:=p;simp only at CL x8 q0 q1 q2;obtain⟨hp1,hp2⟩:=CL;have Ko:=zh x8;clear mO lH x8 y0 y1 y2 yf;cases pf with
     |true=>have hpw:0<=pw:=Ko.o rfl;have hres:=zh (show bD (k+1) [(a,b)] l t=⟨false,l,t,pw⟩by rw[HR.o,ai (.inl rfl)]);go_wp2_with fail;go_ret;rw[hres.o];exact⟨rfl,lJ.yw eF.o nG.o⟩
     |false=>
      by_cases hpw:pw<0;·have hres:=zh (show bD (k+1) [(a,b)] l t=⟨false,l,t,pw⟩by rw[HR.o,ai (.inr hpw)]);go_wp2_with fail;go_ret;rw[hres.o];exact⟨rfl,lJ.yw eF.o nG.o⟩
      ·obtain⟨pm,rfl⟩:=dQ (show 0<=pw by omega);have hres:=zh (show bD (k+1) [(a,b)] l t=⟨true,fB l (y:Int) (x:Int),t++[(y:Int)],(pm:Int)⟩by rw[HR.o,ag (by simp),show min k (pm:Int).toNat=pm by simp;omega]);go_wp2_with fail;refine(bind_ok g base _ _ l t (pm:Int) w5 eF.o (by omega) y hyl (x:Int) (by unfold aA;omega)).mono ?_;rintro e w6⟨r,rfl,hst⟩;have HST:=zh hst;clear hst q0 q1 q2 qf;go_wp2_with fail;go_ret;rw[hres.o];exact⟨rfl,lJ.trans (nG.o.mono fun x _ e=> .inl e) (fun b h=> .inl h) HST.o⟩
   ·have zO:(l[y].kind==0)=false:=by simpa using hk2
    have HR:=zh (show bD (k+1) [(a,b)] l t=(if l[x]≠l[y]then⟨false,l,t,k⟩else if l[x].kind=3 then bD k ((argsAt (x:Int) l[x].n).zip (argsAt (y:Int) l[x].n)) l t else⟨true,l,t,k⟩)by rw[zx.o,G8,zM.o,CS.o,ag (fun h=>hk h.1),ag (fun h=>h.elim hk hk2)]);go_wp2_with fail;refine(zD _ _ _ _ _ _ _ _ dx.o y hyl).mono ?_;rintro e w3⟨rfl,rfl⟩;rw[zO];go_wp2_with fail;refine(zD _ _ _ _ _ _ _ _ dx.o x hxl).mono ?_;rintro e w3⟨rfl,rfl⟩;rw[hk'];clear hk2 zO hk hk';go_upto_region 19 with fail;go_cut[7,8](fun u7 u8 wr=>∃b7 b8,u7= .pointer (some ⟨b7,0,none⟩)/\u8= .pointer (some ⟨b8,0,none⟩)/\wr.heap[b7]?=some (.cells #[.int .i64 l[x].kind,.int .i64 l[x].n,.string l[x].s] 112 (0,0))/\wr.heap[b8]?=some (.cells #[.int .i64 l[y].kind,.int .i64 l[y].n,.string l[y].s] 112 (0,0))/\Below ww.heap.size ww wr/\ww.heap.size<=b7/\ww.heap.size<=b8);case first=>go_region;all_goals go_wp2_with fail;go_meet;first|exact⟨_,_,rfl,rfl,(je _ _ _).1,(je _ _ _).2,(((zB _ _).alloc (zL _) _).alloc (by simp) _).drew,by omega,by omega⟩|exact⟨_,_,rfl,rfl,(je _ _ _).2,(je _ _ _).1,(((zB _ _).alloc (zL _) _).alloc (by simp) _).drew,by omega,by omega⟩
    case rest=>
     obtain⟨b7,b8,rfl,rfl,uh,vw,hbel,Ha,hz8⟩:=hcut;have A8:=zh (dx.o.below hbel);have wM:=zh (iL.o.tb hbel);have nL:=zh uh;obtain⟨p0,p1,p2,pf⟩:=gH uh;obtain⟨r0,r1,r2,rf⟩:=gH vw;clear uh vw hbel c0 c1 c2 d0 d1 d2 y0 y1 y2 yf;by_cases hq:l[x]=l[y];case neg=>
      have hres:=zh (show bD (k+1) [(a,b)] l t=⟨false,l,t,k⟩by rw[HR.o,ai hq]);by_cases q1:l[x].kind=l[y].kind
      ·by_cases q2:l[x].n=l[y].n
       ·by_cases q3:l[x].s.toList=l[y].s.toList;·exfalso;exact hq (Ce.ext' q1 q2 q3)
        ·go_wp2_with fail;go_ret;rw[hres.o];exact⟨rfl,lJ.yw A8.o wM.o⟩
       ·go_wp2_with fail;go_ret;rw[hres.o];exact⟨rfl,lJ.yw A8.o wM.o⟩
      ·go_wp2_with fail;go_ret;rw[hres.o];exact⟨rfl,lJ.yw A8.o wM.o⟩
     case pos=>
      have HQ:=zh hq;rw[<-hq]at r0 r1 r2;clear hq;by_cases hk3:l[x].kind=3;case neg=>
       have Kq:(l[x].kind==3)=false:=by simpa using hk3
       have hres:=zh (show bD (k+1) [(a,b)] l t=⟨true,l,t,k⟩by rw[HR.o,ag (dJ HQ.o),ag hk3]);clear hk3;go_wp2_with fail;go_ret;rw[hres.o];exact⟨rfl,lJ.yw A8.o wM.o⟩
      case pos=>
       have hn:1<=l[x].n/\l[x].n<=4/\(x:Int)+l[x].n<l.length:=by unfold Ce.fF at KQ;omega
       have hn2:(y:Int)+l[x].n<l.length:=by rw[<-HQ.o]at G9;unfold Ce.fF at G9;omega
       obtain⟨hn1,rV,hnl⟩:=hn;obtain⟨nn,hnn⟩:=dQ (show 0<=l[x].n by omega);have hres:=zh (show bD (k+1) [(a,b)] l t=bD k ((argsAt (x:Int) (nn:Int)).zip (argsAt (y:Int) (nn:Int))) l t by rw[HR.o,ag (dJ HQ.o),ai hk3,hnn]);have uh:=nL.o;rw[hk3,hnn]at uh;have anZ:=zh uh;rw[hnn]at p1 r1 hn1 rV hnl hn2;rw[hk3]at p0 r0;have hpl:((argsAt (x:Int) (nn:Int)).zip (argsAt (y:Int) (nn:Int))).length=nn:=by simp[argsAt]
       have Wm:∀j(hj:j<((argsAt (x:Int) (nn:Int)).zip (argsAt (y:Int) (nn:Int))).length),((argsAt (x:Int) (nn:Int)).zip (argsAt (y:Int) (nn:Int)))[j]=((x:Int)+1+(j:Int),(y:Int)+1+(j:Int)):=fun j hj=>by rw[List.getElem_zip,GY,GY]
       generalize(argsAt (x:Int) (nn:Int)).zip (argsAt (y:Int) (nn:Int))=ps at hres hpl Wm;have QE:=zh hpl;have HPG:=zh Wm;clear hk3 hnn hpl Wm uh nL KQ G9;go_wp2_with fail;clear p0 p1 p2 pf r0 r1 r2 rf;go_loopw[9](fun i wr=>∃(j m:Nat)(lj:List Ce)(tj:List Int)(KR:Value),j<=nn/\i= .int .i64 ((j:Int)+1)/\m<=k/\bD k (ps.take j) l t=⟨true,lj,tj,(m:Int)⟩/\gU lj/\jY g base (.slice (some ⟨cb,0,none⟩) l.length cc) KR lj tj m wr/\Ch (UM g (.slice (some ⟨cb,0,none⟩) l.length cc) (.slice ta t.length tc)) w wr/\(∀b,ownB KR=some b->ownB (.slice ta t.length tc)=some b\/w.heap.size<=b)/\wr.heap[b7]?=some (.cells #[.int .i64 3,.int .i64 (nn:Int),.string l[x].s] 112 (0,0)))(fun i _=>nn+1 - (intOf i).toNat);case atStart=>exact⟨0,k,l,t,_,dn _,rfl,zL _,by rw[mE,GA],HG.o,A8.o,wM.o.mono (fun x _ e=> .inl e),fun b h=> .inl h,anZ.o⟩
       case round=>
        obtain⟨j,m,lj,tj,KR,hj,rfl,hm,htk,hgj,hu,hch,htv,hbx⟩:=hrel;have fT:=zh htk;have HGJ:=zh hgj;have l8:=zh hu;have wN:=zh hch;have Wn:=zh htv;have bX:=zh hbx;obtain⟨z0,z1,z2,zf⟩:=gH hbx;clear htk hgj hu hch htv hbx;by_cases hlt:j<nn
        ·have hja:j<ps.length:=by rw[QE.o];exact hlt
         have hnext:ps.take (j+1)=ps.take j++[((x:Int)+1+(j:Int),(y:Int)+1+(j:Int))]:=by rw[dX hja,HPG.o]
         have hsplit:ps=ps.take (j+1)++ps.drop (j+1):=(Ju _ _).symm;have ji:=zh (show bD k (ps.take (j+1)) l t=bD m [((x:Int)+1+(j:Int),(y:Int)+1+(j:Int))] lj tj by rw[hnext,acV,fT.o,ai rfl];simp);have ve:=zh (show(bD m [((x:Int)+1+(j:Int),(y:Int)+1+(j:Int))] lj tj).ok=false->bD k ps l t=bD m [((x:Int)+1+(j:Int),(y:Int)+1+(j:Int))] lj tj by
          intro hf;conv=>lhs;rw[hsplit]
          rw[acV,ji.o,ag (by rw[hf];simp)]);clear hsplit hnext hja;go_wp2_with fail;rw[show(x:Int)+((j:Int)+1)=(x:Int)+1+(j:Int)by omega,show(y:Int)+((j:Int)+1)=(y:Int)+1+(j:Int)by omega];refine(IH.out m hm _ KR lj tj ((x:Int)+1+(j:Int)) ((y:Int)+1+(j:Int)) wr HGJ.o (by unfold aA;omega) (by unfold aA;omega) l8.o).mono ?_;rintro e w5⟨rfl,Wo,mO,lH,ad2⟩;have hb5:=(lH.block b7 (aJ bX.o) (fun h=>by
          rcases h with h|h|h;·omega
          ·have :=zI (dE.o.symm.trans h);omega
          ·exact ah.eD l8.o.2.2.1 bX.o (by decide) h)).trans bX.o;have KS:Ch (UM g (.slice (some ⟨cb,0,none⟩) l.length cc) (.slice ta t.length tc)) w w5:=wN.o.trans lH (fun b h=>by
          rcases h with h|h|h;·exact .inl (.inl h)
          ·exact .inl (.inr (.inl h))
          ·rcases Wn.o b h with h'|h';·exact .inl (.inr (.inr h'))
           ·exact .inr h');have hwr:w.heap.size<=wr.heap.size:=wN.o.size;have ad3:∀b,ownB Wo=some b->ownB (.slice ta t.length tc)=some b\/w.heap.size<=b:=fun b h=>by
          rcases ad2 b h with h'|h';·exact Wn.o b h'
          ·exact .inr (by omega)
         have ER:=acU m [((x:Int)+1+(j:Int),(y:Int)+1+(j:Int))] lj tj;have vk:=PV m [((x:Int)+1+(j:Int),(y:Int)+1+(j:Int))] lj tj;generalize bD m [((x:Int)+1+(j:Int),(y:Int)+1+(j:Int))] lj tj=u at*;obtain⟨ok,lu,tu,wu⟩:=u;simp only at ER vk mO;have dF:=zh hb5;have HC6:=zh KS;have ad5:=zh ad3;have eF:=zh mO;have KU:=zh ER;have ad6:=zh vk;clear mO lH ad2 hb5 KS ad3 ER vk z0 z1 z2 zf;cases ok with
          |false=>have hres2:=zh (hres.o.trans (ve.o rfl));go_wp2_with fail;go_ret;rw[hres2.o];exact⟨rfl,Wo,eF.o,HC6.o,ad5.o⟩
          |true=>
           obtain⟨k1,k2,k3⟩:=KU.o;have k4:=k3 rfl;obtain⟨mm,rfl⟩:=dQ k4;obtain⟨vs, -,hvb, -⟩:=ad6.o rfl;have HGU:=zh (hvb.good HGJ.o);have hmm:mm<=k:=by omega
           clear k1 k2 k3 k4 hvb;go_wp2_with fail;go_roundw;case rel=>exact⟨j+1,mm,lu,tu,Wo,by omega,by go_num,hmm,ji.o,HGU.o,eF.o,HC6.o,ad5.o,dF.o⟩
           case measure=>simp[intOf];omega
        ·have hres2:=zh (show bD (k+1) [(a,b)] l t=⟨true,lj,tj,(m:Int)⟩by have :=fT.o;rw[iZ (by rw[QE.o];omega)]at this;rw[hres.o,this]);go_wp2_with fail;go_ret;rw[hres2.o];exact⟨rfl,KR,l8.o,wN.o,Wn.o⟩
theorem an2(g base:Nat):∀k,QD g base k:=by intro k;induction k using Nat.strongRecOn with|_ k ih=>cases k with|zero=>exact anV g base|succ k=>exact anW g base k fun m hm=>ih m (by omega)
open Classical in noncomputable def gP(h:Hp)(a b:Int):Hp×Bool×Int:=if ¬h.Good then(h,false,1)else if ¬(Inb h.cells a/\Inb h.cells b)then(h,false,4)else let u:=bD 400 [(a,b)] h.cells h.trail;if u.work<0 then(h,false,3)else if u.ok=false then(h,false,0)else if 65536<u.trail.length then(h,false,3)else(⟨u.cells,u.trail⟩,true,0)
def ad7(A:Nat->Prop)(x:Hp×Bool×Int)(r:Value)(w':World):Prop:=∃us,r= .tuple #[.agg us.toArray,.bool x.2.1,.int .i64 x.2.2]/\Hp.rep A w' x.1 us
def Wp(base:Nat)(h:Hp):Value->World->Prop:=fun v w=>∃c t,v= .agg #[c,t,.int .i64 400]/\jh w base h.cells c/\dK w base h.trail t
def KV(base:Nat)(h:Hp):Value->World->Prop:=fun v w=>∃g cv tv,v= .pointer (some ⟨g,0,none⟩)/\jY g base cv tv h.cells h.trail 400 w
theorem an3(base:Nat)(h:Hp):rT (Wp base h):=fun v w w'⟨c,t,e,h1,h2⟩hb=>⟨c,t,e,ah.below h1 hb,ah.below h2 hb⟩
theorem an4(base:Nat)(h:Hp):rT (KV base h):=fun v w w'⟨g,c,t,e,h1⟩hb=>⟨g,c,t,e,h1.below hb⟩
theorem ad8(h:Hp)(a b:Int)(ha:aA a)(hb:aA b)(A:Nat->Prop)(w:World)(vs:List Value)(hh:Hp.rep A w h vs):Calls Tryz.prog 111 #[.agg vs.toArray,.int .i64 a,.int .i64 b] w (Pure w (ad7 (fun b=>A b\/New w b) (gP h a b))):=by
 obtain⟨va,cap,vb,aR,rfl,hc1,hc2,hc3,ht1,ht2,ht3,hc,ht⟩:=Hp.mG hh;have HH:=zh hh;have HC:=zh hc;have HT:=zh ht;have zJ:=zh ha;have ug:=zh hb;have jX:=zh (fun w'(hk:af A w w')=>Ct h A w' _ (Hp.rep.keeps hh hk));clear hh hc ht ha hb;go_enter Tryz.func111,Tryz.ntmps111;go_wp2_with fail;refine(jX.o _ ((af.alloc _ _ _).trans (af.alloc _ _ _))).mono ?_;rintro e w1⟨v,rfl,hb1,t,rfl,ht⟩;have h2:=je w (.cells #[.slice va h.cells.length cap,.slice vb h.trail.length aR] 59) (.cells #[.slice none 0 0,.slice none 0 0] 59);have eO:=zh (aL h2.1 hb1);have dI:=zh (aL h2.2 hb1);have HB:=zh (show Below w.heap.size w w1 from eB (eB (hb1.mono (by simp))));have hz:w.heap.size+1<w1.heap.size:=by have :=hb1.size;simp at this;omega
 have hz':w.heap.size<w1.heap.size:=by omega
 have lK:=zh ht;have hcs:=dH;clear h2 hb1 ht;obtain⟨x0,x1,xf⟩:=dO eO.o;obtain⟨y0,y1,yf⟩:=dO dI.o;cases t with
  |false=>
   have hg:¬h.Good:=fun hg=>by have :=lK.o.2 hg;cases this
   go_wp2_with fail;refine dD (v:= .tuple #[.agg #[.slice va h.cells.length cap,.slice vb h.trail.length aR],.bool false,.int .i64 1]) (by simp[results,Tryz.results111,go_sem,hcs,x0,x1,y0,y1]) rfl ?_;have hb:Below w.heap.size w ((w1.setCell ⟨w.heap.size+1,0,none⟩ (.slice va h.cells.length cap)).setCell ⟨w.heap.size+1,1,none⟩ (.slice vb h.trail.length aR)):=bK (bK HB.o (by simp) _) (by simp) _;rw[gP,ai hg];exact Pure.mk hb ⟨_,rfl,Hp.rep.mono (Hp.rep.keeps HH.o (af.ob hb)) (fun _ _ h=> .inl h)⟩
  |true=>
   have HG:=zh (lK.o.1 rfl);have wS:=zh HG.o.2.2.1;have HL2:=zh HG.o.2.2.2;clear lK;by_cases hin:Inb h.cells a/\Inb h.cells b;case neg=>have dM:=zh hin;have hin':¬(0<=a/\a<(h.cells.length:Int)/\0<=b/\b<(h.cells.length:Int)):=fun k=>hin ⟨⟨k.1,k.2.1⟩,k.2.2.1,k.2.2.2⟩;clear hin;go_wp2_with fail;all_goals first|(exfalso;omega)|(refine dD (v:= .tuple #[.agg #[.slice va h.cells.length cap,.slice vb h.trail.length aR],.bool false,.int .i64 4]) (by simp[results,Tryz.results111,go_sem,hcs,x0,x1,y0,y1]) rfl ?_;have hb:Below w.heap.size w ((w1.setCell ⟨w.heap.size+1,0,none⟩ (.slice va h.cells.length cap)).setCell ⟨w.heap.size+1,1,none⟩ (.slice vb h.trail.length aR)):=bK (bK HB.o (by simp) _) (by simp) _;rw[gP,ag (dJ HG.o),ai dM.o];exact Pure.mk hb ⟨_,rfl,Hp.rep.mono (Hp.rep.keeps HH.o (af.ob hb)) (fun _ _ h=> .inl h)⟩)|go_ways
   case pos=>
    have dM:=zh hin;obtain⟨⟨i1,i2⟩,i3,i4⟩:=hin;go_wp2_with fail;obtain⟨W0,rfl⟩:∃z,z=w1:=⟨_,rfl⟩;have dV:Hd (∀w',Below W0.heap.size W0 w'->Below w.heap.size w w'/\w'.cell? ⟨w.heap.size,0,none⟩=some (.slice va h.cells.length cap)/\w'.cell? ⟨w.heap.size,1,none⟩=some (.slice vb h.trail.length aR)/\w'.heap[w.heap.size]?=some (.cells #[.slice va h.cells.length cap,.slice vb h.trail.length aR] 59 (0,0))/\w'.heap[w.heap.size+1]?=some (.cells #[.slice none 0 0,.slice none 0 0] 59 (0,0))):=zh fun w' hb=>by have h1:=aL eO.o hb;have h2:=aL dI.o hb;obtain⟨z0,z1, -⟩:=dO h1;exact⟨HB.o.trans (hb.mono (by omega)),z0,z1,h1,h2⟩
    refine ado (Inv:=fun w'=>Below W0.heap.size W0 w') (Po:=posts [aQ (.pointer (some ⟨w.heap.size,0,none⟩)),aQ (.slice va h.cells.length cap),Kn W0.heap.size h.cells,aQ (.pointer (some ⟨w.heap.size,1,none⟩)),aQ (.slice vb h.trail.length aR),rR W0.heap.size h.trail,VW W0.heap.size h,Wp W0.heap.size h,KV W0.heap.size h,KV W0.heap.size h]) (Rl:=fun w w'=>Below w.heap.size w w') (by kernel_rfl) (by kernel_rfl) (by kernel_rfl) ((zB _ _).drew) ?_ ?_ ?_ ?_;·refine wK fun R hR=>?_;simp only[gK,uQ,pz]at hR;rcases hR with rfl|rfl|rfl|rfl|rfl|rfl|rfl|rfl|rfl|rfl<;>first|exact wJ _|exact EH|exact EI _|exact EJ _|exact EK _|exact EL _|exact EM _|exact EN _|exact EO _|exact CJ _ _|exact A7 _ _|exact ann _ _|exact an3 _ _|exact an4 _ _
    ·exact fun w1 w2 h h'=>h.trans (h'.mono h.size)
    ·intro i o ho f ac ww hinv hpo hdst hold;match i,ho with
      |0,ho=>obtain rfl:_=o:=zI ho;have t3:=hold 3 (by kernel_rfl);refine Or.inl ⟨aK rfl,?_⟩;clear hdst hpo hold ho hinv;unfold aI;go_simp;exact⟨rfl,zB _ _⟩
      |1,ho=>obtain rfl:_=o:=zI ho;have t36:=hdst 0 36 (by kernel_rfl) (by kernel_rfl);have p0:=hpo 0 (by kernel_rfl);refine Or.inl ⟨aK rfl,?_⟩;clear hdst hpo hold ho;rw[show f 0=_ from p0]at t36;obtain⟨-,x0,x1, -⟩:=dV.o ww hinv;unfold aI;go_simp;exact⟨rfl,zB _ _⟩
      |2,ho=>obtain rfl:_=o:=zI ho;have t37:=hdst 1 37 (by kernel_rfl) (by kernel_rfl);have p1:=hpo 1 (by kernel_rfl);refine Or.inl ⟨aK rfl,?_⟩;clear hdst hpo hold ho;rw[show f 1=_ from p1]at t37;unfold aI;go_simp;refine(Qj h.cells A _ _ (au.keeps Ce.aj HC.o (af.ob (dV.o ww hinv).1))).mono ?_;rintro e w1⟨r,rfl,hb,hr⟩;exact⟨_,rfl,ah.rQ hr (fun k hk=>fM hinv.size (ah.lt hr k hk).1),hb⟩
      |3,ho=>obtain rfl:_=o:=zI ho;have t3:=hold 3 (by kernel_rfl);refine Or.inl ⟨aK rfl,?_⟩;clear hdst hpo hold ho hinv;unfold aI;go_simp;exact⟨rfl,zB _ _⟩
      |4,ho=>obtain rfl:_=o:=zI ho;have t39:=hdst 3 39 (by kernel_rfl) (by kernel_rfl);have p3:=hpo 3 (by kernel_rfl);refine Or.inl ⟨aK rfl,?_⟩;clear hdst hpo hold ho;rw[show f 3=_ from p3]at t39;obtain⟨-,x0,x1, -⟩:=dV.o ww hinv;unfold aI;go_simp;exact⟨rfl,zB _ _⟩
      |5,ho=>obtain rfl:_=o:=zI ho;have t40:=hdst 4 40 (by kernel_rfl) (by kernel_rfl);have p4:=hpo 4 (by kernel_rfl);refine Or.inl ⟨aK rfl,?_⟩;clear hdst hpo hold ho;rw[show f 4=_ from p4]at t40;unfold aI;go_simp;refine(VS h.trail A _ _ (au.keeps aW HT.o (af.ob (dV.o ww hinv).1))).mono ?_;rintro e w1⟨r,rfl,hb,hr⟩;exact⟨_,rfl,ah.rQ hr (fun k hk=>fM hinv.size (ah.lt hr k hk).1),hb⟩
      |6,ho=>
       obtain rfl:_=o:=zI ho;have t38:=hdst 2 38 (by kernel_rfl) (by kernel_rfl);have p2:(Kn W0.heap.size h.cells) (f 2) ww:=hpo 2 (by kernel_rfl);have t41:=hdst 5 41 (by kernel_rfl) (by kernel_rfl);have p5:(rR W0.heap.size h.trail) (f 5) ww:=hpo 5 (by kernel_rfl);refine Or.inl ⟨aK rfl,?_⟩;clear hdst hpo hold ho;have P2:=zh p2;have P5:=zh p5;obtain⟨a1,c1,e2, -⟩:=ah.val p2;obtain⟨a2,c2,e5, -⟩:=ah.val p5;rw[e2]at t38;rw[e5]at t41;clear hinv p2 p5;unfold aI;go_simp;refine⟨⟨_,rfl,_,_,rfl,?_,?_⟩,zB _ _⟩;·rw[<-e2];exact P2.out
       ·rw[<-e5];exact P5.out
      |7,ho=>obtain rfl:_=o:=zI ho;have t42:=hdst 6 42 (by kernel_rfl) (by kernel_rfl);have p6:(VW W0.heap.size h) (f 6) ww:=hpo 6 (by kernel_rfl);refine Or.inl ⟨aK rfl,?_⟩;clear hdst hpo hold ho;obtain⟨us,e6,c,t,rfl,hc,ht⟩:=p6;have P2:=zh hc;have P5:=zh ht;obtain⟨a1,c1,rfl, -⟩:=ah.val hc;obtain⟨a2,c2,rfl, -⟩:=ah.val ht;rw[e6]at t42;clear hinv hc ht;unfold aI;go_simp;exact⟨⟨_,_,rfl,P2.out,P5.out⟩,zB _ _⟩
      |8,ho=>obtain rfl:_=o:=zI ho;have t43:=hdst 7 43 (by kernel_rfl) (by kernel_rfl);have p7:(Wp W0.heap.size h) (f 7) ww:=hpo 7 (by kernel_rfl);refine Or.inl ⟨aK rfl,?_⟩;clear hdst hpo hold ho;obtain⟨c,t,e7,hc,ht⟩:=p7;have P2:=zh hc;have P5:=zh ht;have hB:=zh hinv;rw[e7]at t43;clear hinv hc ht;unfold aI;go_simp;refine⟨⟨ww.heap.size,c,t,rfl,bJ _ _,ah.below P2.out ((zB _ _).alloc (zL _) _),ah.below P5.out ((zB _ _).alloc (zL _) _),hB.out.size,wS.o,by have :=HL2.o;omega,by omega,by omega⟩,(zB _ _).alloc (zL _) _⟩
      |9,ho=>obtain rfl:_=o:=zI ho;have t44:=hdst 8 44 (by kernel_rfl) (by kernel_rfl);have p8:(KV W0.heap.size h) (f 8) ww:=hpo 8 (by kernel_rfl);refine Or.inl ⟨aK rfl,?_⟩;clear hdst hpo hold ho hinv;unfold aI;go_simp;exact⟨p8,zB _ _⟩
      |i+10,ho=>simp at ho
    ·intro f ww hinv hpo;have p9:(KV W0.heap.size h) (f 9) ww:=hpo 9 (by decide);obtain⟨g,cv,tv,e9,hu⟩:=p9;simp only[gY,xI,wC,xK];rw[e9];have HU:=zh hu;have fA:=zh hinv;clear hinv hpo hu x0 x1 xf y0 y1 yf;go_wp2_with fail;refine(an2 g W0.heap.size 400 cv tv h.cells h.trail a b ww HG.o.1 zJ.o ug.o HU.o).mono ?_;rintro e w5⟨rfl,tv',mO,lH, -⟩;have hb5:Below W0.heap.size W0 w5:=((Ch.of_below (M:=fun _=>False) fA.o).trans lH (fun x hx=> .inr (by
      rcases hx with hx|hx|hx;·rw[hx];exact HU.o.lt.2.1
      ·exact(HU.o.2.1.lt x hx).1
      ·exact(HU.o.2.2.1.lt x hx).1))).below (fun _ _ h=>h);obtain⟨hbw, -, -,hX1,hX2⟩:=dV.o w5 hb5;have eO:=zh hX1;have dI:=zh hX2;have QF:=zh hbw;obtain⟨x0,x1,xf⟩:=dO hX1;obtain⟨y0,y1,yf⟩:=dO hX2;have hun:gP h a b=(let u:=bD 400 [(a,b)] h.cells h.trail;if u.work<0 then(h,false,3)else if u.ok=false then(h,false,0)else if 65536<u.trail.length then(h,false,3)else(⟨u.cells,u.trail⟩,true,0)):=by rw[gP,ag (dJ HG.o),ag (dJ dM.o)]
     have ER:=acU 400 [(a,b)] h.cells h.trail;have vk:=PV 400 [(a,b)] h.cells h.trail;generalize bD 400 [(a,b)] h.cells h.trail=u at*;obtain⟨ok,lu,tu,wu⟩:=u;simp only at ER vk mO hun;have iM:=zh hun;have KU:=zh ER;have ad6:=zh vk;have eF:=zh mO;obtain⟨ca,cc,ta,tc,rfl,rfl,e1,e2,e3,e4⟩:=mO.vals;obtain⟨q0,q1,q2,qf⟩:=gH mO.1;clear mO lH hb5 hX1 hX2 hbw hun ER vk;have HOLD:Hd (∀(w':World)(n e:Int)(o:Bool),Below w.heap.size w w'->ad7 (fun b=>A b\/New w b) (h,o,e) (.tuple #[.agg #[.slice va h.cells.length cap,.slice vb h.trail.length aR],.bool o,.int .i64 e]) w'):=zh fun w' n e o hb=>⟨_,rfl,Hp.rep.mono (Hp.rep.keeps HH.o (af.ob hb)) (fun _ _ h=> .inl h)⟩;by_cases hw:wu<0;·have hres:=zh (show gP h a b=(h,false,3)by rw[iM.o,ai hw]);go_wp2_with fail;refine dD (v:= .tuple #[.agg #[.slice va h.cells.length cap,.slice vb h.trail.length aR],.bool false,.int .i64 3]) (by simp[results,Tryz.results111,go_sem,hcs,x0,x1,y0,y1]) rfl ?_;have hb:Below w.heap.size w ((w5.setCell ⟨w.heap.size+1,0,none⟩ (.slice va h.cells.length cap)).setCell ⟨w.heap.size+1,1,none⟩ (.slice vb h.trail.length aR)):=bK (bK QF.o (by simp) _) (by simp) _;rw[hres.o];exact Pure.mk hb (HOLD.o _ 0 _ _ hb)
     ·cases ok with
       |false=>have hres:=zh (show gP h a b=(h,false,0)by rw[iM.o,ag hw,ai rfl]);go_wp2_with fail;refine dD (v:= .tuple #[.agg #[.slice va h.cells.length cap,.slice vb h.trail.length aR],.bool false,.int .i64 0]) (by simp[results,Tryz.results111,go_sem,hcs,x0,x1,y0,y1]) rfl ?_;have hb:Below w.heap.size w ((w5.setCell ⟨w.heap.size+1,0,none⟩ (.slice va h.cells.length cap)).setCell ⟨w.heap.size+1,1,none⟩ (.slice vb h.trail.length aR)):=bK (bK QF.o (by simp) _) (by simp) _;rw[hres.o];exact Pure.mk hb (HOLD.o _ 0 _ _ hb)
       |true=>
        by_cases htl:65536<tu.length
        ·have ad9:(65536:Int)<(tu.length:Int):=by omega
         have hres:=zh (show gP h a b=(h,false,3)by rw[iM.o,ag hw,ag (by simp),ai htl]);go_wp2_with fail;refine dD (v:= .tuple #[.agg #[.slice va h.cells.length cap,.slice vb h.trail.length aR],.bool false,.int .i64 3]) (by simp[results,Tryz.results111,go_sem,hcs,x0,x1,y0,y1]) rfl ?_;have hb:Below w.heap.size w ((w5.setCell ⟨w.heap.size+1,0,none⟩ (.slice va h.cells.length cap)).setCell ⟨w.heap.size+1,1,none⟩ (.slice vb h.trail.length aR)):=bK (bK QF.o (by simp) _) (by simp) _;rw[hres.o];exact Pure.mk hb (HOLD.o _ 0 _ _ hb)
        ·have ad9:(tu.length:Int)<=65536:=by omega
         have hres:=zh (show gP h a b=(⟨lu,tu⟩,true,0)by rw[iM.o,ag hw,ag (by simp),ag htl]);go_wp2_with fail;refine dD (v:= .tuple #[.agg #[.slice ca lu.length cc,.slice ta tu.length tc],.bool true,.int .i64 0]) (by simp[results,Tryz.results111,go_sem,hcs,x0,x1,y0,y1]) rfl ?_;have hb:Below w.heap.size w ((w5.setCell ⟨w.heap.size+1,0,none⟩ (.slice ca lu.length cc)).setCell ⟨w.heap.size+1,1,none⟩ (.slice ta tu.length tc)):=bK (bK QF.o (by simp) _) (by simp) _;have hk:∀b,W0.heap.size<=b->((w5.setCell ⟨w.heap.size+1,0,none⟩ (.slice ca lu.length cc)).setCell ⟨w.heap.size+1,1,none⟩ (.slice ta tu.length tc)).heap[b]?=w5.heap[b]?:=fun b hb=>by rw[bH _ _ _ _ (by simp only;omega),bH _ _ _ _ (by simp only;omega)]
         rw[hres.o];refine Pure.mk hb ⟨_,rfl,_,_,rfl,?_,?_⟩;·exact ah.sl Ce.kC Ce.AV (ah.kept eF.o.2.1 (fun k hk'=>hk k (ah.lt eF.o.2.1 k hk').1)) (by have :=eF.o.2.2.2.2.1;omega) (fun k hk'=> .inr (by have :=(ah.lt eF.o.2.1 k hk').1;unfold New;omega))
         ·exact ah.sl dY zC (ah.kept eF.o.2.2.1 (fun k hk'=>hk k (ah.lt eF.o.2.2.1 k hk').1)) (by omega) (fun k hk'=> .inr (by have :=(ah.lt eF.o.2.2.1 k hk').1;unfold New;omega))
structure Gm where
  at_ : Int
  bar : Nat
  next : Int
  deriving Inhabited
structure Cm where
  goal : Nat
  from_ : Nat
  top : Nat
  trail : Nat
structure Mv where
  h : Hp
  goals : List Gm
  choices : List Cm
  now : Int
  query : Int
  fuel : Nat
  out : List Ev
inductive RM where
  | next
  | no
  | off
def Mv.put(m:Mv)(kind:Int):Mv:={m with out:=m.out++[⟨kind,[]⟩]}
def eX(base:Int)(bar:Nat):List Int->List Gm->Int->List Gm×Int|[],gs,nx=>(gs,nx)|a::r,gs,nx=>((eX base bar r gs nx).1++[⟨base+a,bar,(eX base bar r gs nx).2⟩],((eX base bar r gs nx).1.length:Int))
def wT(c:Cl)(x:Ce):Prop:=c.head.s=x.s/\(c.head.args.length:Int)=x.n
noncomputable instance(c:Cl)(x:Ce):Decidable (wT c x):=by unfold wT;infer_instance
noncomputable def cZ(P:List Cl)(x:Ce):Nat->Nat->Nat|0,k=>k|n+1,k=>match P[k]? with|none=>k|some c=>if wT c x then k else cZ P x n (k+1)
noncomputable def fI(P:List Cl)(n:Nat)(g:Gm):Nat->Nat->Mv->RM×Mv|0,_,m=>(.no,m)|j+1,k,m=>match P[k]? with|none=>(.no,m)|some c=>if ¬wT c (cellAt m.h.cells g.at_)then fI P n g j (k+1) m else let L:=gM m.h (aN c).cells;if L.2.2≠0 then(.off,m.put 4)else let u:=gP L.1 (L.2.1+(aN c).head) g.at_;if u.2.2≠0 then(.off,m.put 4)else if u.2.1=false then fI P n g j (k+1) m else(.next,{m with h:=u.1,choices:=if cZ P (cellAt m.h.cells g.at_) (P.length - (k+1)) (k+1)<P.length then⟨n,cZ P (cellAt m.h.cells g.at_) (P.length - (k+1)) (k+1),m.h.cells.length,m.h.trail.length⟩::m.choices else m.choices,goals:=(eX L.2.1 m.choices.length (aN c).goals m.goals g.next).1,now:=(eX L.2.1 m.choices.length (aN c).goals m.goals g.next).2})
def cB(m:Mv)(n:Nat):Gm:=(m.goals[n]?).getD default
noncomputable def kF(P:List Cl):List Cm->Mv->RM×Mv|[],m=>(.off,{m with choices:=[]}.put 2)|c::cs,m=>match fI P c.goal (cB m c.goal) (P.length - c.from_) c.from_ {m with choices:=cs,h:=(qL (qK m.h c.trail).1 c.top).1}with|(.no,m')=>kF P cs m'|r=>r
noncomputable def nM(g:Gm)(m:Mv):Option Bool×Mv:=let s:=(cellAt m.h.cells g.at_).s.toList;if s=[33]then(some true,{m with choices:=m.choices.drop (m.choices.length - min g.bar m.choices.length)})else if s=[116,114,117,101]then(some true,m)else if s=[102,97,105,108]then(some false,m)else if s=[101,113]then let u:=gP m.h (g.at_+1) (g.at_+2);if u.2.2≠0 then(none,m.put 4)else(some u.2.1,{m with h:=u.1})else let a:=cellAt m.h.cells (look m.h.cells (g.at_+1));let b:=cellAt m.h.cells (look m.h.cells (g.at_+2));if a.kind≠2\/b.kind≠2 then(none,m.put 5)else if s=[108,101,115,115]then(some (decide (a.n<b.n)),m)else if a.n+b.n>1099511627776\/a.n+b.n< -1099511627776 then(none,m.put 5)else let L:=gM m.h [⟨2,a.n+b.n,.empty⟩];if L.2.2≠0 then(none,m.put 4)else let u:=gP L.1 (g.at_+3) L.2.1;if u.2.2≠0 then(none,{m with h:=L.1}.put 4)else(some u.2.1,{m with h:=u.1})
def yx(x:Ce):Prop:=(Tm.mk 0 0 x.s (List.replicate x.n.toNat vv)).gF
noncomputable def kQ(P:List Cl)(m:Mv):RM×Mv:=if m.fuel=0 then(.off,m.put 3)else let m:={m with fuel:=m.fuel - 1};let g:=cB m m.now.toNat;haveI :=Classical.propDecidable (yx (cellAt m.h.cells g.at_));if yx (cellAt m.h.cells g.at_)then match nM g m with|(none,m')=>(.off,m')|(some true,m')=>(.next,{m' with now:=g.next})|(some false,m')=>kF P m'.choices m' else if cZ P (cellAt m.h.cells g.at_) P.length 0=P.length then(.off,m.put 5)else match fI P m.now.toNat g P.length 0 m with|(.no,m')=>kF P m'.choices m'|r=>r
noncomputable def oI(h:Hp)(query:Int):Nat->Option (List Tm×Int)|0=>some ([],200)|v+1=>match oI h query v with|none=>none|some (l,left)=>if(dU h (query+(v:Nat)) left).2.2≠0 then none else some (l++[(dU h (query+(v:Nat)) left).1],left - (dU h (query+(v:Nat)) left).2.1)
noncomputable def ui(P:List Cl)(q:Nat)(m:Mv):RM×Mv:=match oI m.h m.query q with|none=>(.off,m.put 4)|some (l,_)=>let m:={m with out:=m.out++[⟨1,tidy l⟩]};if m.out.length≥12 then(.off,m.put 6)else kF P m.choices m
def visitM(gs:List Gm):Nat->Int->List Nat->List Nat|0,_,aC=>aC|k+1,n,aC=>if n<0\/n.toNat∈aC then aC else visitM gs k ((gs[n.toNat]?).getD default).next (aC++[n.toNat])
def iX(m:Mv):List Int:=(m.choices.reverse.map fun c=>(c.goal:Int))++[m.now]
def oJ(gs:List Gm)(l:List Int):List Nat:=l.foldl (fun aC n=>visitM gs (gs.length+1) n aC) []
def jE(q:Nat)(m:Mv):List Int:=((List.range q).map fun v=>m.query+(v:Nat))++(oJ m.goals (iX m)).map fun i=>(cB m i).at_
noncomputable def yz(q:Nat)(m:Mv):Mv:=let c:=mQ m.h (jE q m) (m.choices.reverse.map fun c=>(c.top:Int)) (m.choices.reverse.map fun c=>(c.trail:Int));if c.err≠0 then m else{m with h:=c.heap,query:=if q>0 then(c.roots[0]?).getD 0 else m.query,goals:=m.goals.mapIdx fun i g=>if i∈oJ m.goals (iX m)then{g with at_:=(c.roots[q+(oJ m.goals (iX m)).idxOf i]?).getD 0}else g,choices:=(m.choices.reverse.mapIdx fun i x=>{x with top:=((c.dZ[i]?).getD 0).toNat,trail:=((c.ed[i]?).getD 0).toNat}).reverse}
noncomputable def runM(P:List Cl)(q:Nat)(fuel every:Int):Nat->Mv->Mv|0,m=>m|n+1,m=>if m.now<0 then match ui P q m with|(.next,m')=>runM P q fuel every n m'|(_,m')=>m' else match kQ P (if every>0/\(fuel - m.fuel)%every=0 then yz q m else m)with|(.next,m')=>runM P q fuel every n m'|(_,m')=>m'
noncomputable def yA(Q:List Tm)(vars:Int)(fuel:Nat):Mv:=let b:=bS Q vars;let L:=gM ⟨[],[]⟩ b.cells;{h:=L.1,goals:=(eX L.2.1 0 b.goals [] (-1)).1,choices:=[],now:=(eX L.2.1 0 b.goals [] (-1)).2,query:=L.2.1,fuel:=fuel,out:=[]}
def bY(fuel:Nat)(cs:List jO):Nat:=25*fuel+(cs.map fun c=>24 - c.at_).sum
def sw(N:Int)(gl:List Gl):Prop:=∀g∈gl,g.t.In N/\g.bar<=150
theorem sw.mono{N N':Int}{gl:List Gl}(h:sw N gl)(hN:N<=N'):sw N' gl:=fun g hg=>⟨(h g hg).1.mono hN,(h g hg).2⟩
structure Bd (P : List Cl) (N : Int) (L : Nat) (c : jO) : Prop where
  ne : c.g ≠ []
  oL : sw N c.g
  one : 1 ≤ c.at_
  lt : c.at_ < P.length
  trail : c.trail ≤ L
structure gZ (P : List Cl) (s : Sv) : Prop where
  prog : dW P
  He : 0 ≤ s.vars
  env : cz s.vars s.env
  cO : ∀ c ∈ s.choices, Bd P s.vars s.env.length c
  QG : s.choices.Pairwise fun c d => d.trail ≤ c.trail
  KW : s.vars + 8 * (bY s.fuel s.choices : Nat) ≤ 30008
  Wq : s.env.length + 400 * bY s.fuel s.choices ≤ 1500000
  few : s.choices.length + s.fuel ≤ 150
theorem Bd.mono{P:List Cl}{N N':Int}{L L':Nat}{c:jO}(h:Bd P N L c)(hN:N<=N')(hL:L<=L'):Bd P N' L' c:=⟨h.ne,h.oL.mono hN,h.one,h.lt,fM h.trail hL⟩
theorem Hf{n:Int}(h0:0<=n)(h1:n<1099511627776):low n=n:=by unfold low;omega
theorem Hg{t:Tm}{v d:Int}(h:t.Good v)(hv:v<=8)(hd0:0<=d)(hd:d<1000000):(dN t d).In (d+v):=by unfold dN;induction h with|var n h0 h1=>simp only[Tm.ren,if_true,Tm.qx,Hf h0 (show n<1099511627776 by omega),Hf hd0 (show d<1099511627776 by omega)];exact .var _ (by omega) (by omega)|atom s h=>exact .atom s h|int n h0 h1=>exact .int n h0 h1|comp s l h h1 h2 h3 _ ih=>simp only[Tm.ren,Tm.JH];refine .comp s _ h h1 (by simpa using h2) (by simpa using h3) fun t ht=>?_;obtain⟨x,hx,rfl⟩:=fZ.1 ht;exact ih x hx
theorem dW.at{P:List Cl}(h:dW P){k:Nat}{c:Cl}(hc:P[k]?=some c):c.Good:=h.2 c (Pt hc)
theorem Ws(P:List Cl)(t:Tm):∀(n k:Nat),k<=kP P t n k/\kP P t n k<=k+n
 |0,k=>by simp[kP]
 |n+1,k=>by
  unfold kP;have :=Ws P t n (k+1);split;·omega
  ·split<;>omega
section
variable {P : List Cl} {g : Gl} {rest : List Gl}
theorem KX:∀(n k:Nat)(s s':Sv),lG P g rest n k s=(.no,s')->s'=s
 |0,k,s,s',h=>by simp[lG]at h;exact h.symm
 |n+1,k,s,s',h=>by
  rw[lG]at h;have ih:=KX n (k+1) s s';split at h;·simpa using h.symm
  ·split at h;·exact ih h
   ·simp only at h;split at h;·simp at h
    ·split at h;·exact ih h
     ·simp at h
theorem KY:∀(n k:Nat)(s s':Sv)(gl:List Gl),n=P.length - k->dW P->0<=s.vars->s.vars<999000->cz s.vars s.env->(∀c∈s.choices,Bd P s.vars s.env.length c)->(s.choices.Pairwise fun c d=>d.trail<=c.trail)->sw s.vars (g::rest)->s.choices.length<150->lG P g rest n k s=(.next gl,s')->sw s'.vars gl/\0<=s'.vars/\cz s'.vars s'.env/\(∀c∈s'.choices,Bd P s'.vars s'.env.length c)/\(s'.choices.Pairwise fun c d=>d.trail<=c.trail)/\s'.fuel=s.fuel/\s'.out=s.out/\s.vars<=s'.vars/\s'.vars<=s.vars+8/\s'.env.length<=s.env.length+400/\(s'.choices=s.choices\/∃c,s'.choices=c::s.choices/\k<c.at_)/\k<P.length
 |0,k,s,s',gl,hn,hP,hv0,hv1,hE,hC,hT,hG,hl,h=>by simp[lG]at h
 |n+1,k,s,s',gl,hn,hP,hv0,hv1,hE,hC,hT,hG,hl,h=>by
  rw[lG]at h;have ih:=KY n (k+1) s s' gl (by omega) hP hv0 hv1 hE hC hT hG hl;have ih':lG P g rest n (k+1) s=(.next gl,s')->_:=fun e=>by have :=ih e;obtain⟨a1,a2,a3,a4,a5,a6,a7,a8,a9,Be,yB,a12⟩:=this;exact(⟨a1,a2,a3,a4,a5,a6,a7,a8,a9,Be,yB.imp id fun⟨c,h1,h2⟩=>⟨c,h1,by omega⟩,by omega⟩:sw s'.vars gl/\0<=s'.vars/\cz s'.vars s'.env/\(∀c∈s'.choices,Bd P s'.vars s'.env.length c)/\(s'.choices.Pairwise fun c d=>d.trail<=c.trail)/\s'.fuel=s.fuel/\s'.out=s.out/\s.vars<=s'.vars/\s'.vars<=s.vars+8/\s'.env.length<=s.env.length+400/\(s'.choices=s.choices\/∃c,s'.choices=c::s.choices/\k<c.at_)/\k<P.length)
  split at h;·simp at h
  ·rename_i c hc;have hcg:=hP.at hc;obtain⟨⟨an5,KZ, -,hbody⟩, -,⟨hhead, -⟩, -⟩:=hcg;have hg0:=hG g (by simp);split at h;·exact ih' h
   ·simp only at h;split at h;·simp at h
    ·rename_i hw;split at h;·exact ih' h
     ·obtain⟨hE',F,hF,hFl⟩:=AU (N:=s.vars+c.vars) 400 [(dN c.head s.vars,g.t)] s.env (hE.mono (by omega)) (by intro p hp;simp only[gB]at hp;subst hp;exact⟨Hg hhead KZ hv0 (by omega),hg0.1.mono (by omega)⟩);simp only[lD,Eo.next.injEq]at h;obtain⟨rfl,rfl⟩:=h;have hEl:(bM 400 [(dN c.head s.vars,g.t)] s.env).env.length=s.env.length+F.length:=by rw[hF,bT]
      have hb:=Ws P g.t (P.length - (k+1)) (k+1);have hkP:k<P.length:=(gT.1 hc).1;have hC':∀x∈s.choices,Bd P (s.vars+c.vars) (bM 400 [(dN c.head s.vars,g.t)] s.env).env.length x:=fun x hx=>(hC x hx).mono (by omega) (by omega);refine⟨?_,by simp only;omega,hE',?_,?_,rfl,rfl,by simp only;omega,by simp only;omega,by simp only;omega,?_,hkP⟩
      ·intro x hx;simp only[xX,fE,fZ]at hx;rcases hx with⟨t,ht,rfl⟩|hx;·exact⟨Hg (hbody t ht).2.1 KZ hv0 (by omega),by simp only;omega⟩
       ·have :=hG x (by simp[hx]);exact⟨this.1.mono (by simp only;omega),this.2⟩
      ·simp only;split
       ·intro x hx;rcases gK.1 hx with rfl|hx;·exact⟨by simp,hG.mono (by omega),by simp only;omega,by assumption,by simp only;omega⟩
        ·exact hC' x hx
       ·exact hC'
      ·simp only;split;·exact F9.2 ⟨fun d hd=>(hC d hd).trail,hT⟩
       ·exact hT
      ·simp only;split;·exact .inr ⟨_,rfl,by simp only;omega⟩
       ·exact .inl rfl
end
theorem ES(f:Nat)(c:jO)(cs:List jO):bY f (c::cs)=bY f cs+(24 - c.at_):=by simp only[bY,qp,List.sum_cons];omega
theorem QH(f:Nat)(cs:List jO)(h:f≠0):bY f cs=bY (f - 1) cs+25:=by unfold bY;omega
theorem Wt(f:Nat):∀(cs:List jO)(k:Nat),bY f (cs.drop k)<=bY f cs|[],k=>by simp|c::cs,0=>by simp|c::cs,k+1=>by rw[alW,ES];have :=Wt f cs k;omega
section
variable {P : List Cl}
theorem Hl:∀(cs:List jO)(s s':Sv)(gl:List Gl),gZ P {s with choices:=cs}->iK P cs s=(.next gl,s')->gZ P s'/\sw s'.vars gl/\s'.fuel=s.fuel/\s'.out=s.out/\s.vars<=s'.vars
 |[],s,s',gl,h,e=>by simp[iK]at e
 |c::cs,s,s',gl,h,e=>by
  have hc:=h.cO c (by simp);obtain⟨h1,h2,h3,h4,h5,h6,h7,h8⟩:=h;simp only at h1 h2 h3 h4 h5 h6 h7 h8;rw[ES]at h6 h7;have hT:=F9.1 h5;have hEl:(s.env.take c.trail).length=c.trail:=by rw[eY];have :=hc.trail;simp only at this;omega
  have hC:∀x∈cs,Bd P s.vars (s.env.take c.trail).length x:=fun x hx=>by have k:=h4 x (by simp[hx]);exact⟨k.ne,k.oL,k.one,k.lt,by rw[hEl];exact hT.1 x hx⟩
  have hlt:=hc.lt;have htr:=hc.trail;simp only at htr;have aea:=h1.1;rw[iK]at e;split at e;·exact absurd (by assumption) hc.ne
  ·rename_i g rest hg;split at e;·rename_i s2 he;have :=KX _ _ _ _ he;subst this;have :=Hl cs {s with choices:=cs,env:=s.env.take c.trail} s' gl ⟨h1,h2,h3.take _,hC,hT.2,by simp only;omega,by simp only[hEl];omega,by simp only[cK]at h8 ⊢;omega⟩ e;simpa using this
   ·rename_i hne;obtain⟨a1,a2,a3,a4,a5,a6,a7,a8,a9,Be,yB,a12⟩:=KY (P.length - c.at_) c.at_ {s with choices:=cs,env:=s.env.take c.trail} s' gl rfl h1 h2 (by simp only;omega) (h3.take _) hC hT.2 (by rw[<-hg];exact hc.oL) (by simp only[cK]at h8 ⊢;omega) e;simp only[hEl]at a6 a7 a8 a9 Be yB;refine⟨⟨h1,a2,a3,a4,a5,?_,?_,?_⟩,a1,a6,a7,a8⟩
    ·rw[a6];rcases yB with e2|⟨d,e2,hd⟩;·rw[e2];omega
     ·rw[e2,ES];omega
    ·rw[a6];rcases yB with e2|⟨d,e2,hd⟩;·rw[e2];omega
     ·rw[e2,ES];omega
    ·rw[a6];simp only[cK]at h8;rcases yB with e2|⟨d,e2,hd⟩;·rw[e2];omega
     ·rw[e2,cK];omega
theorem Wu{N:Int}{t:Tm}(h:t.In N)(hN:0<=N)(i:Nat)(hi:i<t.args.length):((t.args[i]?).getD default).In N:=by rw[aT hi];exact h.arg (bO hi)
theorem K3{g:Gl}{s s':Sv}{r:Option Bool}(h:gZ P s)(hg:g.t.In s.vars)(hk:g.t.gF)(hpe:s.env.length+400+400*bY s.fuel s.choices<=1500000)(e:zA g s=(r,s'))(hr:r≠none):gZ P s'/\s'.fuel=s.fuel/\s'.out=s.out/\s'.vars=s.vars:=by
 obtain⟨h1,h2,h3,h4,h5,h6,h7,h8⟩:=h;have hbind:∀(a b:Tm),a.In s.vars->b.In s.vars->gZ P {s with env:=(bM 400 [(a,b)] s.env).env}:=fun a b ha hb=>by
  obtain⟨hE',F,hF,hFl⟩:=AU (N:=s.vars) 400 [(a,b)] s.env h3 (by intro p hp;simp only[gB]at hp;subst hp;exact⟨ha,hb⟩);have hEl:(bM 400 [(a,b)] s.env).env.length=s.env.length+F.length:=by rw[hF,bT]
  exact⟨h1,h2,hE',fun c hc=>(h4 c hc).mono (kr _) (by simp only;omega),h5,h6,by simp only;omega,h8⟩
 unfold zA at e;have hlen:∀{x},g.t.s.toList=x->(x=[101,113]\/x=[108,101,115,115]->g.t.args.length=2):=by
  rintro x rfl hx;rcases hk with⟨_,hk⟩|⟨k0,hk⟩|⟨_,hk⟩;·rcases hx with hx|hx<;>rw[hx]at hk<;>simp at hk
  ·exact k0
  ·rcases hx with hx|hx<;>rw[hx]at hk<;>simp at hk
 split at e
 ·simp only[lD]at e;obtain⟨rfl,rfl⟩:=e;refine⟨⟨h1,h2,h3,fun c hc=>h4 c (F7 hc),h5.sublist (List.drop_sublist _ _),?_,?_,?_⟩,rfl,rfl,rfl⟩;·have :=Wt s.fuel s.choices (s.choices.length - g.bar);simp only;omega
  ·have :=Wt s.fuel s.choices (s.choices.length - g.bar);simp only;omega
  ·simp only[PG];omega
 ·split at e;·simp only[lD]at e;obtain⟨rfl,rfl⟩:=e;exact⟨⟨h1,h2,h3,h4,h5,h6,h7,h8⟩,rfl,rfl,rfl⟩
  ·split at e;·simp only[lD]at e;obtain⟨rfl,rfl⟩:=e;exact⟨⟨h1,h2,h3,h4,h5,h6,h7,h8⟩,rfl,rfl,rfl⟩
   ·split at e
    ·rename_i hs;have h2l:=hlen hs (.inl rfl);simp only at e;split at e;·simp only[lD]at e;exact absurd e.1.symm hr
     ·simp only[lD]at e;obtain⟨rfl,rfl⟩:=e;exact⟨hbind _ _ (Wu hg h2 0 (by omega)) (Wu hg h2 1 (by omega)),rfl,rfl,rfl⟩
    ·rename_i n1 n2 n3 n4;simp only at e;split at e;·simp only[lD]at e;exact absurd e.1.symm hr
     ·split at e;·simp only[lD]at e;obtain⟨rfl,rfl⟩:=e;exact⟨⟨h1,h2,h3,h4,h5,h6,h7,h8⟩,rfl,rfl,rfl⟩
      ·rename_i n5;have h3l:g.t.args.length=3:=by
        rcases hk with⟨_,hk⟩|⟨_,hk⟩|⟨k0,_⟩
        ·rcases hk with hk|hk|hk;·exact absurd hk n1
         ·exact absurd hk n2
         ·exact absurd hk n3
        ·rcases hk with hk|hk;·exact absurd hk n4
         ·exact absurd hk n5
        ·exact k0
       split at e;·simp only[lD]at e;exact absurd e.1.symm hr
       ·simp only[lD]at e;obtain⟨rfl,rfl⟩:=e;exact⟨hbind _ _ (Wu hg h2 2 (by omega)) (.int _ (by omega) (by omega)),rfl,rfl,rfl⟩
theorem Wv{g:Gl}{rest gl:List Gl}{s s':Sv}(h:gZ P s)(hg:sw s.vars (g::rest))(e:uY P g rest s=(.next gl,s')):gZ P s'/\sw s'.vars gl/\s'.fuel+1=s.fuel/\s'.out=s.out/\s.vars<=s'.vars:=by
 unfold uY at e;have hrest:sw s.vars rest:=fun x hx=>hg x (by simp[hx]);split at e;·simp at e
 ·rename_i hf;have hp:=QH s.fuel s.choices hf;obtain⟨h1,h2,h3,h4,h5,h6,h7,h8⟩:=h;rw[hp]at h6 h7;have hs1:gZ P {s with fuel:=s.fuel - 1}:=⟨h1,h2,h3,h4,h5,by simp only;omega,by simp only;omega,by simp only;omega⟩;simp only at e;split at e
  ·rename_i hk;split at e;·simp at e
   ·rename_i s2 he;simp only[lD,Eo.next.injEq]at e;obtain⟨rfl,rfl⟩:=e;obtain⟨a1,a2,a3,a4⟩:=K3 hs1 (hg g (by simp)).1 hk (by simp only;omega) he (by simp);exact⟨a1,by rw[a4];exact hrest,by rw[a2];simp only;omega,a3,by rw[a4];exact kr _⟩
   ·rename_i s2 he;obtain⟨a1,a2,a3,a4⟩:=K3 hs1 (hg g (by simp)).1 hk (by simp only;omega) he (by simp);obtain⟨b1,b2,b3,b4,b5⟩:=Hl s2.choices s2 s' gl a1 e;exact⟨b1,b2,by rw[b3,a2];simp only;omega,b4.trans a3,by rw[a4]at b5;exact b5⟩
  ·split at e;·simp at e
   ·split at e;·rename_i s2 he;have :=KX _ _ _ _ he;subst this;obtain⟨b1,b2,b3,b4,b5⟩:=Hl _ _ s' gl hs1 e;exact⟨b1,b2,by rw[b3];simp only;omega,b4,b5⟩
    ·obtain⟨a1,a2,a3,a4,a5,a6,a7,a8,a9,Be,yB,a12⟩:=KY P.length 0 {s with fuel:=s.fuel - 1} s' gl (by omega) h1 h2 (by simp only;omega) h3 h4 h5 hg (by simp only;omega) e;simp only at a6 a7 a8 a9 Be yB;refine⟨⟨h1,a2,a3,a4,a5,?_,?_,?_⟩,a1,by omega,a7,a8⟩
     ·rw[a6];rcases yB with e2|⟨d,e2,hd⟩;·rw[e2];omega
      ·rw[e2,ES];omega
     ·rw[a6];rcases yB with e2|⟨d,e2,hd⟩;·rw[e2];omega
      ·rw[e2,ES];omega
     ·rw[a6];rcases yB with e2|⟨d,e2,hd⟩;·rw[e2];omega
      ·rw[e2,cK];omega
end
def TmV(A:Nat->Prop)(w:World)(t:Tm)(v:Value):Prop:=∃us,v= .agg us.toArray/\Tm.rep A w t us
def aec(A:Nat->Prop)(w:World):Env->List (Int×Value)->Prop|[],[]=>True|(n,t)::E,(m,v)::L=>(m=n/\TmV A w t v)/\aec A w E L|_,_=>False
def an8(A:Nat->Prop)(w:World)(mb:Nat)(E:Env):Prop:=∃L,rH w mb L/\aec A w E L
def aed(A:Nat->Prop)(w:World):List Gl->Value->Prop|[],v=>v= .pointer none|g::r,v=>∃b a cap rv,v= .pointer (some ⟨b,0,none⟩)/\A b/\w.heap[b]?=some (.cells #[.int .i64 g.t.kind,.int .i64 g.t.n,.string g.t.s,.slice a g.t.args.length cap,.int .i64 (g.bar:Int),rv] 100 (0,0))/\Tm.rep A w g.t [.int .i64 g.t.kind,.int .i64 g.t.n,.string g.t.s,.slice a g.t.args.length cap]/\aed A w r rv
def an9(A:Nat->Prop)(w:World)(c:jO)(vs:List Value):Prop:=∃v,vs=[v,.int .i64 (c.at_:Int),.int .i64 (c.trail:Int)]/\aed A w c.g v
def yC(A:Nat->Prop)(w:World)(e:Ev)(vs:List Value):Prop:=∃v,vs=[.int .i64 e.kind,v]/\eP A w e.terms v/\aA e.kind
theorem nN:iq yC:=by
 refine⟨fun A w w' c vs h hk=>?_,fun A A' w c vs h hA=>?_,fun A w c vs h=>?_⟩;·obtain⟨v,h1,h2,h3⟩:=h;exact⟨v,h1,h2.keeps hk,h3⟩
 ·obtain⟨v,h1,h2,h3⟩:=h;exact⟨v,h1,au.mono Tm.aj (by omega) h2 hA,h3⟩
 ·obtain⟨v,rfl,h2,h3⟩:=h;obtain⟨a,cap,_,_,rfl, -⟩:=au.at h2;simp[Value.oneCell']
theorem aG.mono'{α:Type}{w:World}{base:Nat}{E:TypeId}{size:Nat}{R:(Nat->Prop)->World->α->List Value->Prop}{A A':Nat->Prop}{xs:List α}{v:Value}(hR:iq R)(h:aG w base E size R A xs v)(hA:∀b,b<w.heap.size->A b->ownB v≠some b->A' b):aG w base E size R A' xs v:=by obtain⟨vals,hl,ho,he⟩:=h;refine⟨vals,hl,ho,fun i x vs hx hv=>?_⟩;obtain⟨h1,h2⟩:=he i x vs hx hv;exact⟨h1,hR.2.1 _ _ _ _ _ h2 fun b hb hb'=>⟨hA b hb hb'.1 hb'.2,hb'.2⟩⟩
def SM(g mb:Nat)(tv cv ov:Value)(b:Nat):Prop:=b=g\/b=mb\/ownB tv=some b\/ownB cv=some b\/ownB ov=some b
def SA(g mb xb:Nat)(tv cv ov:Value)(b:Nat):Prop:=¬SM g mb tv cv ov b/\b≠xb
structure SvI (base : Nat) (P : List Cl) (q : Nat) (g mb xb : Nat) (pv tv cv ov : Value) (s : Sv) (w : World) : Prop where
  box : w.heap[g]? = some (.cells #[pv, .map (some mb), tv, cv, .int .i64 s.vars, .int .i64 (s.fuel : Int), ov, .int .i64 (q : Int)] 97 (0, 0))
  prog : lW (fun b => b < base) w P pv
  env : an8 (SA g mb xb tv cv ov) w mb s.env
  trail : dK w base (s.env.map (·.1)) tv
  cO : aG w base 161 3 an9 (SA g mb xb tv cv ov) s.choices.reverse cv
  out : aG w base 42 2 yC (SA g mb xb tv cv ov) s.out ov
  bg : base ≤ g
  bm : base ≤ mb
  bx : base ≤ xb
  bxl : xb < w.heap.size
  nx : xb = g ∨ ¬ SM g mb tv cv ov xb
  v0 : 0 ≤ s.vars
  v1 : s.vars ≤ 1000000
  fu : s.fuel ≤ 150
  qq : q ≤ 8
  len : s.env.length ≤ 1000000
  few : s.choices.length ≤ 1000
  Ww : s.out.length ≤ 20
section
variable {base : Nat} {P : List Cl} {q g mb xb : Nat} {pv tv cv ov : Value} {s : Sv} {w : World}
end
theorem yD{w:World}{g:Nat}{E:TypeId}{a b c d v0 v1 v2 v3:Value}(h:w.heap[g]?=some (.cells #[a,b,c,d] E (0,0))):((((w.setCell ⟨g,0,none⟩ v0).setCell ⟨g,1,none⟩ v1).setCell ⟨g,2,none⟩ v2).setCell ⟨g,3,none⟩ v3).heap[g]?=some (.cells #[v0,v1,v2,v3] E (0,0)):=(bG (bG (bG (bG h 0 v0) 1 v1) 2 v2) 3 v3).trans rfl
theorem Bf(w:World)(g b:Nat)(v0 v1 v2 v3:Value)(h:b≠g):((((w.setCell ⟨g,0,none⟩ v0).setCell ⟨g,1,none⟩ v1).setCell ⟨g,2,none⟩ v2).setCell ⟨g,3,none⟩ v3).heap[b]?=w.heap[b]?:=by rw[bH _ _ _ _ h,bH _ _ _ _ h,bH _ _ _ _ h,bH _ _ _ _ h]
theorem vz{B:Nat}{w0 w:World}(hb:Below B w0 w){g:Nat}(hg:B<=g)(v0 v1 v2 v3:Value):Below B w0 ((((w.setCell ⟨g,0,none⟩ v0).setCell ⟨g,1,none⟩ v1).setCell ⟨g,2,none⟩ v2).setCell ⟨g,3,none⟩ v3):=bK (bK (bK (bK hb hg _) hg _) hg _) hg _
theorem wU(A:Nat->Prop)(w:World){g:Nat}(hg:¬A g)(v0 v1 v2 v3:Value):af A w ((((w.setCell ⟨g,0,none⟩ v0).setCell ⟨g,1,none⟩ v1).setCell ⟨g,2,none⟩ v2).setCell ⟨g,3,none⟩ v3):=(((af.setCell A _ _ _ hg).trans (af.setCell A _ _ _ hg)).trans (af.setCell A _ _ _ hg)).trans (af.setCell A _ _ _ hg)
def aoa(A:Nat->Prop)(w:World)(t:Tm)(e:Ending)(w':World):Prop:=∃v,e= .returned v/\Below w.heap.size w w'/\TmV A w' t v
def kR(xb:Nat)(k:Int)(w:World):Prop:=w.heap[xb]?=some (.cells #[.int .i64 k] 3 (0,0))
theorem kR.cell{xb:Nat}{k:Int}{w:World}(h:kR xb k w):w.cell? ⟨xb,0,none⟩=some (.int .i64 k)/\(∀o,w.frozen? ⟨xb,o,none⟩=false)/\xb<w.heap.size:=⟨(bW h 0).trans rfl,fun o=>by simp[World.frozen?,show w.heap[xb]?=_ from h],aJ h⟩
section
variable {base : Nat} {P : List Cl} {q g mb xb : Nat} {pv tv cv ov : Value} {s : Sv} {N : Int}
theorem aee(xb o:Nat)(w:World)(u:Value):Ch (fun b=>b=xb) w (w.setCell ⟨xb,o,none⟩ u):=CK xb o w u
theorem kR.set{k k':Int}{w:World}(h:kR xb k w):kR xb k' (w.setCell ⟨xb,0,none⟩ (.int .i64 k')):=(bG h 0 _).trans rfl
end
section
variable {base : Nat} {P : List Cl} {q g mb xb : Nat} {pv tv cv ov tv' cv' gI : Value} {s : Sv} {N : Int} {w w' : World}
theorem qN{E:TypeId}{size n:Nat}{v:Value}{xs:List Value}{k:Nat}(h:Own w base E size v n xs)(hk:ownB v=some k):∃c,w.heap[k]?=some (.cells c E (0,0)):=by
 rcases h.2 with⟨_,a,rfl⟩|⟨g,cap,cur,rfl,hc,hb,hg,_⟩;·cases a<;>simp[ownB]at hk
 ·simp only[ownB,Av.1 hc,if_false,dm]at hk;subst hk;exact⟨cur,hg⟩
theorem aG.ty{α:Type}{E:TypeId}{size:Nat}{R:(Nat->Prop)->World->α->List Value->Prop}{A:Nat->Prop}{xs:List α}{v:Value}{k:Nat}(h:aG w base E size R A xs v)(hk:ownB v=some k):∃c,w.heap[k]?=some (.cells c E (0,0)):=by obtain⟨vals,_,ho,_⟩:=h;exact qN ho hk
theorem yE{E E':TypeId}{c c':Array Value}{k:Nat}(h:w.heap[k]?=some (.cells c E (0,0)))(h':w.heap[k]?=some (.cells c' E' (0,0))):E=E':=by rw[h]at h';simp only[dm,Obj.cells.injEq]at h';exact h'.2.1
structure Apart (g mb : Nat) (tv cv ov : Value) : Prop where
  tg : ownB tv ≠ some g
  tm : ownB tv ≠ some mb
  cg : ownB cv ≠ some g
  cm : ownB cv ≠ some mb
  og : ownB ov ≠ some g
  om : ownB ov ≠ some mb
  tc : ∀ b, ownB tv = some b → ownB cv ≠ some b
  too : ∀ b, ownB tv = some b → ownB ov ≠ some b
  co : ∀ b, ownB cv = some b → ownB ov ≠ some b
end
theorem Wx{s s':ByteArray}(h:¬s=s'):¬s.toList=s'.toList:=by intro e;rw[F8,F8]at e;apply h;cases s;cases s';simp only[ByteArray.mk.injEq];exact acf.1 e
section
variable {base : Nat} {P : List Cl} {q g mb xb : Nat} {pv cv ov : Value} {N : Int}
end
theorem QI:nZ Tryz.prog 24 42 2 32:= .mk' (z:= .agg #[.int .i64 0,.slice none 0 0]) Tryz.underlying24 (by kernel_rfl) rfl (by omega) (by omega)
section
variable {base : Nat} {P : List Cl} {q g mb xb : Nat} {pv tv cv ov tv' cv' gI : Value} {s s' : Sv} {N : Int} {w w' : World}
end
