import Derived.Test.YtlpmfkpefoegeacGreatDoorQMach12
import Derived.Test.YtlpmfkpefoegeacGreatDoorPMEnd
namespace Go.Proofs.YtlpmfkpefoegeacGreatDoor
set_option maxRecDepth 99999
set_option maxHeartbeats 0
set_option linter.all false
section
variable {P : List Cl} {q : Nat} {m : Mv} {s : Sv}
theorem aal:∀(cs:List Cm)(m m':Mv),m.h=m'.h->m.goals=m'.goals->uB P cs m->uB P cs m'
 |[],m,m',_,_,h=>trivial
 |c::cs,m,m',e1,e2,h=>by
  obtain⟨h1,h2,h3,h4,h5⟩:=h;refine⟨by rw[<-e2];exact h1,h2,by rw[<-e1];exact h3,?_,aal cs _ _ ?_ ?_ h5⟩;·unfold cB at h4 ⊢;rw[<-e1,<-e2];exact h4
  ·simp only[e1]
  ·exact e2
theorem Tk:∀(cs:List Cm)(ds:List jO)(m:Mv)(s:Sv),gZ P {s with choices:=ds}->m.h.Good->kG m.h s.env s.vars q m.query m.goals cs ds->uB P cs m
 |[],ds,m,s,_,_,_=>trivial
 |_::_,[],m,s,_,_,h=>h.elim
 |c::cs,d::ds,m,s,hok,hg,hch=>by
  obtain⟨k,hle,hrest⟩:=hch;have hdo:=hok.cO d (by simp);have pX:=hok.pop;have hpw:=(F9.1 hok.QG).1;simp only at hdo pX hpw;have hu:=agb hg k.top k.tr k.good;have hlen:=Bl (h:=m.h) c.top c.trail k.top;have L8:=k.snap;cases hg':d.g with
   |nil=>exact absurd hg' hdo.ne
   |cons g rest=>
    rw[hg']at L8;obtain⟨φ, -, -,kk,e1,hlt, -,hga, -⟩:=L8;have e2:kk=c.goal:=by omega
    subst e2;refine⟨hlt,by rw[k.from_];have :=hdo.lt;omega,by rw[hu];exact k.good,by rw[hu];exact hga.jF,?_⟩;rw[hu];refine Tk cs ds {m with choices:=cs,h:=eu m.h c.top c.trail} {s with choices:=ds,env:=s.env.take d.trail} pX k.good ?_;exact hrest.imp fun x y hx hy r=>by
     obtain⟨h1,h2⟩:=hle x hx;refine r.move (afe h1 h2) (by rw[hlen];exact h1) ?_ ?_ ?_ (kr _) (fun _ _=>rfl) (zL _);·show x.trail<=(m.h.trail.take c.trail).length;rw[eY];have :=k.tr;omega
     ·rw[Vo,Gd (hpw y hy)]
     ·rw[eY];have :=hpw y hy;have :=r.zX;omega
theorem aiu{gl:List Gl}(S:uy P q m s gl):m.choices.length<=150/\m.goals.length<=5000:=by have h1:=S.nT.cO.len;have h2:=S.ok.few;have h3:=S.nT.lL;omega
theorem aty{gl:List Gl}(S:uy P q m s gl):uB P m.choices m:=Tk m.choices s.choices m s S.ok S.nT.good S.nT.cO
theorem aiv{gl:List Gl}(S:uy P q m s gl):∀v:Nat,v<q->aA (m.query+(v:Nat)):=fun v hv=>by obtain⟨φ, -,hq, -⟩:=S.nT.cur;obtain⟨h0,h1⟩:=(hq v hv).1;have :=S.nT.good.2.2.1;unfold aA;omega
theorem aiw{N:Int}{l:List Ce}{φ:Int->Int}{E:Env}{K:Int->Prop}{a:Int}{t:Tm}(h:Hr l φ E K a t):0<=look l a:=by obtain⟨x,hx⟩:=h.looks;rw[iQ hx];exact hx.nC
theorem aix{N:Int}{t:Tm}(h:t.In N)(hk:t.kind=2): -1099511627776<=t.n/\t.n<=1099511627776:=by cases h with|var=>cases hk|atom=>cases hk|int n h0 h1=>exact⟨h0,h1⟩|comp=>cases hk
theorem atz{N:Int}{t:Tm}(h:t.In N):t.args.length<=4:=by cases h with|var=>simp[Tm.args]|atom=>simp[Tm.args]|int=>simp[Tm.args]|comp _ _ _ _ _ h3=>exact h3
theorem atA{g:Gl}{rest:List Gl}(hP:dW P)(S:uy P q m s (g::rest))(dB:(q:Int)<=s.vars)(hout:s.out.length<=11)(hf:m.fuel≠0):YW P m:=by
 obtain⟨hok,BI,S⟩:=S;obtain⟨φ,hM,hq,kk,e1,hlt,uq,hga,hnx,hch⟩:=S.cur;obtain rfl:kk=m.now.toNat:=by omega
 have hf':s.fuel≠0:=by rw[<-S.fuel];exact hf
 have hp:=QH s.fuel s.choices hf';have hs1:gZ P {s with fuel:=s.fuel - 1}:=by obtain⟨h1,h2,h3,h4,h5,h6,h7,h8⟩:=hok;rw[hp]at h6 h7;exact⟨h1,h2,h3,h4,h5,by simp only;omega,by simp only;omega,by simp only;omega⟩
 have hpV:=hok.KW;have uk:=hok.Wq;rw[hp]at uk;have hsl:∀c:Nat,c+mV m.fuel m.out<=60000->c+300+mV (m.fuel - 1) m.out<=60000:=fun c h=>by unfold mV at h ⊢;omega
 have hsl2:∀c:Nat,c+300+mV m.fuel m.out<=60000->c+300+mV (m.fuel - 1) m.out<=60000:=fun c h=>by unfold mV at h ⊢;omega
 have Zn:m.goals.length+5+Br (m.fuel - 1) m.out<=5000:=by have h:=S.lL;unfold Br at h ⊢;omega
 have C:Fg q {m with fuel:=m.fuel - 1} {s with fuel:=s.fuel - 1} m.now.toNat g rest:={good:=S.good,env:=hok.env,v0:=hok.He,v1:=by simp only;omega,qv:=dB,gt:=(BI g (by simp)).1,fuel:=by show m.fuel - 1=s.fuel - 1;rw[S.fuel],out:=S.out,tr:=S.tr,cur:=⟨φ,hM,hq,m.now.toNat,rfl,hlt,uq,hga,by rw[<-e1];exact hnx,hch⟩,cO:=S.cO,bY:=hsl _ S.bY,mW:=fun c hc=>hsl2 _ (S.mW c hc),lL:=Zn};have ze:kU s.vars m.h.cells φ s.env (cB m m.now.toNat).at_ g.t:=hga;have hkc:=ag2 ze;have aam:=ze.zW;refine⟨by omega,hlt,S.good,ze.jF,?_,?_,?_,?_,?_⟩;·rw[ze.cell];exact zN _
 ·rw[ze.cell];have :=atz aam;simp only;omega
 ·intro hk n1 n2 n3 n4;have hk':=hkc.1 hk;rw[ze.cell]at n1 n2 n3 n4;simp only at n1 n2 n3 n4;have h2:2<=g.t.args.length:=by
   rcases hk' with⟨_,h|h|h⟩|⟨h,_⟩|⟨h,_⟩;·exact absurd h n1
   ·exact absurd h n2
   ·exact absurd h n3
   ·omega
   ·omega
  have hne:g.t.args≠[]:=fun e=>by rw[e]at h2;simp at h2
  have ha:=FE ze hne 0 (by omega);have hb:=FE ze hne 1 (by omega);simp only[Vn,acy]at ha;rw[show(cB m m.now.toNat).at_+1+((1:Nat):Int)=(cB m m.now.toNat).at_+2 by omega]at hb;refine⟨aiw (N:=s.vars) ha,aiw (N:=s.vars) hb,fun ka kb=>?_⟩;obtain⟨a1,a2⟩:=Sq ha;obtain⟨c1,c2⟩:=Sq hb;have g1:=aix (oz hok.env (aam.arg (bO (show 0<g.t.args.length by omega)))) (a1.1 ka);have g2:=aix (oz hok.env (aam.arg (bO (show 1<g.t.args.length by omega)))) (c1.1 kb);rw[a2 (a1.1 ka),c2 (c1.1 kb)];unfold aA;omega
 ·intro m' hk e;have hk':=hkc.1 hk;have hks:=agZ (P:=P) C hk';have CX:cB {m with fuel:=m.fuel - 1} m.now.toNat=cB m m.now.toNat:=rfl;rw[CX,e]at hks;have iE:=fun(r:Option Bool)(s':Sv)(e:zA g {s with fuel:=s.fuel - 1}=(r,s'))(hr:r≠none)=>K3 hs1 (BI g (by simp)).1 hk' (by simp only;omega) e hr;generalize zA g {s with fuel:=s.fuel - 1}=rs at*;obtain⟨rb,s'⟩:=rs;match rb,hks,iE with|none,hks,_=>exact hks.elim|some true,hks,_=>exact hks.elim|some false,hks,iE=>obtain⟨a1,a2,a3,a4⟩:=iE (some false) s' rfl (by simp);have B:=hks a1;have b1:=B.cO.len;have b2:=a1.few;have b3:=B.lL;have b4:=B.out;refine⟨Tk m'.choices s'.choices m' s' a1 B.good B.cO,by omega,by omega,by rw[b4,a3];show s.out.length+1<=20;omega⟩
 ·intro m' hk e;obtain rfl:=IE P.length 0 _ _ e;exact aal _ m _ rfl rfl (Tk m.choices s.choices m s hok S.good S.cO)
theorem atB{gl:List Gl}(S:uy P q m s gl):Zy q m:=by
 have atC:=aiv S;obtain⟨hok,BI,S⟩:=S;obtain⟨φ,hM,hq,hch⟩:=S.cur;have hst:∀n∈iX m,0<=n->qd m.goals m.h.cells n.toNat:=by
  intro n hn h0;unfold iX at hn;rcases fE.1 hn with hn|hn;·obtain⟨c,hc,rfl⟩:=fZ.1 hn;obtain⟨d,hd,k⟩:=S.cO.mem c (Gc.1 hc);obtain⟨φ', -, -,k3⟩:=k.snap;refine ML (fun a ha=>?_) _ _ k3 h0;have :=Bl (h:=m.h) c.top c.trail k.top;have :=k.top;unfold Inb at ha ⊢;omega
  ·simp only[gB]at hn;subst hn;exact ML (fun _ h=>h) _ _ hch h0
 have hgc:=S.lL;have hlow:∀n∈iX m, -1<=n:=by
  intro n hn;unfold iX at hn;rcases fE.1 hn with hn|hn;·obtain⟨c,hc,rfl⟩:=fZ.1 hn;omega
  ·simp only[gB]at hn;subst hn;exact hch.ge.1
 have hgood:=S.good;have h65:=hgood.2.2.1;have htl:=hgood.2.2.2;obtain⟨-, -, -,hvv⟩:=Zo (l:=m.h.cells) (iX m) [] hst (by simp) (by intro i hi;cases hi);have Sy:∀r∈jE q m,Inb m.h.cells r:=by
  intro r hr;unfold jE at hr;rcases fE.1 hr with hr|hr;·obtain⟨v,hv,rfl⟩:=fZ.1 hr;exact(hq v (ko.1 hv)).1
  ·obtain⟨i,hi,rfl⟩:=fZ.1 hr;cases hvv i hi with|mk _ h1 h2=>exact h2
 refine⟨hst,fun n hn=>?_,atC,fun _=>?_⟩
 ·by_cases h0:0<=n;·have :=(hst n hn h0).lt;unfold aA;omega
  ·have :=hlow n hn;unfold aA;omega
 ·rw[ag9 hgood Sy];simp only[ny,xJ];refine⟨trivial,trivial,trivial,fun x hx=>?_,fun x hx=>?_⟩;·obtain⟨y,hy,rfl⟩:=fZ.1 hx;obtain⟨c,hc,rfl⟩:=fZ.1 hy;obtain⟨d,hd,k⟩:=S.cO.mem c (Gc.1 hc);have h1:=k.top;have h2:=ag8 (m:=marks m.h.cells (jE q m)) ((c.top:Int).toNat);unfold ahead;rw[dG]at h2 ⊢;omega
  ·obtain⟨y,hy,rfl⟩:=fZ.1 hx;obtain⟨c,hc,rfl⟩:=fZ.1 hy;obtain⟨d,hd,k⟩:=S.cO.mem c (Gc.1 hc);have h1:=k.tr;have h2:=ag8 (m:=bu (marks m.h.cells (jE q m)) m.h.trail) ((c.trail:Int).toNat);unfold ahead;rw[dG]at h2 ⊢;omega
end
def Ak(P:List Cl)(q:Nat)(fuel every:Int)(R:Mv)(m:Mv):Prop:=∃(k:Nat)(s:Sv)(gl:List Gl),uy P q m s gl/\(q:Int)<=s.vars/\s.out.length<=11/\s.fuel+13<=k+s.out.length/\runM P q fuel every k m=R
def xD(m:Mv):Nat:=m.fuel+13 - m.out.length
section
variable {P : List Cl} {q : Nat} {fuel every : Int} {R m : Mv}
theorem atD{s s':Sv}(e:rJ q s=(true,s')):s'.fuel=s.fuel:=by
 unfold rJ at e;split at e;·simp at e
 ·simp only at e;split at e;·simp at e
  ·simp only[lD,dL]at e;subst e;rfl
theorem Ak.few(h:Ak P q fuel every R m):m.choices.length<900/\m.goals.length<=5900/\m.out.length+2<=20/\Zy q m/\(∀e:Ev,uB P m.choices {m with out:=m.out++[e]})/\∀v:Nat,v<q->aA (m.query+(v:Nat)):=by obtain⟨k,s,gl,S,dB,hout,hk,hr⟩:=h;obtain⟨h1,h2⟩:=aiu S;refine⟨by omega,by omega,by rw[S.nT.out];omega,atB S,fun e=>aal _ m _ rfl rfl (aty S),aiv S⟩
theorem Ak.answer(hP:dW P)(h:Ak P q fuel every R m)(hn:m.now<0):(∀m',ui P q m=(.next,m')->Ak P q fuel every R m'/\xD m'<xD m)/\(∀r m',ui P q m=(r,m')->r≠ .next->m'=R):=by
 obtain⟨k,s,gl,S,dB,hout,hk,hr⟩:=h;obtain⟨n,rfl⟩:∃n,k=n+1:=⟨k - 1,by omega⟩;cases gl with
  |cons g rest=>obtain⟨φ, -, -,kk,h, -⟩:=S.nT.cur;omega
  |nil=>
   have hA:=ag5 hP S dB hout;have hok2:=fun s'(e:rJ q s=(true,s'))=>aiq S.ok e;have hat:=fun s'(e:rJ q s=(true,s'))=>atD e;rw[runM,ai hn]at hr;have hmf:=S.nT.fuel;have hmo:=S.nT.out;refine⟨fun m' e=>?_,fun r m' e hne=>?_⟩;·rw[e]at hA hr;simp only at hr;cases ha:rJ q s with|mk b s'=>rw[ha]at hA hok2 hat;cases b with|false=>exact hA.elim|true=>simp only at hA;obtain⟨a1,a2,a3,a4⟩:=hok2 s' rfl;have a5:=hat s' rfl;have hbn:=fun s'' gl(e:iK P s'.choices s'=(.next gl,s''))=>Hl s'.choices s' s'' gl a1 e;generalize iK P s'.choices s'=rs at*;obtain⟨rb,s''⟩:=rs;cases rb with|next gl=>obtain⟨b1,b2,b3,b4,b5⟩:=hbn s'' gl rfl;have hA':Ff q m' s'' gl:=hA;have hf2:=hA'.fuel;have ho2:=hA'.out;refine⟨⟨n,s'',gl,⟨b1,b2,hA'⟩,by omega,by rw[b4];exact a3,by rw[b4];omega,hr⟩,?_⟩;unfold xD;rw[hf2,ho2,hmf,hmo,b4];omega|no=>exact hA.elim|off=>exact hA.elim
   ·rw[e]at hr;cases r with|next=>exact absurd rfl hne|no=>exact hr|off=>exact hr
noncomputable def xE(q:Nat)(fuel every:Int)(m:Mv):Mv:=if every>0/\(fuel - m.fuel)%every=0 then yz q m else m
theorem Ak.step(hP:dW P)(h:Ak P q fuel every R m)(hn:¬m.now<0):((xE q fuel every m).fuel≠0->YW P (xE q fuel every m))/\(xE q fuel every m).choices.length<900/\(xE q fuel every m).goals.length<=5900/\(xE q fuel every m).out.length+1<=20/\(∀m',kQ P (xE q fuel every m)=(.next,m')->Ak P q fuel every R m'/\xD m'<xD m)/\(∀r m',kQ P (xE q fuel every m)=(r,m')->r≠ .next->m'=R):=by
 obtain⟨k,s,gl,S,dB,hout,hk,hr⟩:=h;obtain⟨n,rfl⟩:∃n,k=n+1:=⟨k - 1,by omega⟩;cases gl with
  |nil=>obtain⟨φ, -, -,h⟩:=S.nT.cur;have :m.now= -1:=h;omega
  |cons g rest=>
   have S2:uy P q (xE q fuel every m) s (g::rest):=by
    unfold xE;split;·exact aha S
    ·exact S
   rw[runM,ag hn]at hr;have hmf:=S.nT.fuel;have hmo:=S.nT.out;have hA:=ag3 hP S2 dB;have hsn:=fun s' gl(e:uY P g rest s=(.next gl,s'))=>Wv S.ok S.oL e;obtain⟨f1,f2⟩:=aiu S2;refine⟨fun hf=>atA hP S2 dB hout hf,by omega,by omega,by rw[S2.nT.out];omega,fun m' e=>?_,fun r m' e hne=>?_⟩;·have e':=e;unfold xE at e';rw[e']at hr;rw[e]at hA;simp only at hr;generalize uY P g rest s=rs at*;obtain⟨rb,s'⟩:=rs;cases rb with|next gl=>obtain⟨b1,b2,b3,b4,b5⟩:=hsn s' gl rfl;have hA':Ff q m' s' gl:=hA;have hf2:=hA'.fuel;have ho2:=hA'.out;refine⟨⟨n,s',gl,⟨b1,b2,hA'⟩,by omega,by rw[b4];exact hout,by rw[b4];omega,hr⟩,?_⟩;unfold xD;rw[hf2,ho2,hmf,hmo,b4];omega|no=>exact hA.elim|off=>exact hA.elim
   ·unfold xE at e;rw[e]at hr;cases r with|next=>exact absurd rfl hne|no=>exact hr|off=>exact hr
end
open Go.RowKit
def Tn(w:World)(r:List Ev×Int)(e:Ending)(w':World):Prop:=∃ev,e= .returned (.tuple #[ev,.int .i64 r.2])/\Below w.heap.size w w'/\au 2 yC (fun _=>True) w' r.1 ev
theorem aao(P:List Cl)(Q:List Tm)(vars fuel every:Int):(¬(dW P/\fP Q vars)/\oW P Q vars fuel every=([],1))\/((dW P/\fP Q vars)/\(fuel<0\/fuel>150\/every<0)/\oW P Q vars fuel every=([],2))\/((dW P/\fP Q vars)/\0<=fuel/\fuel<=150/\0<=every/\oW P Q vars fuel every=((runM P vars.toNat fuel every (fuel.toNat+14) (yA Q vars fuel.toNat)).out,0)):=by
 unfold oW;by_cases h:dW P/\fP Q vars
 ·rw[ag (dJ h)];by_cases h2:fuel<0\/fuel>150\/every<0;·rw[ai h2];exact .inr (.inl ⟨h,h2,rfl⟩)
  ·rw[ag h2];exact .inr (.inr ⟨h,by omega,by omega,by omega,rfl⟩)
 ·rw[ai h];exact .inl ⟨h,rfl⟩
section
variable {P : List Cl} {Q : List Tm} {vars fuel every : Int}
theorem aiy(h0:¬(dW P/\fP Q vars)\/(fuel<0\/fuel>150\/every<0))(lM:qF P<=1099511627776)(hnq:Tm.bq Q<=1099511627776)(hv:aA vars)(hf:aA fuel)(w:World)(pv qv:Value)(hpv:lW (fun b=>b<w.heap.size) w P pv)(dB:eP (fun b=>b<w.heap.size) w Q qv):Calls Tryz.prog 8 #[pv,qv,.int .i64 vars,.int .i64 fuel,.int .i64 every] w (Tn w (oW P Q vars fuel every)):=by
 have FM:=zh (ac7 P lM _ w pv hpv);have yj:=zh (fun(w':World)(hb:Below w.heap.size w w')=>VI Q vars hnq hv _ w' qv (au.keeps Tm.aj dB (af.ob hb)));have HV:=zh hv;have HS:=zh (aao P Q vars fuel every);have H0:=zh h0;obtain⟨pa,pc, -, -,rfl, -⟩:=au.at hpv;obtain⟨qa,qc, -, -,rfl, -⟩:=au.at dB;clear hpv dB h0 hv;go_enter Tryz.func8,Tryz.ntmps8;go_wp2_with fail;refine(FM.o).mono ?_;rintro e w1⟨v,rfl,hb1,b1,rfl,zo⟩;have HB1:=zh hb1;have jX:=zh zo;clear hb1 zo;cases b1 with
  |false=>
   have HR:=zh (show oW P Q vars fuel every=([],1)by
    rcases HS.o with⟨_,h⟩|⟨h,_⟩|⟨h,_⟩;·exact h
    ·have :=jX.o.2 h.1;cases this
    ·have :=jX.o.2 h.1;cases this);go_wp2_with fail;go_ret2;rw[HR.o];exact⟨_,rfl,HB1.o,au.nil ..⟩
  |true=>
   go_wp2_with fail;refine(yj.o w1 HB1.o).mono ?_;rintro e w2⟨v,rfl,hb2,b2,rfl,xe⟩;have HB2:=zh (HB1.o.trans (hb2.mono HB1.o.size));have HG2:=zh xe;clear hb2 xe;cases b2 with
    |false=>
     have HR:=zh (show oW P Q vars fuel every=([],1)by
      rcases HS.o with⟨_,h⟩|⟨h,_⟩|⟨h,_⟩;·exact h
      ·have :=HG2.o.2 h.2;cases this
      ·have :=HG2.o.2 h.2;cases this);go_wp2_with fail;go_ret2;rw[HR.o];exact⟨_,rfl,HB2.o,au.nil ..⟩
    |true=>
     have hfb:fuel<0\/fuel>150\/every<0:=by
      rcases H0.o with h|h;·exact absurd ⟨jX.o.1 (by simp),HG2.o.1 (by simp)⟩ h
      ·exact h
     have HR:=zh (show oW P Q vars fuel every=([],2)by
      rcases HS.o with⟨h,_⟩|⟨_,_,h⟩|⟨_,h1,h2,h3,_⟩;·exact absurd ⟨jX.o.1 (by simp),HG2.o.1 (by simp)⟩ h
      ·exact h
      ·omega);by_cases h1:fuel<0
     ·have hd:decide (fuel<0)=true:=by simpa using h1
      go_wp2_with fail;go_ret2;rw[HR.o];exact⟨_,rfl,HB2.o,au.nil ..⟩
     ·have hd:decide (fuel<0)=false:=by simpa using h1
      by_cases h2:(150:Int)<fuel
      ·have hd3:decide (150<fuel)=true:=by simpa using h2
       go_wp2_with fail;go_ret2;rw[HR.o];exact⟨_,rfl,HB2.o,au.nil ..⟩
      ·have hd3:decide (150<fuel)=false:=by simpa using h2
       have h3:every<0:=by omega
       have hd4:decide (every<0)=true:=by simpa using h3
       go_wp2_with fail;go_ret2;rw[HR.o];exact⟨_,rfl,HB2.o,au.nil ..⟩
theorem atE{Q:List Tm}{n:Nat}(hQ:fP Q (n:Int)):(gM ⟨[],[]⟩ (bS Q (n:Int)).cells).2.1=0/\(bS Q (n:Int)).goals.length<=5/\∀a∈(bS Q (n:Int)).goals,0<=a/\a<=1000000:=by
 obtain⟨F,hF⟩:∃F,F=(aV (aP n) Q).1:=⟨_,rfl⟩;obtain⟨b1,b2,b3,b4,b5,b6⟩:=air hQ F hF;have hcells:(bS Q (n:Int)).cells=F:=by rw[hF];simp[bS]
 have Fh:(bS Q (n:Int)).goals=(aV (aP n) Q).2:=by simp[bS]
 have Tj:Hp.Good ⟨[],[]⟩:=⟨fun i hi=>by simp at hi,fun j hj=>by simp at hj,by simp,by simp⟩;have hld:=Rp (h:=⟨[],[]⟩) (F:=F) Tj b3 (by simp only[kg];omega);have vH:=yg Q (aP n);have h5:Q.length<=5:=hQ.2.2.1;rw[hcells,Fh,hld];refine⟨by simp,by omega,fun a ha=>?_⟩;obtain⟨j,hj,rfl⟩:=ng.1 ha;obtain⟨a,e1,e2,e3⟩:=b6 j (by omega);rw[aT hj]at e1;simp only[dm]at e1;rw[e1];have :=(gT.1 e3).1;omega
def FN(g:Nat)(w:World):Nat:=match w.cell? ⟨g,8,none⟩,w.cell? ⟨g,9,none⟩with|some (.int _ k),some (.slice _ n _)=>k.toNat+13 - n|_,_=>0
def vV(on:Value)(g:Nat)(w:World):Nat:=match on with| .bool true=>FN g w+1|_=>0
theorem Nh{base:Nat}{q g:Nat}{pv hc ht:Value}{o:Mo}{m:Mv}{w:World}(h:bZ base P q g pv hc ht o m w):FN g w=xD m:=by obtain⟨_,_,_,_,_,_,oa,oc,_,_,_,_,_,_,_,e,_⟩:=h.vals;obtain⟨-, -, -, -, -, -, -, -,b8,b9, -⟩:=bV h.box;unfold FN xD;rw[b8,b9,e];simp
theorem Jb{base:Nat}{q g:Nat}{pv hc ht:Value}{o:Mo}{m:Mv}{w wr w':World}(h:bZ base P q g pv hc ht o m wr)(hb:Below w.heap.size w wr)(hch:Ch (MM g o) wr w')(hg:w.heap.size<=g)(hbs:w.heap.size<=base):Below w.heap.size w w':=by have h1:Ch (MM g o) w w':=(Ch.of_below hb).trans hch (fun x h=> .inl h);refine h1.below fun k hk e=>?_;have :=(h.uj k e).1;omega
theorem atF:nZ Tryz.prog 55 71 6 88:= .mk' (z:= .agg #[.string .empty,.int .i64 0,.slice none 0 0,.int .i64 0,.int .i64 0,.slice none 0 0]) Tryz.underlying55 (by kernel_rfl) rfl (by omega) (by omega)
theorem atG (wR:dW P) (nJ:fP Q vars) (hf0:0<=fuel) (hf1:fuel<=150) (he0:0<=every) (hei:aA every) (lM:qF P<=1099511627776) (hnq:Tm.bq Q<=1099511627776) (w:World) (pv qv:Value) (hpv:lW (fun b=>b<w.heap.size) w P pv) (dB:eP (fun b=>b<w.heap.size) w Q qv):Calls Tryz.prog 8 #[pv,qv,.int .i64 vars,.int .i64 fuel,.int .i64 every] w (Tn w (oW P Q vars fuel every)):=by
 have hv0:=nJ.1;have Fe:=nJ.2.1;have FM:=zh (ac7 P lM _ w pv hpv);have yj:=zh (fun (w':World) (hb:Below w.heap.size w w')=>VI Q vars hnq (by unfold aA;omega) _ w' qv (au.keeps Tm.aj dB (af.ob hb)));have HQY:=zh (fun (w':World) (hb:Below w.heap.size w w')=>anG Q vars (by unfold aA;omega) hnq w' qv (au.mono Tm.aj (by omega) (au.keeps Tm.aj dB (af.ob hb)) (fun b hb' _=>hb')));obtain ⟨vn,rfl⟩:=dQ hv0;obtain ⟨fn,rfl⟩:=dQ hf0;have HS:=zh (show oW P Q (vn:Int) (fn:Int) every=((runM P vn (fn:Int) every (fn+14) (yA Q (vn:Int) fn)).out,0) by
  rcases aao P Q (vn:Int) (fn:Int) every with ⟨h,_⟩|⟨_,h,_⟩|⟨_,_,_,_,h⟩;·exact absurd ⟨wR,nJ⟩ h
  ·omega
  ·exact h);have Q5:=zh (ais (f:=fn) wR nJ (by omega));have zq:=zh wR;have DC:=zh nJ;have az1:=wR.1;obtain ⟨pa,pc,pb,K7,rfl,QO,CW,QP,hpa,hpe⟩:=au.at hpv;obtain ⟨qa,qc,qb,atI,rfl,atJ,aaq,atK, -⟩:=au.at dB;have K8:=zh hpa;have K9:=zh hpe;unfold maxLen at CW aaq;clear hpv dB wR nJ hpa hpe;go_enter Tryz.func8,Tryz.ntmps8;go_wp2_with fail;refine (FM.o).mono ?_;rintro e w1 ⟨v,rfl,hb1,b1,rfl,zo⟩;obtain rfl:b1=true:=zo.2 zq.o;have HB1:=zh hb1;clear hb1 zo;go_wp2_with fail;refine (yj.o w1 HB1.o).mono ?_;rintro e w2 ⟨v,rfl,hb2,b2,rfl,xe⟩;obtain rfl:b2=true:=xe.2 DC.o;have HB2:=zh (HB1.o.trans (hb2.mono HB1.o.size));clear hb2 xe;have hd:decide ((fn:Int)<0)=false:=by simp
 have hd3:decide (150<(fn:Int))=false:=by simp;omega
 have hd4:decide (every<0)=false:=by simp;omega
 have hz2:=HB2.o.size;go_wp2_with fail;obtain ⟨W5,j5⟩:∃W5,W5=w2.alloc (.cells #[.slice none 0 0,.slice none 0 0,.slice none 0 0,.slice none 0 0,.slice none 0 0,.int .i64 0,.int .i64 (vn:Int),.int .i64 0,.int .i64 (fn:Int),.slice none 0 0] 63):=⟨_,rfl⟩;have dF:=zh (show Below w.heap.size w W5 by rw[j5];exact HB2.o.alloc hz2 _);have uz:=zh (show W5.heap[w2.heap.size]?=some (.cells #[.slice none 0 0,.slice none 0 0,.slice none 0 0,.slice none 0 0,.slice none 0 0,.int .i64 0,.int .i64 (vn:Int),.int .i64 0,.int .i64 (fn:Int),.slice none 0 0] 63 (0,0)) by rw[j5];exact bJ _ _);have hs5:W5.heap.size=w2.heap.size+1:=by rw[j5];simp
 obtain ⟨g,hg⟩:∃g,g=w2.heap.size:=⟨_,rfl⟩;rw[<-j5,<-hg];rw[<-hg] at uz;have hgw:w.heap.size<=g:=by omega
 have hg5:g<W5.heap.size:=by omega
 clear j5;have az2:(0:Int)<=(P.length:Int):=zN _;rw[<-hg] at hs5;clear hg hd hd3 hd4;go_wp2_with fail;go_loopw[45] (fun i wr=>∃(j:Nat) (pv':Value),j<=P.length/\i= .int .i64 (j:Int)/\Below w.heap.size w wr/\W5.heap.size<=wr.heap.size/\wr.heap[g]?=some (.cells #[pv',.slice none 0 0,.slice none 0 0,.slice none 0 0,.slice none 0 0,.int .i64 0,.int .i64 (vn:Int),.int .i64 0,.int .i64 (fn:Int),.slice none 0 0] 63 (0,0))/\aG wr W5.heap.size 71 6 QJ (fun b=>W5.heap.size<=b) (P.take j) pv') (fun i _=>P.length - (intOf i).toNat);case atStart=>exact ⟨0,.slice none 0 0,dn _,rfl,dF.o,zL _,uz.o,aG.nil ..⟩
 case round=>
  obtain ⟨j,pv',hj,rfl,hbw,oO,hbx,hown⟩:=hrel;have HB:=zh hbw;have HX:=zh hbx;have HO:=zh hown;have hj0:(0:Int)<=(j:Int):=zN _;have hzw:=hbw.size;obtain ⟨va,vc,hvv,hvl,wI⟩:=aG.pO hown;rw[eY,Gd hj] at hvv hvl;subst hvv;unfold maxLen at wI;clear hbw hbx hown;by_cases hlt:j<P.length
  ·have hlt':(j:Int)<(P.length:Int):=by omega
   obtain ⟨atL,zS⟩:=K8.o (by omega);have fT:=zh (show P.take (j+1)=P.take j++[P[j]] from dX hlt);have Al:=zh (zq.o.2 _ (bO hlt));have BK:=zh (show (P[j]).nodes<=1099511627776 by have :=VJ (bO hlt);omega);subst atL;obtain ⟨a,ac,bd,bc,c0,c1,c2,c3,c4,c5,hcr⟩:=GK K9.o zS (af.ob HB.o:af (fun b=>b<w.heap.size) w wr) hlt;generalize P[j]=c at*;have atM:=fK wr _ c0;simp only at atM;obtain ⟨W6,sQ⟩:∃W6,W6=wr.alloc (.cells #[.int .i64 c.head.kind,.int .i64 c.head.n,.string c.head.s,.slice a c.head.args.length ac,.slice bd c.body.length bc,.int .i64 c.vars] 65):=⟨_,rfl⟩;obtain ⟨x1,hx1⟩:∃x,x=wr.heap.size:=⟨_,rfl⟩;have Bw:Below wr.heap.size wr W6:=by rw[sQ];exact (zB _ _).alloc (zL _) _
   have oP:=zh (aL HX.o Bw);have HY6:=zh (show W6.heap[x1]?=some (.cells #[.int .i64 c.head.kind,.int .i64 c.head.n,.string c.head.s,.slice a c.head.args.length ac,.slice bd c.body.length bc,.int .i64 c.vars] 65 (0,0)) by rw[sQ,hx1];exact bJ _ _);have gy:=zh (HB.o.trans (Bw.mono hzw));have M3:=zh (HO.o.below sD Bw);have hz6:=Bw.size;have sF:=zh (anK c BK.o W6 _ (Cl.aj.2.1 _ _ _ _ _ (Cl.aj.1 _ _ W6 _ _ hcr (af.ob (Bw.mono (by omega)))) (fun b hb _=>hb)));rw[show EA c=(aN c,0) by rw[EA,ai Al.o]] at sF;have HW6:=zh sQ;have Ni:=zh hx1;clear sQ hx1 Bw hcr;go_wp2_with fail;rw[<-Ni.o,<-HW6.o];refine (sF.o).mono ?_;rintro e w7 ⟨r,rfl,uh,cv,gv,rfl,hcv,hgv⟩;simp only at hcv hgv;obtain ⟨lN,lQ, -, -,rfl, -⟩:=au.at hcv;obtain ⟨lS,lT,rfl, -⟩:=MZ hgv;have uA:=zh (aL oP.o uh);have HY7:=zh (aL HY6.o uh);have nL:=zh (gy.o.trans (uh.mono (by omega)));have HO7:=zh (M3.o.below sD uh);have Ha:=uh.size;have HC7:=zh hcv;have HG7:=zh hgv;clear uh hcv hgv c0 c1 c2 c3 c4 c5;go_wp2_with fail;obtain ⟨x2,hx2⟩:∃x,x=w7.heap.size:=⟨_,rfl⟩;have pQ:=zh (show Below w7.heap.size w7 (w7.alloc (.cells #[.slice lN (aN c).cells.length lQ,.int .i64 (aN c).vars,.int .i64 (aN c).head,.slice lS (aN c).goals.length lT] 67)) from (zB _ _).alloc (zL _) _);have Tp:=zh (bJ w7 (.cells #[.slice lN (aN c).cells.length lQ,.int .i64 (aN c).vars,.int .i64 (aN c).head,.slice lS (aN c).goals.length lT] 67));rw[<-hx2] at Tp;have nQ:=zh (aL uA.o pQ.o);have HY8:=zh (aL HY7.o pQ.o);have pW:=zh (nL.o.trans (pQ.o.mono (by omega)));have Zg:=zh (HO7.o.below sD pQ.o);have HC8:=zh (au.keeps Ce.aj HC7.o (af.ob pQ.o));have HG8:=zh (au.keeps aW HG7.o (af.ob pQ.o));have hz8:=pQ.o.size;rw[<-hx2];generalize w7.alloc (.cells #[.slice lN (aN c).cells.length lQ,.int .i64 (aN c).vars,.int .i64 (aN c).head,.slice lS (aN c).goals.length lT] 67)=W8 at*;have az3:x1≠g:=by have :=Ni.o;omega
   have az4:x2≠g:=by omega
   have az5:wr.heap.size<=x2:=by omega
   have az6:x1<W8.heap.size:=aJ HY8.o;have adR:x2<W8.heap.size:=aJ Tp.o;have az7:wr.heap.size<=x1:=by rw[Ni.o];exact zL _
   clear hx2;have HOWN:=zh (show ∀b,ownB (.slice va j vc)=some b->W5.heap.size<=b/\b<wr.heap.size from HO.o.lt);have atV:ownB (.slice va j vc)≠some x1:=fun e=>by have :=(HOWN.o _ e).2;omega
   have atW:ownB (.slice va j vc)≠some x2:=fun e=>by have :=(HOWN.o _ e).2;omega
   have atX:ownB (.slice va j vc)≠some g:=fun e=>by have :=(HOWN.o _ e).1;omega
   have zt:W8.drew.heap[g]?=some (.cells #[.slice va j vc,.slice none 0 0,.slice none 0 0,.slice none 0 0,.slice none 0 0,.int .i64 0,.int .i64 (vn:Int),.int .i64 0,.int .i64 (fn:Int),.slice none 0 0] 63 (0,0)):=nQ.o;have hYd:W8.drew.heap[x1]?=some (.cells #[.int .i64 c.head.kind,.int .i64 c.head.n,.string c.head.s,.slice a c.head.args.length ac,.slice bd c.body.length bc,.int .i64 c.vars] 65 (0,0)):=HY8.o;have xG:W8.drew.heap[x2]?=some (.cells #[.slice lN (aN c).cells.length lQ,.int .i64 (aN c).vars,.int .i64 (aN c).head,.slice lS (aN c).goals.length lT] 67 (0,0)):=Tp.o;have Jc:=zh (show Below W8.heap.size W8 W8.drew from (zB _ _).drew);have HF:∀{k:Nat},(k=4->W8.drew.heap[g]?=some (.cells #[.slice va j vc,.slice none 0 0,.slice none 0 0,.slice none 0 0,.slice none 0 0,.int .i64 0,.int .i64 (vn:Int),.int .i64 0,.int .i64 (fn:Int),.slice none 0 0] 63 (0,0)))/\(k=7\/k=10->W8.drew.heap[x1]?=some (.cells #[.int .i64 c.head.kind,.int .i64 c.head.n,.string c.head.s,.slice a c.head.args.length ac,.slice bd c.body.length bc,.int .i64 c.vars] 65 (0,0)))/\(k=12->W8.drew.heap[x2]?=some (.cells #[.slice lN (aN c).cells.length lQ,.int .i64 (aN c).vars,.int .i64 (aN c).head,.slice lS (aN c).goals.length lT] 67 (0,0))):=fun {k}=>⟨fun _=>zt,fun _=>hYd,fun _=>xG⟩;refine iG (F:=fun k w'=>(k=4->w'.heap[g]?=some (.cells #[.slice va j vc,.slice none 0 0,.slice none 0 0,.slice none 0 0,.slice none 0 0,.int .i64 0,.int .i64 (vn:Int),.int .i64 0,.int .i64 (fn:Int),.slice none 0 0] 63 (0,0)))/\(k=7\/k=10->w'.heap[x1]?=some (.cells #[.int .i64 c.head.kind,.int .i64 c.head.n,.string c.head.s,.slice a c.head.args.length ac,.slice bd c.body.length bc,.int .i64 c.vars] 65 (0,0)))/\(k=12->w'.heap[x2]?=some (.cells #[.slice lN (aN c).cells.length lQ,.int .i64 (aN c).vars,.int .i64 (aN c).head,.slice lS (aN c).goals.length lT] 67 (0,0)))) (by kernel_rfl) ?_;refine zT 0 HF ?_;try simp only[zP]
   refine zT 1 HF ?_;try simp only[zP]
   refine zT 2 HF ?_;try simp only[zP]
   refine zT 3 HF ?_;try simp only[zP]
   refine aD (i:=4) (v:=?_) rfl (Or.inl ⟨by rfl,?_⟩) HF ?_;rotate_left;·(intro w' hw;obtain ⟨q0,q1,q2,q3,q4,q5,q6,q7,q8,q9,qf⟩:=bV (hw.1 rfl);clear hw;go_simp<;>with_reducible rfl)
   try simp only[zP]
   refine zT 5 HF ?_;try simp only[zP]
   refine zT 6 HF ?_;try simp only[zP]
   refine aD (i:=7) (v:=?_) rfl (Or.inl ⟨by rfl,?_⟩) HF ?_;rotate_left;·(intro w' hw;have q:=bW (hw.2.1 (.inl rfl)) 2;simp at q;clear hw;go_simp<;>with_reducible rfl)
   try simp only[zP]
   refine zT 8 HF ?_;try simp only[zP]
   refine zT 9 HF ?_;try simp only[zP]
   refine aD (i:=10) (v:=?_) rfl (Or.inl ⟨by rfl,?_⟩) HF ?_;rotate_left;·(intro w' hw;have q:=bW (hw.2.1 (.inr rfl)) 3;simp at q;clear hw;go_simp<;>with_reducible rfl)
   try simp only[zP]
   refine zT 11 HF ?_;try simp only[zP]
   refine aD (i:=12) (v:= .agg #[.slice lN (aN c).cells.length lQ,.int .i64 (aN c).vars,.int .i64 (aN c).head,.slice lS (aN c).goals.length lT]) rfl (Or.inl ⟨by rfl,?_⟩) HF ?_;·(intro w' hw;obtain ⟨q0,q1,q2,q3,qf⟩:=aU (hw.2.2 rfl);clear hw;go_simp)
   try simp only[zP]
   refine aD (i:=13) (v:= .agg #[.string c.head.s,.int .i64 (c.head.args.length:Int),.slice lN (aN c).cells.length lQ,.int .i64 (aN c).vars,.int .i64 (aN c).head,.slice lS (aN c).goals.length lT]) rfl (Or.inl ⟨by rfl,?_⟩) HF ?_;·(intro w' hw;clear hw;go_simp)
   try simp only[zP]
   refine aM (i:=14) (by kernel_rfl) (aF rfl (by rfl) ?_);go_simp;have HA1:=zh (show Below W8.drew.heap.size W8.drew (W8.drew.alloc (.cells #[.string c.head.s,.int .i64 (c.head.args.length:Int),.slice lN (aN c).cells.length lQ,.int .i64 (aN c).vars,.int .i64 (aN c).head,.slice lS (aN c).goals.length lT] 71)) from (zB _ _).alloc (zL _) _);refine ⟨fun _ _ h=>⟨fun e=>aL zt HA1.o,fun e=>aL hYd HA1.o,fun e=>aL xG HA1.o⟩,?_⟩;try simp only[zP]
   refine aM (i:=15) (by kernel_rfl) (aF rfl (by rfl) ?_);refine oh (.tmp 58) (.tmp 68) 55 rfl W5.heap.size 71 6 88 atF sD (A:=fun b=>W5.heap.size<=b) (.slice va j vc) (P.take j) rfl (Zg.o.below sD Jc.o) c [.string c.head.s,.int .i64 (c.head.args.length:Int),.slice lN (aN c).cells.length lQ,.int .i64 (aN c).vars,.int .i64 (aN c).head,.slice lS (aN c).goals.length lT] rfl rfl ⟨_,_,rfl,au.mono Ce.aj (by omega) (au.keeps Ce.aj HC8.o (af.ob Jc.o)) (fun b _ hb=>⟨by unfold New at hb;omega,fun e=>by have :=(HOWN.o _ e).2;unfold New at hb;omega⟩),au.mono aW (by omega) (au.keeps aW HG8.o (af.ob Jc.o)) (fun b _ hb=>⟨by unfold New at hb;omega,fun e=>by have :=(HOWN.o _ e).2;unfold New at hb;omega⟩)⟩ ⟨by rw[eY];omega,by show W5.heap.size<=W8.heap.size;omega⟩ ?_;intro v2 w9 hown2 aB;obtain ⟨aY,aZ,hv2,nI,rY⟩:=aG.pO hown2;rw[show (P.take j++[c]).length=j+1 by rw[bT,eY,jr];omega] at hv2;subst hv2;have Fv:=zh ((aB.grown.block g (by simp only[bQ,eZ];omega) (fun e=>atX e.symm)).trans (aL zt HA1.o));have HY9:=zh ((aB.grown.block x1 (by simp only[bQ,eZ];omega) (fun e=>atV e.symm)).trans (aL hYd HA1.o));have HZ9:=zh ((aB.grown.block x2 (by simp only[bQ,eZ];omega) (fun e=>atW e.symm)).trans (aL xG HA1.o));have iP:=zh (aB.below ((pW.o.drew).alloc (by simp only[eZ];omega) _) (by simp only[bQ,eZ];omega) (fun k hk=>by have :=(HOWN.o k hk).1;omega));have RA:=aB.size;simp only[bQ,eZ] at RA;have HO9:=zh hown2;refine ⟨fun _ _ _=>⟨fun e=>Fv.o,fun e=>HY9.o,fun e=>HZ9.o⟩,?_⟩;try simp only[zP]
   clear HF zt hYd xG HA1 nQ HY8 Tp hown2 aB;obtain ⟨b0,b1,b2,b3,b4,b5,b6,b7,b8,b9,bf⟩:=bV Fv.o;have hg9:=aJ Fv.o;refine aD (i:=16) (v:=?_) rfl (Or.inl ⟨by rfl,?_⟩) ⟨fun h=>by omega,fun h=>by omega,fun h=>by omega⟩ ?_;rotate_left;·(intro w' hw;clear hw;go_simp<;>with_reducible rfl)
   try simp only[zP]
   refine aD (i:=17) (v:=?_) rfl (Or.inl ⟨by rfl,?_⟩) ⟨fun h=>by omega,fun h=>by omega,fun h=>by omega⟩ ?_;rotate_left;·(intro w' hw;clear hw;go_simp<;>with_reducible rfl)
   try simp only[zP]
   refine aM (i:=18) (by kernel_rfl) (aF rfl (by rfl) ?_);go_simp;refine ⟨fun k' hk' _=>⟨fun h=>?_,fun h=>?_,fun h=>?_⟩,fO (by kernel_rfl) ?_ _⟩;·subst h;exact absurd (hk'.symm.trans (by kernel_rfl):false=true) lC
   ·rcases h with h|h<;>subst h<;>exact absurd (hk'.symm.trans (by kernel_rfl):false=true) lC
   ·subst h;exact absurd (hk'.symm.trans (by kernel_rfl):false=true) lC
   try simp only[zP]
   have Yb:=zh (show (w9.setCell ⟨g,0,none⟩ (.slice aY (j+1) aZ)).heap[g]?=some (.cells #[.slice aY (j+1) aZ,.slice none 0 0,.slice none 0 0,.slice none 0 0,.slice none 0 0,.int .i64 0,.int .i64 (vn:Int),.int .i64 0,.int .i64 (fn:Int),.slice none 0 0] 63 (0,0)) from (bG Fv.o 0 _).trans rfl);have at0:=zh (HO9.o.keeps (B:=fun b=>b≠g) sD (af.setCell _ w9 ⟨g,0,none⟩ (.slice aY (j+1) aZ) (fun h=>h rfl)) (fun b hb=>by omega) (fun b hb=>by have :=(HO9.o.lt b hb).1;omega));have yR:=zh (iP.o.setCell (p:=⟨g,0,none⟩) hgw (.slice aY (j+1) aZ));have LQ:W5.heap.size<=(w9.setCell ⟨g,0,none⟩ (.slice aY (j+1) aZ)).heap.size:=by simp only[qm];omega
   clear b0 b1 b2 b3 b4 b5 b6 b7 b8 b9 bf;generalize w9.setCell ⟨g,0,none⟩ (.slice aY (j+1) aZ)=Ya at*;go_wp2_with fail;go_roundw;case rel=>exact ⟨j+1,_,by omega,by go_num,yR.o,LQ,Yb.o,by rw[fT.o];exact at0.o⟩
   case measure=>simp[intOf];omega
  ·have eH:(P.length:Int)<=(j:Int):=by omega
   have hjj:j=P.length:=by omega
   have bI:=HO.o;rw[iZ (by omega)] at bI;have HOP:=zh bI;have HXP:=zh HX.o;rw[hjj] at HXP HOP;clear bI hjj HX HO;have HQC:=zh (HQY.o wr HB.o);rw[show Ez Q (vn:Int)=(bS Q (vn:Int),0) by rw[Ez,ai DC.o]] at HQC;obtain ⟨f1,f2,f3⟩:=atE DC.o;have vS:=zh f1;have mX:=zh f2;have BO:=zh f3;clear f1 f2 f3;go_wp2_with fail;refine HQC.o.mono ?_;rintro e IA ⟨r,rfl,vJ,cv,gv,rfl,hcv,hgv⟩;simp only at hcv hgv;obtain ⟨lN,lQ, -, -,rfl, -⟩:=au.at hcv;obtain ⟨lS,lT,rfl, -⟩:=MZ hgv;obtain ⟨xH,Tq⟩:∃W,W=IA.alloc (.cells #[.slice lN (bS Q (vn:Int)).cells.length lQ,.int .i64 (bS Q (vn:Int)).vars,.int .i64 (bS Q (vn:Int)).head,.slice lS (bS Q (vn:Int)).goals.length lT] 67):=⟨_,rfl⟩;have hal:Below IA.heap.size IA xH:=by rw[Tq];exact (zB _ _).alloc (zL _) _
   obtain ⟨x3,hx3⟩:∃x,x=IA.heap.size:=⟨_,rfl⟩;have Nj:=vJ.trans (hal.mono vJ.size);have aiG:=zh (show xH.heap[x3]?=some (.cells #[.slice lN (bS Q (vn:Int)).cells.length lQ,.int .i64 (bS Q (vn:Int)).vars,.int .i64 (bS Q (vn:Int)).head,.slice lS (bS Q (vn:Int)).goals.length lT] 67 (0,0)) by rw[Tq,hx3];exact bJ _ _);have kS:=zh (aL HXP.o Nj);have Yi:=zh (HOP.o.below sD Nj);have mK:=zh (HB.o.trans (Nj.mono hzw));have at1:=zh (au.keeps Ce.aj (au.mono (A':=fun b=>W5.heap.size<=b) Ce.aj (by omega) hcv (fun b _ hb=>by unfold New at hb;omega)) (af.ob hal));have Yj:=zh (au.keeps aW (au.mono (A':=fun b=>W5.heap.size<=b) aW (by omega) hgv (fun b _ hb=>by unfold New at hb;omega)) (af.ob hal));have az9:W5.heap.size<=xH.heap.size:=by have :=Nj.size;omega
   have at5:x3≠g:=by have :=vJ.size;omega
   have aAa:W5.heap.size<=x3:=by have :=vJ.size;omega
   have at6:=zh Tq;have at7:=zh hx3;clear hcv hgv vJ hal Nj Tq hx3;go_wp2_with fail;rw[<-at7.o,<-at6.o];have aAb:x3<xH.heap.size:=aJ aiG.o;have zt:xH.drew.heap[g]?=some (.cells #[.slice va P.length vc,.slice none 0 0,.slice none 0 0,.slice none 0 0,.slice none 0 0,.int .i64 0,.int .i64 (vn:Int),.int .i64 0,.int .i64 (fn:Int),.slice none 0 0] 63 (0,0)):=kS.o;have xG:xH.drew.heap[x3]?=some (.cells #[.slice lN (bS Q (vn:Int)).cells.length lQ,.int .i64 (bS Q (vn:Int)).vars,.int .i64 (bS Q (vn:Int)).head,.slice lS (bS Q (vn:Int)).goals.length lT] 67 (0,0)):=aiG.o;have Jc:=zh (show Below xH.heap.size xH xH.drew from (zB _ _).drew);have HF:∀{k:Nat},(k=5->xH.drew.heap[g]?=some (.cells #[.slice va P.length vc,.slice none 0 0,.slice none 0 0,.slice none 0 0,.slice none 0 0,.int .i64 0,.int .i64 (vn:Int),.int .i64 0,.int .i64 (fn:Int),.slice none 0 0] 63 (0,0)))/\(k=7->xH.drew.heap[x3]?=some (.cells #[.slice lN (bS Q (vn:Int)).cells.length lQ,.int .i64 (bS Q (vn:Int)).vars,.int .i64 (bS Q (vn:Int)).head,.slice lS (bS Q (vn:Int)).goals.length lT] 67 (0,0))):=fun {k}=>⟨fun _=>zt,fun _=>xG⟩;refine iG (F:=fun k w'=>(k=5->w'.heap[g]?=some (.cells #[.slice va P.length vc,.slice none 0 0,.slice none 0 0,.slice none 0 0,.slice none 0 0,.int .i64 0,.int .i64 (vn:Int),.int .i64 0,.int .i64 (fn:Int),.slice none 0 0] 63 (0,0)))/\(k=7->w'.heap[x3]?=some (.cells #[.slice lN (bS Q (vn:Int)).cells.length lQ,.int .i64 (bS Q (vn:Int)).vars,.int .i64 (bS Q (vn:Int)).head,.slice lS (bS Q (vn:Int)).goals.length lT] 67 (0,0)))) (by kernel_rfl) ?_;refine zT 0 HF ?_;try simp only[zP]
   refine zT 1 HF ?_;try simp only[zP]
   refine zT 2 HF ?_;try simp only[zP]
   refine zT 3 HF ?_;try simp only[zP]
   refine zT 4 HF ?_;try simp only[zP]
   refine aD (i:=5) (v:= .agg #[.slice none 0 0,.slice none 0 0]) rfl (Or.inl ⟨by rfl,?_⟩) HF ?_;·(intro w' hw;obtain ⟨q0,q1,q2,q3,q4,q5,q6,q7,q8,q9,qf⟩:=bV (hw.1 rfl);clear hw;go_simp)
   try simp only[zP]
   refine zT 6 HF ?_;try simp only[zP]
   refine aD (i:=7) (v:=?_) rfl (Or.inl ⟨by rfl,?_⟩) HF ?_;rotate_left;·(intro w' hw;obtain ⟨q0,q1,q2,q3,qf⟩:=aU (hw.2 rfl);clear hw;go_simp<;>with_reducible rfl)
   try simp only[zP]
   refine aM (i:=8) (by kernel_rfl) (aF rfl (by rfl) ?_);go_simp;refine (VT ⟨[],[]⟩ (bS Q (vn:Int)).cells (fun b=>W5.heap.size<=b) xH.drew [.slice none 0 0,.slice none 0 0] _ ⟨_,_,rfl,au.nil ..,au.nil ..⟩ (au.keeps Ce.aj at1.o (af.ob Jc.o))).mono ?_;rintro e Jd ⟨r,rfl,Nk,us,rfl,qA⟩;obtain ⟨j3,hcc,mP,htc,rfl, -⟩:=Hp.mG qA;have Bh:=zh (aL zt Nk);have aat:=zh (aL xG Nk);have aau:=zh (Jc.o.trans Nk);have aiH:=zh (qA.mono (A':=fun b=>W5.heap.size<=b) (fun b _ h=>h.elim id (fun h=>by unfold New at h;simp only[eZ] at h;omega)));have aua:=Nk.size;simp only[eZ] at aua;clear Nk qA;refine ⟨fun _ _ _=>⟨fun e=>Bh.o,fun e=>aat.o⟩,?_⟩;try simp only[zP]
   clear HF zt xG;have HF:∀{k:Nat},(k=5->Jd.heap[g]?=some (.cells #[.slice va P.length vc,.slice none 0 0,.slice none 0 0,.slice none 0 0,.slice none 0 0,.int .i64 0,.int .i64 (vn:Int),.int .i64 0,.int .i64 (fn:Int),.slice none 0 0] 63 (0,0)))/\(k=7->Jd.heap[x3]?=some (.cells #[.slice lN (bS Q (vn:Int)).cells.length lQ,.int .i64 (bS Q (vn:Int)).vars,.int .i64 (bS Q (vn:Int)).head,.slice lS (bS Q (vn:Int)).goals.length lT] 67 (0,0))):=fun {k}=>⟨fun _=>Bh.o,fun _=>aat.o⟩;rw[vS.o];refine zT 9 HF ?_;try simp only[zP]
   refine zT 10 HF ?_;try simp only[zP]
   refine zT 11 HF ?_;try simp only[zP]
   refine zT 12 HF ?_;try simp only[zP]
   refine zT 13 HF ?_;try simp only[zP]
   refine zT 14 HF ?_;try simp only[zP]
   obtain ⟨b0,b1,b2,b3,b4,b5,b6,b7,b8,b9,bf⟩:=bV Bh.o;have aAc:=aJ Bh.o;have hcs:=dH;refine aM (i:=15) (by kernel_rfl) (aF rfl (by rfl) ?_);go_simp;refine ⟨fun k' hk' _=>⟨fun h=>?_,fun h=>?_⟩,?_⟩;·subst h;exact absurd (hk'.symm.trans (by kernel_rfl):false=true) lC
   ·subst h;exact absurd (hk'.symm.trans (by kernel_rfl):false=true) lC
   try simp only[zP]
   refine aD (i:=16) (v:=?_) rfl (Or.inl ⟨by rfl,?_⟩) ⟨fun h=>by omega,fun h=>by omega⟩ ?_;rotate_left;·(intro w' hw;clear hw;go_simp<;>with_reducible rfl)
   try simp only[zP]
   refine aD (i:=17) (v:=?_) rfl (Or.inl ⟨by rfl,?_⟩) ⟨fun h=>by omega,fun h=>by omega⟩ ?_;rotate_left;·(intro w' hw;clear hw;go_simp<;>with_reducible rfl)
   try simp only[zP]
   refine aM (i:=18) (by kernel_rfl) (aF rfl (by rfl) ?_);go_simp;refine ⟨fun k' hk' _=>⟨fun h=>?_,fun h=>?_⟩,fO (by kernel_rfl) ?_ _⟩;·subst h;exact absurd (hk'.symm.trans (by kernel_rfl):false=true) lC
   ·subst h;exact absurd (hk'.symm.trans (by kernel_rfl):false=true) lC
   try simp only[zP]
   go_wp2_with fail;obtain ⟨L,hL⟩:∃L,L=gM ⟨[],[]⟩ (bS Q (vn:Int)).cells:=⟨_,rfl⟩;have HL:=zh hL;rw[<-hL] at aiH;rw[<-hL];clear hL hcs b0 b1 b2 b3 b4 b5 b6 b7 b8 b9 bf HF;obtain ⟨nU,Je⟩:∃W,W=(((Jd.setCell ⟨g,1,none⟩ (.slice j3 L.1.cells.length hcc)).setCell ⟨g,2,none⟩ (.slice mP L.1.trail.length htc)).setCell ⟨g,7,none⟩ (.int .i64 0)):=⟨_,rfl⟩;rw[<-Je];have aiI:nU.heap[g]?=some (.cells #[.slice va P.length vc,.slice j3 L.1.cells.length hcc,.slice mP L.1.trail.length htc,.slice none 0 0,.slice none 0 0,.int .i64 0,.int .i64 (vn:Int),.int .i64 0,.int .i64 (fn:Int),.slice none 0 0] 63 (0,0)):=by rw[Je];exact (bG ((bG ((bG Bh.o 1 _).trans rfl) 2 _).trans rfl) 7 _).trans rfl
   have Nl:af (fun b=>b≠g) Jd nU:=by rw[Je];exact ((af.setCell _ Jd ⟨g,1,none⟩ _ (fun h=>h rfl)).trans (af.setCell _ _ ⟨g,2,none⟩ _ (fun h=>h rfl))).trans (af.setCell _ _ ⟨g,7,none⟩ _ (fun h=>h rfl))
   have Nn:=zh (show Below w.heap.size w nU by rw[Je];exact (((mK.o.trans (aau.o.mono mK.o.size)).setCell hgw _).setCell hgw _).setCell hgw _);have aAd:nU.heap.size=Jd.heap.size:=by rw[Je];simp
   have aiJ:=zh (show nU.heap[x3]?=some _ from bB aat.o Nl at5);have aav:=Yi.o.below sD aau.o;have aiK:=zh (aav.keeps sD Nl (fun b hb=>by omega) (fun b hb=>by have :=(aav.lt b hb).1;omega));have aiL:=zh (aiH.o.keeps (Nl.mono (fun b _ hb=>by omega)));have aiM:=zh (au.keeps aW (au.keeps aW Yj.o (af.ob aau.o)) (Nl.mono (fun b _ hb=>by omega)));have AY:=zh aiI;clear aiI Nl Je aav;have aub:g<nU.heap.size:=by omega
   have vW:=zh (show bZ nU.heap.size P vn g (.slice va P.length vc) (.slice j3 L.1.cells.length hcc) (.slice mP L.1.trail.length htc) ⟨.slice none 0 0,.slice none 0 0,.slice none 0 0⟩ ⟨L.1,[],[],0,0,fn,[]⟩ nU from { box:=AY.o,prog:=au.mono sD (by omega) (aG.sl sD aiK.o (by omega) (fun b hb=>hb)) (fun b hb h=>⟨hb,by omega⟩),heap:=aiL.o.mono (fun b _ hb hm=>by rcases hm with hm|hm|hm|hm<;>first|omega|simp[ownB] at hm),goals:=ah.nil,cO:=ah.nil,out:=aG.nil ..,bg:=⟨aub,zL _⟩,vB:=by unfold aA;simp only;omega,qb:=by unfold aA;simp only;omega,fu:=by show fn<=150;omega,qq:=by omega,gl:=by simp,cl:=by simp,ol:=by simp });have E5:=zh (fun (W:World) (hb:Below nU.heap.size nU W)=>Xo (base:=nU.heap.size) (P:=P) (q:=vn) (g:=g) (.slice lN (bS Q (vn:Int)).cells.length lQ) (.slice lS (bS Q (vn:Int)).goals.length lT) (bS Q (vn:Int)).vars (bS Q (vn:Int)).head (bS Q (vn:Int)).goals 0 0 (-1) (au.keeps aW (au.mono (A':=fun b=>b<nU.heap.size/\b≠g) aW (by omega) aiM.o (fun b hb h=>⟨hb,by omega⟩)) (af.ob hb|>.mono (fun b _ h=>h.1))) BO.o (by omega) (by omega) (by omega) (by unfold aA;omega) (by have :=mX.o;simp only[kg];omega) (vW.o.below hb));have zt:nU.drew.heap[g]?=some (.cells #[.slice va P.length vc,.slice j3 L.1.cells.length hcc,.slice mP L.1.trail.length htc,.slice none 0 0,.slice none 0 0,.int .i64 0,.int .i64 (vn:Int),.int .i64 0,.int .i64 (fn:Int),.slice none 0 0] 63 (0,0)):=AY.o;have xG:nU.drew.heap[x3]?=some (.cells #[.slice lN (bS Q (vn:Int)).cells.length lQ,.int .i64 (bS Q (vn:Int)).vars,.int .i64 (bS Q (vn:Int)).head,.slice lS (bS Q (vn:Int)).goals.length lT] 67 (0,0)):=aiJ.o;have aAe:x3<nU.drew.heap.size:=aJ xG;have HF:∀{k:Nat},(k=6->nU.drew.heap[g]?=some (.cells #[.slice va P.length vc,.slice j3 L.1.cells.length hcc,.slice mP L.1.trail.length htc,.slice none 0 0,.slice none 0 0,.int .i64 0,.int .i64 (vn:Int),.int .i64 0,.int .i64 (fn:Int),.slice none 0 0] 63 (0,0)))/\(k=2->nU.drew.heap[x3]?=some (.cells #[.slice lN (bS Q (vn:Int)).cells.length lQ,.int .i64 (bS Q (vn:Int)).vars,.int .i64 (bS Q (vn:Int)).head,.slice lS (bS Q (vn:Int)).goals.length lT] 67 (0,0))):=fun {k}=>⟨fun _=>zt,fun _=>xG⟩;refine iG (F:=fun k w'=>(k=6->w'.heap[g]?=some (.cells #[.slice va P.length vc,.slice j3 L.1.cells.length hcc,.slice mP L.1.trail.length htc,.slice none 0 0,.slice none 0 0,.int .i64 0,.int .i64 (vn:Int),.int .i64 0,.int .i64 (fn:Int),.slice none 0 0] 63 (0,0)))/\(k=2->w'.heap[x3]?=some (.cells #[.slice lN (bS Q (vn:Int)).cells.length lQ,.int .i64 (bS Q (vn:Int)).vars,.int .i64 (bS Q (vn:Int)).head,.slice lS (bS Q (vn:Int)).goals.length lT] 67 (0,0)))) (by kernel_rfl) ?_;refine zT 0 HF ?_;try simp only[zP]
   refine zT 1 HF ?_;try simp only[zP]
   refine aD (i:=2) (v:= .agg #[.slice lN (bS Q (vn:Int)).cells.length lQ,.int .i64 (bS Q (vn:Int)).vars,.int .i64 (bS Q (vn:Int)).head,.slice lS (bS Q (vn:Int)).goals.length lT]) rfl (Or.inl ⟨by rfl,?_⟩) HF ?_;·(intro w' hw;obtain ⟨q0,q1,q2,q3,qf⟩:=aU (hw.2 rfl);clear hw;go_simp)
   try simp only[zP]
   refine zT 3 HF ?_;try simp only[zP]
   refine zT 4 HF ?_;try simp only[zP]
   refine zT 5 HF ?_;try simp only[zP]
   refine aD (i:=6) (v:=?_) rfl (Or.inl ⟨by rfl,?_⟩) HF ?_;rotate_left;·(intro w' hw;obtain ⟨q0,q1,q2,q3,q4,q5,q6,q7,q8,q9,qf⟩:=bV (hw.1 rfl);clear hw;go_simp<;>with_reducible rfl)
   try simp only[zP]
   refine aM (i:=7) (by kernel_rfl) (aF rfl (by rfl) ?_);go_simp;refine (E5.o nU.drew ((zB _ _).drew)).mono ?_;rintro e w15 ⟨rfl,aAf,aAg,o15,aiN,aiO,aiP⟩;have DU:=zh aiN;have aiQ:=zh aiO;have aud:=zh aiP;clear aiN aiO aiP;refine ⟨fun k' hk' _=>⟨fun h=>?_,fun h=>?_⟩,?_⟩;·subst h;exact absurd (hk'.symm.trans (by kernel_rfl):false=true) lC
   ·subst h;exact absurd (hk'.symm.trans (by kernel_rfl):false=true) lC
   try simp only[zP]
   clear HF zt xG;obtain ⟨b0,b1,b2,b3,b4,b5,b6,b7,b8,b9,bf⟩:=bV DU.o.box;have aAi:=DU.o.lt.1;refine aD (i:=8) (v:=?_) rfl (Or.inl ⟨by rfl,?_⟩) ⟨fun h=>by omega,fun h=>by omega⟩ ?_;rotate_left;·(intro w' hw;clear hw;go_simp<;>with_reducible rfl)
   try simp only[zP]
   refine aD (i:=9) (v:=?_) rfl (Or.inl ⟨by rfl,?_⟩) ⟨fun h=>by omega,fun h=>by omega⟩ ?_;rotate_left;·(intro w' hw;clear hw;go_simp<;>with_reducible rfl)
   try simp only[zP]
   refine aM (i:=10) (by kernel_rfl) (aF rfl (by rfl) ?_);go_simp;refine ⟨fun k' hk' _=>⟨fun h=>?_,fun h=>?_⟩,fO (by kernel_rfl) ?_ _⟩;·subst h;exact absurd (hk'.symm.trans (by kernel_rfl):false=true) lC
   ·subst h;exact absurd (hk'.symm.trans (by kernel_rfl):false=true) lC
   try simp only[zP]
   clear b0 b1 b2 b3 b4 b5 b6 b7 b8 b9 bf;have oU:yA Q (vn:Int) fn=⟨L.1,(eX 0 0 (bS Q (vn:Int)).goals [] (-1)).1,[],(eX 0 0 (bS Q (vn:Int)).goals [] (-1)).2,0,fn,[]⟩:=by have :=vS.o;rw[<-HL.o] at this;unfold yA;simp only[<-HL.o,this]
   have vO:aA (eX 0 0 (bS Q (vn:Int)).goals [] (-1)).2:=by have h1:=Q5.o.nT.lL;obtain ⟨φ, -, -,h2⟩:=Q5.o.nT.cur;have h3:=h2.ge;rw[oU] at h1 h3;simp only at h1 h3;unfold aA;omega
   obtain ⟨hc16,aAj,o16,aaw,aiR,aue⟩:=DU.o.Ho (m':=⟨L.1,(eX 0 0 (bS Q (vn:Int)).goals [] (-1)).1,[],(eX 0 0 (bS Q (vn:Int)).goals [] (-1)).2,0,fn,[]⟩) 5 (.int .i64 (eX 0 0 (bS Q (vn:Int)).goals [] (-1)).2) ⟨rfl,rfl,rfl,rfl⟩ ((bG DU.o.box 5 _).trans rfl) vO DU.o.qb DU.o.fu;rw[<-oU] at aaw;have aiS:=zh aaw;have aiT:=zh (Jb (vW.o.below ((zB _ _).drew)) Nn.o.drew aiQ.o hgw (by have :=Nn.o.size;omega));have auf:=zh (Jb DU.o aiT.o aiR hgw (by have :=Nn.o.size;omega));clear aaw aiR aue vO oU;generalize w15.setCell ⟨g,5,none⟩ (.int .i64 (eX 0 0 (bS Q (vn:Int)).goals [] (-1)).2)=W16 at*;obtain ⟨base,hbase⟩:∃base,base=nU.heap.size:=⟨_,rfl⟩;have hbw:w.heap.size<=base:=by rw[hbase];exact Nn.o.size
   rw[<-hbase] at aiS;obtain ⟨R,hR⟩:∃R,R=runM P vn (fn:Int) every (fn+14) (yA Q (vn:Int) fn):=⟨_,rfl⟩;have HR:=zh (show oW P Q (vn:Int) (fn:Int) every=(R.out,0) by rw[hR];exact HS.o);have MU:=zh (show Ak P vn (fn:Int) every R (yA Q (vn:Int) fn) from ⟨fn+14,_,_,Q5.o,kr _,by simp,by simp,hR.symm⟩);generalize yA Q (vn:Int) fn=m0 at*;clear hR hbase vW DU aiQ aud aiT E5 aiM aiJ AY aiK aiL Nn;go_wp2_with fail;go_loopw[19] (fun on wr=>∃(m:Mv) (hc ht:Value) (o:Mo),bZ base P vn g (.slice va P.length vc) hc ht o m wr/\Below w.heap.size w wr/\((on= .bool false/\m=R)\/(on= .bool true/\Ak P vn (fn:Int) every R m))) (fun on wr=>vV on g wr);case atStart=>exact ⟨m0,_,_,_,aiS.o,auf.o,.inr ⟨rfl,MU.o⟩⟩
   case round=>
    obtain ⟨m,hc,ht,o,hmv,hbl,hst⟩:=hrel;have HV:=zh hmv;have x9:=zh hbl;have hmu:=zh (Nh hmv);have HMB:=zh (fun (w':World) (hch:Ch (MM g o) wr w')=>Jb hmv hbl hch hgw hbw);obtain ⟨gv,cv,ov⟩:=o;obtain ⟨-, -,ga,gc,ca,cc,oa,oc,ha,hac,hb,hbc, -,rfl,rfl,rfl,rfl,rfl, -, -, -, -, -, -,o1,o2⟩:=hmv.vals;obtain ⟨b0,b1,b2,b3,b4,b5,b6,b7,b8,b9,bf⟩:=bV hmv.box;simp only at b9;have aAl:=hmv.lt.1;have hfu:=hmv.fu;unfold maxLen at o2;clear hmv hbl;rcases hst with ⟨rfl,hmR⟩|⟨rfl,hra⟩;·subst hmR;go_wp2_with fail;go_ret2;rw[HR.o];exact ⟨_,rfl,x9.o,(HV.o.out.mono (A':=fun _=>True) nN fun _ _ _=>trivial).sl nN (show m.out.length<=1048576 by have :=HV.o.ol;omega) (fun _ _=>trivial)⟩
    ·have HRN:=zh hra;obtain ⟨k1,k2,k3,k4,k5,k6⟩:=hra.few;clear hra;by_cases vO:m.now<0
     ·have HAN:=zh (ark HV.o zq.o k5 k6 k1 k2 k3);obtain ⟨r1,r2⟩:=HRN.o.answer zq.o vO;have HR1:=zh r1;have HR2:=zh r2;clear k1 k2 k3 k4 k5 k6 r1 r2;go_wp2_with fail;refine HAN.o.mono ?_;rintro e w9 ⟨rfl,I6,I7,o9,sS,qh,vT⟩;have jI:=zh sS;have iP:=zh (HMB.o w9 qh);clear sS qh vT HAN;generalize ui P vn m=r9 at*;obtain ⟨rr,m9⟩:=r9;have FO:FN g w9=xD m9:=Nh jI.o;cases rr with
       |next=>
        obtain ⟨q1,q2⟩:=HR1.o m9 rfl;have qg:=zh q1;have uJ:=zh q2;clear q1 q2;simp only[vM];go_wp2_with fail;go_roundw;case rel=>exact ⟨m9,_,_,_,jI.o,iP.o,.inr ⟨rfl,qg.o⟩⟩
        case measure=>have h1:=uJ.o;have h2:=hmu.out;simp only[vV];rw[h2,FO];omega
       |no=>
        have sU:=HR2.o _ m9 rfl (by simp);simp only[vM];go_wp2_with fail;go_roundw;case rel=>exact ⟨m9,_,_,_,jI.o,iP.o,.inl ⟨rfl,sU⟩⟩
        case measure=>simp[vV]
       |off=>
        have sU:=HR2.o _ m9 rfl (by simp);simp only[vM];go_wp2_with fail;go_roundw;case rel=>exact ⟨m9,_,_,_,jI.o,iP.o,.inl ⟨rfl,sU⟩⟩
        case measure=>simp[vV]
     ·have aAm:0<=m.now:=by omega
      have aAn:(0:Int)<=(m.fuel:Int):=zN _;have hwr:IntKind.i64.wrap ((fn:Int) - (m.fuel:Int))=(fn:Int) - (m.fuel:Int):=Cn _ (by omega);have hst:=zh (HRN.o.step zq.o vO);have Tt:=zh (asD HV.o k4);clear k1 k2 k3 k4 k5 k6;have HCM:=zh (show xE vn (fn:Int) every m=if every>0/\((fn:Int) - m.fuel)%every=0 then yz vn m else m from rfl);by_cases hev:0<every
      ·by_cases htm:Int.tmod ((fn:Int) - (m.fuel:Int)) every=0
       ·have y9:=zh (HCM.o.trans (ai ⟨hev,Int.emod_eq_zero_of_dvd (Int.dvd_of_tmod_eq_zero htm)⟩));go_wp2_with fail;refine Tt.o.mono ?_;rintro e w8 ⟨⟨r8,rfl⟩,hc8,YV,o8,Dv,y7,FC⟩;have vW:=zh Dv;have Np:=zh (HMB.o w8 y7);clear Dv y7 FC Tt b0 b1 b2 b3 b4 b5 b6 b7 b8 b9 bf;have aAo:=vW.o.lt.1;have fo:=hst.out;rw[y9.o] at fo;obtain ⟨s1,s2,s3,s4,s5,s6⟩:=fo;have ve:=zh (YX vW.o zq.o s1 s2 s3 s4);have HR1:=zh s5;have HR2:=zh s6;clear s1 s2 s3 s4 s5 s6 hst;go_wp2_with fail;refine ve.o.mono ?_;rintro e w9 ⟨rfl,I6,I7,o9,sS,qh,vT⟩;have jI:=zh sS;have iP:=zh (Jb vW.o Np.o qh hgw hbw);clear sS qh vT ve;generalize kQ P (yz vn m)=r9 at*;obtain ⟨rr,m9⟩:=r9;have FO:FN g w9=xD m9:=Nh jI.o;cases rr with
         |next=>
          obtain ⟨q1,q2⟩:=HR1.o m9 rfl;have qg:=zh q1;have uJ:=zh q2;clear q1 q2;simp only[vM];go_wp2_with fail;go_roundw;case rel=>exact ⟨m9,_,_,_,jI.o,iP.o,.inr ⟨rfl,qg.o⟩⟩
          case measure=>have h1:=uJ.o;have h2:=hmu.out;simp only[vV];rw[h2,FO];omega
         |no=>
          have sU:=HR2.o _ m9 rfl (by simp);simp only[vM];go_wp2_with fail;go_roundw;case rel=>exact ⟨m9,_,_,_,jI.o,iP.o,.inl ⟨rfl,sU⟩⟩
          case measure=>simp[vV]
         |off=>
          have sU:=HR2.o _ m9 rfl (by simp);simp only[vM];go_wp2_with fail;go_roundw;case rel=>exact ⟨m9,_,_,_,jI.o,iP.o,.inl ⟨rfl,sU⟩⟩
          case measure=>simp[vV]
       ·have y9:=zh (HCM.o.trans (ag (fun h=>htm (Int.tmod_eq_zero_of_dvd (Int.dvd_of_emod_eq_zero h.2)))));have vW:=zh HV.o;have Np:=zh x9.o;have fo:=hst.out;rw[y9.o] at fo;obtain ⟨s1,s2,s3,s4,s5,s6⟩:=fo;have ve:=zh (YX vW.o zq.o s1 s2 s3 s4);have HR1:=zh s5;have HR2:=zh s6;clear s1 s2 s3 s4 s5 s6 hst Tt;go_wp2_with fail;refine ve.o.mono ?_;rintro e w9 ⟨rfl,I6,I7,o9,sS,qh,vT⟩;have jI:=zh sS;have iP:=zh (Jb vW.o Np.o qh hgw hbw);clear sS qh vT ve;generalize kQ P m=r9 at*;obtain ⟨rr,m9⟩:=r9;have FO:FN g w9=xD m9:=Nh jI.o;cases rr with
         |next=>
          obtain ⟨q1,q2⟩:=HR1.o m9 rfl;have qg:=zh q1;have uJ:=zh q2;clear q1 q2;simp only[vM];go_wp2_with fail;go_roundw;case rel=>exact ⟨m9,_,_,_,jI.o,iP.o,.inr ⟨rfl,qg.o⟩⟩
          case measure=>have h1:=uJ.o;have h2:=hmu.out;simp only[vV];rw[h2,FO];omega
         |no=>
          have sU:=HR2.o _ m9 rfl (by simp);simp only[vM];go_wp2_with fail;go_roundw;case rel=>exact ⟨m9,_,_,_,jI.o,iP.o,.inl ⟨rfl,sU⟩⟩
          case measure=>simp[vV]
         |off=>
          have sU:=HR2.o _ m9 rfl (by simp);simp only[vM];go_wp2_with fail;go_roundw;case rel=>exact ⟨m9,_,_,_,jI.o,iP.o,.inl ⟨rfl,sU⟩⟩
          case measure=>simp[vV]
      ·have y9:=zh (HCM.o.trans (ag (fun h=>hev h.1)));have vW:=zh HV.o;have Np:=zh x9.o;have fo:=hst.out;rw[y9.o] at fo;obtain ⟨s1,s2,s3,s4,s5,s6⟩:=fo;have ve:=zh (YX vW.o zq.o s1 s2 s3 s4);have HR1:=zh s5;have HR2:=zh s6;clear s1 s2 s3 s4 s5 s6 hst Tt;go_wp2_with fail;refine ve.o.mono ?_;rintro e w9 ⟨rfl,I6,I7,o9,sS,qh,vT⟩;have jI:=zh sS;have iP:=zh (Jb vW.o Np.o qh hgw hbw);clear sS qh vT ve;generalize kQ P m=r9 at*;obtain ⟨rr,m9⟩:=r9;have FO:FN g w9=xD m9:=Nh jI.o;cases rr with
        |next=>
         obtain ⟨q1,q2⟩:=HR1.o m9 rfl;have qg:=zh q1;have uJ:=zh q2;clear q1 q2;simp only[vM];go_wp2_with fail;go_roundw;case rel=>exact ⟨m9,_,_,_,jI.o,iP.o,.inr ⟨rfl,qg.o⟩⟩
         case measure=>have h1:=uJ.o;have h2:=hmu.out;simp only[vV];rw[h2,FO];omega
        |no=>
         have sU:=HR2.o _ m9 rfl (by simp);simp only[vM];go_wp2_with fail;go_roundw;case rel=>exact ⟨m9,_,_,_,jI.o,iP.o,.inl ⟨rfl,sU⟩⟩
         case measure=>simp[vV]
        |off=>
         have sU:=HR2.o _ m9 rfl (by simp);simp only[vM];go_wp2_with fail;go_roundw;case rel=>exact ⟨m9,_,_,_,jI.o,iP.o,.inl ⟨rfl,sU⟩⟩
         case measure=>simp[vV]
theorem aiY(lM:qF P<=1099511627776)(hnq:Tm.bq Q<=1099511627776)(hv:aA vars)(hf:aA fuel)(hei:aA every)(w:World)(pv qv:Value)(hpv:lW (fun b=>b<w.heap.size) w P pv)(dB:eP (fun b=>b<w.heap.size) w Q qv):Calls Tryz.prog 8 #[pv,qv,.int .i64 vars,.int .i64 fuel,.int .i64 every] w (Tn w (oW P Q vars fuel every)):=by
 rcases aao P Q vars fuel every with⟨h,_⟩|⟨_,h,_⟩|⟨⟨h1,h2⟩,h3,h4,h5,_⟩;·exact aiy (.inl h) lM hnq hv hf w pv qv hpv dB
 ·exact aiy (.inr h) lM hnq hv hf w pv qv hpv dB
 ·exact atG h1 h2 h3 h4 h5 hei lM hnq w pv qv hpv dB
end
