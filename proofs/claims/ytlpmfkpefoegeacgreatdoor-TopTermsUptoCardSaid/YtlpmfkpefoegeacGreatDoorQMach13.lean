import Derived.Test.YtlpmfkpefoegeacGreatDoorQMach13M
namespace Go.Proofs.YtlpmfkpefoegeacGreatDoor
set_option maxRecDepth 99999
set_option maxHeartbeats 0
set_option linter.all false
open Go.RowKit
section
variable {P : List Cl} {q : Nat} {m : Mv} {s : Sv}
theorem acs:∀(cs:List Cm)(m m':Mv),m.h=m'.h->m.goals=m'.goals->vk P cs m->vk P cs m'
 |[],m,m',_,_,h=>trivial
 |c::cs,m,m',e1,e2,h=>by
  obtain⟨h1,h2,h3,h4,h5⟩:=h;refine⟨by rw[<-e2];exact h1,h2,by rw[<-e1];exact h3,?_,acs cs _ _ ?_ ?_ h5⟩;·unfold bV at h4 ⊢;rw[<-e1,<-e2];exact h4
  ·simp only[e1]
  ·exact e2
theorem Vq:∀(cs:List Cm)(ds:List jN)(m:Mv)(s:Sv),fZ P {s with choices:=ds}->m.h.Good->l6 m.h s.env s.vars q m.query m.goals cs ds->vk P cs m
 |[],ds,m,s,_,_,_=>trivial
 |_::_,[],m,s,_,_,h=>h.elim
 |c::cs,d::ds,m,s,hok,hg,hch=>by
  obtain⟨k,hle,hrest⟩:=hch;have hdo:=hok.bC d (by simp);have Ig:=hok.pop;have hpw:=(Wn.1 hok.ae6).1;simp only at hdo Ig hpw;have hu:=ag4 hg k.top k.tr k.good;have hlen:=CW (h:=m.h) c.top c.trail k.top;have Om:=k.snap;cases hg':d.g with
   |nil=>exact absurd hg' hdo.ne
   |cons g rest=>
    rw[hg']at Om;obtain⟨φ, -, -,kk,e1,hlt, -,hga, -⟩:=Om;have e2:kk=c.goal:=by omega
    subst e2;refine⟨hlt,by rw[k.from_];have :=hdo.lt;omega,by rw[hu];exact k.good,by rw[hu];exact hga.jW,?_⟩;rw[hu];refine Vq cs ds {m with choices:=cs,h:=eF m.h c.top c.trail} {s with choices:=ds,env:=s.env.take d.trail} Ig k.good ?_;exact hrest.imp fun x y hx hy r=>by
     obtain⟨h1,h2⟩:=hle x hx;refine r.move (agM h1 h2) (by rw[hlen];exact h1) ?_ ?_ ?_ (qI _) (fun _ _=>rfl) (zL _);·show x.trail<=(m.h.trail.take c.trail).length;rw[dX];have :=k.tr;omega
     ·rw[Wz,Je (hpw y hy)]
     ·rw[dX];have :=hpw y hy;have :=r.Bd;omega
theorem akY{gl:List Gl}(S:uV P q m s gl):m.choices.length<=150/\m.goals.length<=5000:=by have h1:=S.pM.bC.len;have h2:=S.ok.few;have h3:=S.pM.ni;omega
theorem axk{gl:List Gl}(S:uV P q m s gl):vk P m.choices m:=Vq m.choices s.choices m s S.ok S.pM.good S.pM.bC
theorem akZ{gl:List Gl}(S:uV P q m s gl):∀v:Nat,v<q->ah (m.query+(v:Nat)):=fun v hv=>by obtain⟨φ, -,hq, -⟩:=S.pM.cur;obtain⟨h0,h1⟩:=(hq v hv).1;have :=S.pM.good.2.2.1;unfold ah;omega
theorem ak0{N:Int}{l:List Ce}{φ:Int->Int}{E:Env}{K:Int->Prop}{a:Int}{t:Tm}(h:Hr l φ E K a t):0<=look l a:=by obtain⟨x,hx⟩:=h.looks;rw[jw hx];exact hx.oV
theorem ak1{N:Int}{t:Tm}(h:t.In N)(hk:t.kind=2): -1099511627776<=t.n/\t.n<=1099511627776:=by cases h with|var=>cases hk|atom=>cases hk|int n h0 h1=>exact⟨h0,h1⟩|comp=>cases hk
theorem axl{N:Int}{t:Tm}(h:t.In N):t.args.length<=4:=by cases h with|var=>simp[Tm.args]|atom=>simp[Tm.args]|int=>simp[Tm.args]|comp _ _ _ _ _ h3=>exact h3
theorem axm{g:Gl}{rest:List Gl}(hP:fV P)(S:uV P q m s (g::rest))(dP:(q:Int)<=s.vars)(hout:s.out.length<=11)(hf:m.fuel≠0):abb P m:=by
 obtain⟨hok,tQ,S⟩:=S;obtain⟨φ,hM,hq,kk,e1,hlt,tO,hga,hnx,hch⟩:=S.cur;obtain rfl:kk=m.now.toNat:=by omega
 have hf':s.fuel≠0:=by rw[<-S.fuel];exact hf
 have hp:=Nc s.fuel s.choices hf';have hs1:fZ P {s with fuel:=s.fuel - 1}:=by obtain⟨h1,h2,h3,h4,h5,h6,h7,h8⟩:=hok;rw[hp]at h6 h7;exact⟨h1,h2,h3,h4,h5,by simp only;omega,by simp only;omega,by simp only;omega⟩
 have hpV:=hok.GH;have tT:=hok.ae7;rw[hp]at tT;have hsl:∀c:Nat,c+oC m.fuel m.out<=60000->c+300+oC (m.fuel - 1) m.out<=60000:=fun c h=>by unfold oC at h ⊢;omega
 have hsl2:∀c:Nat,c+300+oC m.fuel m.out<=60000->c+300+oC (m.fuel - 1) m.out<=60000:=fun c h=>by unfold oC at h ⊢;omega
 have Y9:m.goals.length+5+Df (m.fuel - 1) m.out<=5000:=by have h:=S.ni;unfold Df at h ⊢;omega
 have C:Ic q {m with fuel:=m.fuel - 1} {s with fuel:=s.fuel - 1} m.now.toNat g rest:={good:=S.good,env:=hok.env,v0:=hok.RD,v1:=by simp only;omega,qv:=dP,gt:=(tQ g (by simp)).1,fuel:=by show m.fuel - 1=s.fuel - 1;rw[S.fuel],out:=S.out,tr:=S.tr,cur:=⟨φ,hM,hq,m.now.toNat,rfl,hlt,tO,hga,by rw[<-e1];exact hnx,hch⟩,bC:=S.bC,jD:=hsl _ S.jD,oD:=fun c hc=>hsl2 _ (S.oD c hc),ni:=Y9};have zi:mI s.vars m.h.cells φ s.env (bV m m.now.toNat).at_ g.t:=hga;have hkc:=ahc zi;have acu:=zi.Bc;have hcl:=S.bC.len;have nM:=hok.few;refine⟨by omega,hlt,S.good,zi.jW,?_,?_,?_,?_,?_⟩;·rw[zi.cell];exact zN _
 ·rw[zi.cell];have :=axl acu;simp only;omega
 ·intro hk n1 n2 n3 n4;have hk':=hkc.1 hk;rw[zi.cell]at n1 n2 n3 n4;simp only at n1 n2 n3 n4;have h2:2<=g.t.args.length:=by
   rcases hk' with⟨_,h|h|h⟩|⟨h,_⟩|⟨h,_⟩;·exact absurd h n1
   ·exact absurd h n2
   ·exact absurd h n3
   ·omega
   ·omega
  have hne:g.t.args≠[]:=fun e=>by rw[e]at h2;simp at h2
  have ha:=Ih zi hne 0 (by omega);have hb:=Ih zi hne 1 (by omega);simp only[Ww,adU]at ha;rw[show(bV m m.now.toNat).at_+1+((1:Nat):Int)=(bV m m.now.toNat).at_+2 by omega]at hb;refine⟨ak0 (N:=s.vars) ha,ak0 (N:=s.vars) hb,fun ka kb=>?_⟩;obtain⟨a1,a2⟩:=Te ha;obtain⟨c1,c2⟩:=Te hb;have g1:=ak1 (oZ hok.env (acu.arg (bN (show 0<g.t.args.length by omega)))) (a1.1 ka);have g2:=ak1 (oZ hok.env (acu.arg (bN (show 1<g.t.args.length by omega)))) (c1.1 kb);rw[a2 (a1.1 ka),c2 (c1.1 kb)];unfold ah;omega
 ·intro m' hk e;have hk':=hkc.1 hk;have hks:=ag9 (P:=P) C hk';have Kw:bV {m with fuel:=m.fuel - 1} m.now.toNat=bV m m.now.toNat:=rfl;rw[Kw,e]at hks;have jP:=fun(r:Option Bool)(s':Sv)(e:jh g {s with fuel:=s.fuel - 1}=(r,s'))(hr:r≠none)=>JE hs1 (tQ g (by simp)).1 hk' (by simp only;omega) e hr;generalize jh g {s with fuel:=s.fuel - 1}=rs at*;obtain⟨rb,s'⟩:=rs;match rb,hks,jP with|none,hks,_=>exact hks.elim|some true,hks,_=>exact hks.elim|some false,hks,jP=>obtain⟨a1,a2,a3,a4⟩:=jP (some false) s' rfl (by simp);have B:=hks a1;have b1:=B.bC.len;have b2:=a1.few;have b3:=B.ni;have b4:=B.out;refine⟨Vq m'.choices s'.choices m' s' a1 B.good B.bC,by omega,by omega,by rw[b4,a3];show s.out.length+1<=20;omega⟩
 ·intro m' hk e;obtain rfl:=Kr P.length 0 _ _ e;exact acs _ m _ rfl rfl (Vq m.choices s.choices m s hok S.good S.bC)
theorem axn{gl:List Gl}(S:uV P q m s gl):abJ q m:=by
 have axo:=akZ S;obtain⟨hok,tQ,S⟩:=S;obtain⟨φ,hM,hq,hch⟩:=S.cur;have hst:∀n∈jH m,0<=n->qW m.goals m.h.cells n.toNat:=by
  intro n hn h0;unfold jH at hn;rcases iw.1 hn with hn|hn;·obtain⟨c,hc,rfl⟩:=iZ.1 hn;obtain⟨d,hd,k⟩:=S.bC.mem c (Wv.1 hc);obtain⟨φ', -, -,k3⟩:=k.snap;refine Oo (fun a ha=>?_) _ _ k3 h0;have :=CW (h:=m.h) c.top c.trail k.top;have :=k.top;unfold Inb at ha ⊢;omega
  ·simp only[iX]at hn;subst hn;exact Oo (fun _ h=>h) _ _ hch h0
 have hgc:=S.ni;have hlow:∀n∈jH m, -1<=n:=by
  intro n hn;unfold jH at hn;rcases iw.1 hn with hn|hn;·obtain⟨c,hc,rfl⟩:=iZ.1 hn;omega
  ·simp only[iX]at hn;subst hn;exact hch.ge.1
 have hgood:=S.good;have Yc:=hgood.2.2.1;have htl:=hgood.2.2.2;obtain⟨-, -, -,hvv⟩:=Za (l:=m.h.cells) (jH m) [] hst (by simp) (by intro i hi;cases hi);have Ti:∀r∈jY q m,Inb m.h.cells r:=by
  intro r hr;unfold jY at hr;rcases iw.1 hr with hr|hr;·obtain⟨v,hv,rfl⟩:=iZ.1 hr;exact(hq v (mh.1 hv)).1
  ·obtain⟨i,hi,rfl⟩:=iZ.1 hr;cases hvv i hi with|mk _ h1 h2=>exact h2
 refine⟨hst,fun n hn=>?_,axo,fun _=>?_⟩
 ·by_cases h0:0<=n;·have :=(hst n hn h0).lt;unfold ah;omega
  ·have :=hlow n hn;unfold ah;omega
 ·rw[ahj hgood Ti];simp only[nR,DZ];refine⟨trivial,trivial,trivial,fun x hx=>?_,fun x hx=>?_⟩;·obtain⟨y,hy,rfl⟩:=iZ.1 hx;obtain⟨c,hc,rfl⟩:=iZ.1 hy;obtain⟨d,hd,k⟩:=S.bC.mem c (Wv.1 hc);have h1:=k.top;have h2:=ahi (m:=marks m.h.cells (jY q m)) ((c.top:Int).toNat);unfold ahead;rw[dF]at h2 ⊢;omega
  ·obtain⟨y,hy,rfl⟩:=iZ.1 hx;obtain⟨c,hc,rfl⟩:=iZ.1 hy;obtain⟨d,hd,k⟩:=S.bC.mem c (Wv.1 hc);have h1:=k.tr;have h2:=ahi (m:=aP (marks m.h.cells (jY q m)) m.h.trail) ((c.trail:Int).toNat);unfold ahead;rw[dF]at h2 ⊢;omega
end
def BJ(P:List Cl)(q:Nat)(fuel every:Int)(R:Mv)(m:Mv):Prop:=∃(k:Nat)(s:Sv)(gl:List Gl),uV P q m s gl/\(q:Int)<=s.vars/\s.out.length<=11/\s.fuel+13<=k+s.out.length/\runM P q fuel every k m=R
def Ac(m:Mv):Nat:=m.fuel+13 - m.out.length
section
variable {P : List Cl} {q : Nat} {fuel every : Int} {R m : Mv}
theorem axp{s s':Sv}(e:kE q s=(true,s')):s'.fuel=s.fuel:=by
 unfold kE at e;split at e;·simp at e
 ·simp only at e;split at e;·simp at e
  ·simp only[gI,dx]at e;subst e;rfl
theorem BJ.few(h:BJ P q fuel every R m):m.choices.length<900/\m.goals.length<=5900/\m.out.length+2<=20/\abJ q m/\(∀e:Ev,vk P m.choices {m with out:=m.out++[e]})/\∀v:Nat,v<q->ah (m.query+(v:Nat)):=by obtain⟨k,s,gl,S,dP,hout,hk,hr⟩:=h;obtain⟨h1,h2⟩:=akY S;refine⟨by omega,by omega,by rw[S.pM.out];omega,axn S,fun e=>acs _ m _ rfl rfl (axk S),akZ S⟩
theorem BJ.answer(hP:fV P)(h:BJ P q fuel every R m)(hn:m.now<0):(∀m',uU P q m=(.next,m')->BJ P q fuel every R m'/\Ac m'<Ac m)/\(∀r m',uU P q m=(r,m')->r≠ .next->m'=R):=by
 obtain⟨k,s,gl,S,dP,hout,hk,hr⟩:=h;obtain⟨n,rfl⟩:∃n,k=n+1:=⟨k - 1,by omega⟩;cases gl with
  |cons g rest=>obtain⟨φ, -, -,kk,h, -⟩:=S.pM.cur;omega
  |nil=>
   have hA:=ahf hP S dP hout;have hok2:=fun s'(e:kE q s=(true,s'))=>ahq S.ok e;have hat:=fun s'(e:kE q s=(true,s'))=>axp e;rw[runM,G hn]at hr;have Pe:=S.pM.fuel;have hmo:=S.pM.out;refine⟨fun m' e=>?_,fun r m' e hne=>?_⟩;·rw[e]at hA hr;simp only at hr;cases ha:kE q s with|mk b s'=>rw[ha]at hA hok2 hat;cases b with|false=>exact hA.elim|true=>simp only at hA;obtain⟨a1,a2,a3,a4⟩:=hok2 s' rfl;have a5:=hat s' rfl;have hbn:=fun s'' gl(e:eQ P s'.choices s'=(.next gl,s''))=>GJ s'.choices s' s'' gl a1 e;generalize eQ P s'.choices s'=rs at*;obtain⟨rb,s''⟩:=rs;cases rb with|next gl=>obtain⟨b1,b2,b3,b4,b5⟩:=hbn s'' gl rfl;have hA':Dh q m' s'' gl:=hA;have hf2:=hA'.fuel;have ho2:=hA'.out;refine⟨⟨n,s'',gl,⟨b1,b2,hA'⟩,by omega,by rw[b4];exact a3,by rw[b4];omega,hr⟩,?_⟩;unfold Ac;rw[hf2,ho2,Pe,hmo,b4];omega|no=>exact hA.elim|off=>exact hA.elim
   ·rw[e]at hr;cases r with|next=>exact absurd rfl hne|no=>exact hr|off=>exact hr
noncomputable def yn(q:Nat)(fuel every:Int)(m:Mv):Mv:=if every>0/\(fuel - m.fuel)%every=0 then ze q m else m
theorem BJ.step(hP:fV P)(h:BJ P q fuel every R m)(hn:¬m.now<0):((yn q fuel every m).fuel≠0->abb P (yn q fuel every m))/\(yn q fuel every m).choices.length<900/\(yn q fuel every m).goals.length<=5900/\(yn q fuel every m).out.length+1<=20/\(∀m',mH P (yn q fuel every m)=(.next,m')->BJ P q fuel every R m'/\Ac m'<Ac m)/\(∀r m',mH P (yn q fuel every m)=(r,m')->r≠ .next->m'=R):=by
 obtain⟨k,s,gl,S,dP,hout,hk,hr⟩:=h;obtain⟨n,rfl⟩:∃n,k=n+1:=⟨k - 1,by omega⟩;cases gl with
  |nil=>obtain⟨φ, -, -,h⟩:=S.pM.cur;have :m.now= -1:=h;omega
  |cons g rest=>
   have S2:uV P q (yn q fuel every m) s (g::rest):=by
    unfold yn;split;·exact ahk S
    ·exact S
   rw[runM,O hn]at hr;have Pe:=S.pM.fuel;have hmo:=S.pM.out;have hA:=ahd hP S2 dP;have hsn:=fun s' gl(e:ig P g rest s=(.next gl,s'))=>RF S.ok S.AB e;obtain⟨f1,f2⟩:=akY S2;refine⟨fun hf=>axm hP S2 dP hout hf,by omega,by omega,by rw[S2.pM.out];omega,fun m' e=>?_,fun r m' e hne=>?_⟩;·have e':=e;unfold yn at e';rw[e']at hr;rw[e]at hA;simp only at hr;generalize ig P g rest s=rs at*;obtain⟨rb,s'⟩:=rs;cases rb with|next gl=>obtain⟨b1,b2,b3,b4,b5⟩:=hsn s' gl rfl;have hA':Dh q m' s' gl:=hA;have hf2:=hA'.fuel;have ho2:=hA'.out;refine⟨⟨n,s',gl,⟨b1,b2,hA'⟩,by omega,by rw[b4];exact hout,by rw[b4];omega,hr⟩,?_⟩;unfold Ac;rw[hf2,ho2,Pe,hmo,b4];omega|no=>exact hA.elim|off=>exact hA.elim
   ·unfold yn at e;rw[e]at hr;cases r with|next=>exact absurd rfl hne|no=>exact hr|off=>exact hr
end
def acv(w:World)(r:List Ev×Int)(e:Ending)(w':World):Prop:=∃ev,e= .returned (.tuple #[ev,.int .i64 r.2])/\Below w.heap.size w w'/\ag 2 uK (fun _=>True) w' r.1 ev
theorem acw(P:List Cl)(Q:List Tm)(vars fuel every:Int):(¬(fV P/\iJ Q vars)/\lD P Q vars fuel every=([],1))\/((fV P/\iJ Q vars)/\(fuel<0\/fuel>150\/every<0)/\lD P Q vars fuel every=([],2))\/((fV P/\iJ Q vars)/\0<=fuel/\fuel<=150/\0<=every/\lD P Q vars fuel every=((runM P vars.toNat fuel every (fuel.toNat+14) (zg Q vars fuel.toNat)).out,0)):=by
 unfold lD;by_cases h:fV P/\iJ Q vars
 ·rw[O (dY h)];by_cases h2:fuel<0\/fuel>150\/every<0;·rw[G h2];exact .inr (.inl ⟨h,h2,rfl⟩)
  ·rw[O h2];exact .inr (.inr ⟨h,by omega,by omega,by omega,rfl⟩)
 ·rw[G h];exact .inl ⟨h,rfl⟩
section
variable {P : List Cl} {Q : List Tm} {vars fuel every : Int}
theorem ak2(h0:¬(fV P/\iJ Q vars)\/(fuel<0\/fuel>150\/every<0))(ry:mR P<=1099511627776)(hnq:Tm.aC Q<=1099511627776)(hv:ah vars)(hf:ah fuel)(w:World)(pv qv:Value)(hpv:Ay (fun b=>b<w.heap.size) w P pv)(dP:iN (fun b=>b<w.heap.size) w Q qv):Calls Tryz.prog 8 #[pv,qv,.int .i64 vars,.int .i64 fuel,.int .i64 every] w (acv w (lD P Q vars fuel every)):=by
 have IW:=Y (Rj P ry _ w pv hpv);have vW:=Y (fun(w':World)(hb:Below w.heap.size w w')=>Jv Q vars hnq hv _ w' qv (ag.keeps Tm.ae dP (J.ob hb)));have HV:=Y hv;have HS:=Y (acw P Q vars fuel every);have H0:=Y h0;obtain⟨pa,pc, -, -,rfl, -⟩:=ag.at hpv;obtain⟨qa,qc, -, -,rfl, -⟩:=ag.at dP;clear hpv dP h0 hv;go_enter Tryz.func8,Tryz.ntmps8;go_wp2_with fail;refine(IW.o).mono ?_;rintro e w1⟨v,rfl,hb1,b1,rfl,Ad⟩;have HB1:=Y hb1;have kH:=Y Ad;clear hb1 Ad;cases b1 with
  |false=>
   have HR:=Y (show lD P Q vars fuel every=([],1)by
    rcases HS.o with⟨_,h⟩|⟨h,_⟩|⟨h,_⟩;·exact h
    ·have :=kH.o.2 h.1;cases this
    ·have :=kH.o.2 h.1;cases this);go_wp2_with fail;go_ret2;rw[HR.o];exact⟨_,rfl,HB1.o,ag.nil ..⟩
  |true=>
   go_wp2_with fail;refine(vW.o w1 HB1.o).mono ?_;rintro e w2⟨v,rfl,hb2,b2,rfl,xW⟩;have HB2:=Y (HB1.o.trans (hb2.mono HB1.o.size));have HG2:=Y xW;clear hb2 xW;cases b2 with
    |false=>
     have HR:=Y (show lD P Q vars fuel every=([],1)by
      rcases HS.o with⟨_,h⟩|⟨h,_⟩|⟨h,_⟩;·exact h
      ·have :=HG2.o.2 h.2;cases this
      ·have :=HG2.o.2 h.2;cases this);go_wp2_with fail;go_ret2;rw[HR.o];exact⟨_,rfl,HB2.o,ag.nil ..⟩
    |true=>
     have hfb:fuel<0\/fuel>150\/every<0:=by
      rcases H0.o with h|h;·exact absurd ⟨kH.o.1 (by simp),HG2.o.1 (by simp)⟩ h
      ·exact h
     have HR:=Y (show lD P Q vars fuel every=([],2)by
      rcases HS.o with⟨h,_⟩|⟨_,_,h⟩|⟨_,h1,h2,h3,_⟩;·exact absurd ⟨kH.o.1 (by simp),HG2.o.1 (by simp)⟩ h
      ·exact h
      ·omega);by_cases h1:fuel<0
     ·have hd:decide (fuel<0)=true:=by simpa using h1
      go_wp2_with fail;go_ret2;rw[HR.o];exact⟨_,rfl,HB2.o,ag.nil ..⟩
     ·have hd:decide (fuel<0)=false:=by simpa using h1
      by_cases h2:(150:Int)<fuel
      ·have hd3:decide (150<fuel)=true:=by simpa using h2
       go_wp2_with fail;go_ret2;rw[HR.o];exact⟨_,rfl,HB2.o,ag.nil ..⟩
      ·have hd3:decide (150<fuel)=false:=by simpa using h2
       have h3:every<0:=by omega
       have hd4:decide (every<0)=true:=by simpa using h3
       go_wp2_with fail;go_ret2;rw[HR.o];exact⟨_,rfl,HB2.o,ag.nil ..⟩
theorem axq{Q:List Tm}{n:Nat}(hQ:iJ Q (n:Int)):(gV ⟨[],[]⟩ (bI Q (n:Int)).cells).2.1=0/\(bI Q (n:Int)).goals.length<=5/\∀a∈(bI Q (n:Int)).goals,0<=a/\a<=1000000:=by
 obtain⟨F,hF⟩:∃F,F=(aK (aD n) Q).1:=⟨_,rfl⟩;obtain⟨b1,b2,b3,b4,b5,b6⟩:=ahr hQ F hF;have hcells:(bI Q (n:Int)).cells=F:=by rw[hF];simp[bI]
 have Ie:(bI Q (n:Int)).goals=(aK (aD n) Q).2:=by simp[bI]
 have Tq:Hp.Good ⟨[],[]⟩:=⟨fun i hi=>by simp at hi,fun j hj=>by simp at hj,by simp,by simp⟩;have hld:=SX (h:=⟨[],[]⟩) (F:=F) Tq b3 (by simp only[fT];omega);have wD:=yT Q (aD n);have h5:Q.length<=5:=hQ.2.2.1;rw[hcells,Ie,hld];refine⟨by simp,by omega,fun a ha=>?_⟩;obtain⟨j,hj,rfl⟩:=vH.1 ha;obtain⟨a,e1,e2,e3⟩:=b6 j (by omega);rw[aJ hj]at e1;simp only[bW]at e1;rw[e1];have :=(jQ.1 e3).1;omega
def LF(g:Nat)(w:World):Nat:=match w.cell? ⟨g,8,none⟩,w.cell? ⟨g,9,none⟩with|some (.int _ k),some (.slice _ n _)=>k.toNat+13 - n|_,_=>0
def BK(on:Value)(g:Nat)(w:World):Nat:=match on with| .bool true=>LF g w+1|_=>0
theorem Vr{base:Nat}{q g:Nat}{pv hc ht:Value}{o:Mo}{m:Mv}{w:World}(h:bS base P q g pv hc ht o m w):LF g w=Ac m:=by obtain⟨_,_,_,_,_,_,oa,oc,_,_,_,_,_,_,_,e,_⟩:=h.vals;obtain⟨-, -, -, -, -, -, -, -,b8,b9, -⟩:=bM h.box;unfold LF Ac;rw[b8,b9,e];simp
theorem LH{base:Nat}{q g:Nat}{pv hc ht:Value}{o:Mo}{m:Mv}{w wr w':World}(h:bS base P q g pv hc ht o m wr)(hb:Below w.heap.size w wr)(hch:Ch (MM g o) wr w')(hg:w.heap.size<=g)(hbs:w.heap.size<=base):Below w.heap.size w w':=by have h1:Ch (MM g o) w w':=(Ch.of_below hb).trans hch (fun x h=> .inl h);refine h1.below fun k hk e=>?_;have :=(h.rX k e).1;omega
theorem axr:oU Tryz.prog 55 71 6 88:= .mk' (z:= .agg #[.string .empty,.int .i64 0,.slice none 0 0,.int .i64 0,.int .i64 0,.slice none 0 0]) Tryz.underlying55 (by kernel_rfl) rfl (by omega) (by omega)
theorem axs (yZ:fV P) (ow:iJ Q vars) (hf0:0<=fuel) (hf1:fuel<=150) (he0:0<=every) (hei:ah every) (ry:mR P<=1099511627776) (hnq:Tm.aC Q<=1099511627776) (w:World) (pv qv:Value) (hpv:Ay (fun b=>b<w.heap.size) w P pv) (dP:iN (fun b=>b<w.heap.size) w Q qv):Calls Tryz.prog 8 #[pv,qv,.int .i64 vars,.int .i64 fuel,.int .i64 every] w (acv w (lD P Q vars fuel every)):=by
 have hv0:=ow.1;have H8:=ow.2.1;have IW:=Y (Rj P ry _ w pv hpv);have vW:=Y (fun (w':World) (hb:Below w.heap.size w w')=>Jv Q vars hnq (by unfold ah;omega) _ w' qv (ag.keeps Tm.ae dP (J.ob hb)));have HQY:=Y (fun (w':World) (hb:Below w.heap.size w w')=>aqB Q vars (by unfold ah;omega) hnq w' qv (ag.mono Tm.ae (by omega) (ag.keeps Tm.ae dP (J.ob hb)) (fun b hb' _=>hb')));obtain ⟨vn,rfl⟩:=dH hv0;obtain ⟨fn,rfl⟩:=dH hf0;have HS:=Y (show lD P Q (vn:Int) (fn:Int) every=((runM P vn (fn:Int) every (fn+14) (zg Q (vn:Int) fn)).out,0) by
  rcases acw P Q (vn:Int) (fn:Int) every with ⟨h,_⟩|⟨_,h,_⟩|⟨_,_,_,_,h⟩;·exact absurd ⟨yZ,ow⟩ h
  ·omega
  ·exact h);have Ui:=Y (ahs (f:=fn) yZ ow (by omega));have BL:=Y yZ;have IK:=Y ow;have aDx:=yZ.1;obtain ⟨pa,pc,pb,uX,rfl,OM,Bn,OO,hpa,hpe⟩:=ag.at hpv;obtain ⟨qa,qc,qb,axu,rfl,axv,acx,axw, -⟩:=ag.at dP;have Ik:=Y hpa;have E8:=Y hpe;unfold maxLen at Bn acx;clear hpv dP yZ ow hpa hpe;go_enter Tryz.func8,Tryz.ntmps8;go_wp2_with fail;refine (IW.o).mono ?_;rintro e w1 ⟨v,rfl,hb1,b1,rfl,Ad⟩;obtain rfl:b1=true:=Ad.2 BL.o;have HB1:=Y hb1;clear hb1 Ad;go_wp2_with fail;refine (vW.o w1 HB1.o).mono ?_;rintro e w2 ⟨v,rfl,hb2,b2,rfl,xW⟩;obtain rfl:b2=true:=xW.2 IK.o;have HB2:=Y (HB1.o.trans (hb2.mono HB1.o.size));clear hb2 xW;have hd:decide ((fn:Int)<0)=false:=by simp
 have hd3:decide (150<(fn:Int))=false:=by simp;omega
 have hd4:decide (every<0)=false:=by simp;omega
 have hz2:=HB2.o.size;go_wp2_with fail;obtain ⟨W5,kP⟩:∃W5,W5=w2.alloc (.cells #[.slice none 0 0,.slice none 0 0,.slice none 0 0,.slice none 0 0,.slice none 0 0,.int .i64 0,.int .i64 (vn:Int),.int .i64 0,.int .i64 (fn:Int),.slice none 0 0] 63):=⟨_,rfl⟩;have bH:=Y (show Below w.heap.size w W5 by rw[kP];exact HB2.o.alloc hz2 _);have mK:=Y (show W5.heap[w2.heap.size]?=some (.cells #[.slice none 0 0,.slice none 0 0,.slice none 0 0,.slice none 0 0,.slice none 0 0,.int .i64 0,.int .i64 (vn:Int),.int .i64 0,.int .i64 (fn:Int),.slice none 0 0] 63 (0,0)) by rw[kP];exact bq _ _);have hs5:W5.heap.size=w2.heap.size+1:=by rw[kP];simp
 obtain ⟨g,hg⟩:∃g,g=w2.heap.size:=⟨_,rfl⟩;rw[<-kP,<-hg];rw[<-hg] at mK;have hgw:w.heap.size<=g:=by omega
 have hg5:g<W5.heap.size:=by omega
 clear kP;have aDy:(0:Int)<=(P.length:Int):=zN _;rw[<-hg] at hs5;clear hg hd hd3 hd4;go_wp2_with fail;go_loopw[45] (fun i wr=>∃(j:Nat) (pv':Value),j<=P.length/\i= .int .i64 (j:Int)/\Below w.heap.size w wr/\W5.heap.size<=wr.heap.size/\wr.heap[g]?=some (.cells #[pv',.slice none 0 0,.slice none 0 0,.slice none 0 0,.slice none 0 0,.int .i64 0,.int .i64 (vn:Int),.int .i64 0,.int .i64 (fn:Int),.slice none 0 0] 63 (0,0))/\az wr W5.heap.size 71 6 TN (fun b=>W5.heap.size<=b) (P.take j) pv') (fun i _=>P.length - (intOf i).toNat);case atStart=>exact ⟨0,.slice none 0 0,dA _,rfl,bH.o,zL _,mK.o,az.nil ..⟩
 case round=>
  obtain ⟨j,pv',hj,rfl,hbw,rU,hbx,hown⟩:=hrel;have HB:=Y hbw;have HX:=Y hbx;have HO:=Y hown;have hj0:(0:Int)<=(j:Int):=zN _;have M9:=hbw.size;obtain ⟨va,vc,hvv,hvl,qg⟩:=az.kG hown;rw[dX,Je hj] at hvv hvl;subst hvv;unfold maxLen at qg;clear hbw hbx hown;by_cases hlt:j<P.length
  ·have hlt':(j:Int)<(P.length:Int):=by omega
   obtain ⟨axx,wJ⟩:=Ik.o (by omega);have dD:=Y (show P.take (j+1)=P.take j++[P[j]] from iq hlt);have Iy:=Y (BL.o.2 _ (bN hlt));have qm:=Y (show (P[j]).nodes<=1099511627776 by have :=aen (bN hlt);omega);subst axx;obtain ⟨a,ac,bd,bc,c0,c1,c2,c3,c4,c5,hcr⟩:=MV E8.o wJ (J.ob HB.o:J (fun b=>b<w.heap.size) w wr) hlt;generalize P[j]=c at*;have H6:=iW wr _ c0;simp only at H6;obtain ⟨W6,j3⟩:∃W6,W6=wr.alloc (.cells #[.int .i64 c.head.kind,.int .i64 c.head.n,.string c.head.s,.slice a c.head.args.length ac,.slice bd c.body.length bc,.int .i64 c.vars] 65):=⟨_,rfl⟩;obtain ⟨x1,hx1⟩:∃x,x=wr.heap.size:=⟨_,rfl⟩;have Dt:Below wr.heap.size wr W6:=by rw[j3];exact (Z _ _).alloc (zL _) _
   have kK:=Y (aA HX.o Dt);have Ym:=Y (show W6.heap[x1]?=some (.cells #[.int .i64 c.head.kind,.int .i64 c.head.n,.string c.head.s,.slice a c.head.args.length ac,.slice bd c.body.length bc,.int .i64 c.vars] 65 (0,0)) by rw[j3,hx1];exact bq _ _);have gz:=Y (HB.o.trans (Dt.mono M9));have Qa:=Y (HO.o.below tZ Dt);have Pp:=Dt.size;have oJ:=Y (aqH c qm.o W6 _ (Cl.ae.2.1 _ _ _ _ _ (Cl.ae.1 _ _ W6 _ _ hcr (J.ob (Dt.mono (by omega)))) (fun b hb _=>hb)));rw[show Ho c=(aB c,0) by rw[Ho,G Iy.o]] at oJ;have HW6:=Y j3;have mW:=Y hx1;clear j3 hx1 Dt hcr;go_wp2_with fail;rw[<-mW.o,<-HW6.o];refine (oJ.o).mono ?_;rintro e w7 ⟨r,rfl,qV,cv,gv,rfl,hcv,hgv⟩;simp only at hcv hgv;obtain ⟨nu,nz, -, -,rfl, -⟩:=ag.at hcv;obtain ⟨nA,nC,rfl, -⟩:=P9 hgv;have ve:=Y (aA kK.o qV);have HY7:=Y (aA Ym.o qV);have mZ:=Y (gz.o.trans (qV.mono (by omega)));have HO7:=Y (Qa.o.below tZ qV);have Oc:=qV.size;have HC7:=Y hcv;have HG7:=Y hgv;clear qV hcv hgv c0 c1 c2 c3 c4 c5;go_wp2_with fail;obtain ⟨x2,hx2⟩:∃x,x=w7.heap.size:=⟨_,rfl⟩;have kW:=Y (show Below w7.heap.size w7 (w7.alloc (.cells #[.slice nu (aB c).cells.length nz,.int .i64 (aB c).vars,.int .i64 (aB c).head,.slice nA (aB c).goals.length nC] 67)) from (Z _ _).alloc (zL _) _);have Vs:=Y (bq w7 (.cells #[.slice nu (aB c).cells.length nz,.int .i64 (aB c).vars,.int .i64 (aB c).head,.slice nA (aB c).goals.length nC] 67));rw[<-hx2] at Vs;have qY:=Y (aA ve.o kW.o);have HY8:=Y (aA HY7.o kW.o);have si:=Y (mZ.o.trans (kW.o.mono (by omega)));have HO8:=Y (HO7.o.below tZ kW.o);have HC8:=Y (ag.keeps Ce.ae HC7.o (J.ob kW.o));have HG8:=Y (ag.keeps aN HG7.o (J.ob kW.o));have SQ:=kW.o.size;rw[<-hx2];generalize w7.alloc (.cells #[.slice nu (aB c).cells.length nz,.int .i64 (aB c).vars,.int .i64 (aB c).head,.slice nA (aB c).goals.length nC] 67)=W8 at*;have aDz:x1≠g:=by have :=mW.o;omega
   have aDA:x2≠g:=by omega
   have aDB:wr.heap.size<=x2:=by omega
   have aDC:x1<W8.heap.size:=ax HY8.o;have agk:x2<W8.heap.size:=ax Vs.o;have aDD:wr.heap.size<=x1:=by rw[mW.o];exact zL _
   clear hx2;have HOWN:=Y (show ∀b,ownB (.slice va j vc)=some b->W5.heap.size<=b/\b<wr.heap.size from HO.o.lt);have axE:ownB (.slice va j vc)≠some x1:=fun e=>by have :=(HOWN.o _ e).2;omega
   have axF:ownB (.slice va j vc)≠some x2:=fun e=>by have :=(HOWN.o _ e).2;omega
   have axG:ownB (.slice va j vc)≠some g:=fun e=>by have :=(HOWN.o _ e).1;omega
   have Ae:W8.drew.heap[g]?=some (.cells #[.slice va j vc,.slice none 0 0,.slice none 0 0,.slice none 0 0,.slice none 0 0,.int .i64 0,.int .i64 (vn:Int),.int .i64 0,.int .i64 (fn:Int),.slice none 0 0] 63 (0,0)):=qY.o;have hYd:W8.drew.heap[x1]?=some (.cells #[.int .i64 c.head.kind,.int .i64 c.head.n,.string c.head.s,.slice a c.head.args.length ac,.slice bd c.body.length bc,.int .i64 c.vars] 65 (0,0)):=HY8.o;have yo:W8.drew.heap[x2]?=some (.cells #[.slice nu (aB c).cells.length nz,.int .i64 (aB c).vars,.int .i64 (aB c).head,.slice nA (aB c).goals.length nC] 67 (0,0)):=Vs.o;have LJ:=Y (show Below W8.heap.size W8 W8.drew from (Z _ _).drew);have HF:∀{k:Nat},(k=4->W8.drew.heap[g]?=some (.cells #[.slice va j vc,.slice none 0 0,.slice none 0 0,.slice none 0 0,.slice none 0 0,.int .i64 0,.int .i64 (vn:Int),.int .i64 0,.int .i64 (fn:Int),.slice none 0 0] 63 (0,0)))/\(k=7\/k=10->W8.drew.heap[x1]?=some (.cells #[.int .i64 c.head.kind,.int .i64 c.head.n,.string c.head.s,.slice a c.head.args.length ac,.slice bd c.body.length bc,.int .i64 c.vars] 65 (0,0)))/\(k=12->W8.drew.heap[x2]?=some (.cells #[.slice nu (aB c).cells.length nz,.int .i64 (aB c).vars,.int .i64 (aB c).head,.slice nA (aB c).goals.length nC] 67 (0,0))):=fun {k}=>⟨fun _=>Ae,fun _=>hYd,fun _=>yo⟩;refine jd (F:=fun k w'=>(k=4->w'.heap[g]?=some (.cells #[.slice va j vc,.slice none 0 0,.slice none 0 0,.slice none 0 0,.slice none 0 0,.int .i64 0,.int .i64 (vn:Int),.int .i64 0,.int .i64 (fn:Int),.slice none 0 0] 63 (0,0)))/\(k=7\/k=10->w'.heap[x1]?=some (.cells #[.int .i64 c.head.kind,.int .i64 c.head.n,.string c.head.s,.slice a c.head.args.length ac,.slice bd c.body.length bc,.int .i64 c.vars] 65 (0,0)))/\(k=12->w'.heap[x2]?=some (.cells #[.slice nu (aB c).cells.length nz,.int .i64 (aB c).vars,.int .i64 (aB c).head,.slice nA (aB c).goals.length nC] 67 (0,0)))) (by kernel_rfl) ?_;refine zT 0 HF ?_;try simp only[U]
   refine zT 1 HF ?_;try simp only[U]
   refine zT 2 HF ?_;try simp only[U]
   refine zT 3 HF ?_;try simp only[U]
   refine zY 4 HF ?_ (z:=by intro w' hw;obtain ⟨q0,q1,q2,q3,q4,q5,q6,q7,q8,q9,qf⟩:=bM (hw.1 rfl);clear hw;go_simp<;>with_reducible rfl);try simp only[U]
   refine zT 5 HF ?_;try simp only[U]
   refine zT 6 HF ?_;try simp only[U]
   refine zY 7 HF ?_ (z:=by intro w' hw;have q:=bY (hw.2.1 (.inl rfl)) 2;simp at q;clear hw;go_simp<;>with_reducible rfl);try simp only[U]
   refine zT 8 HF ?_;try simp only[U]
   refine zT 9 HF ?_;try simp only[U]
   refine zY 10 HF ?_ (z:=by intro w' hw;have q:=bY (hw.2.1 (.inr rfl)) 3;simp at q;clear hw;go_simp<;>with_reducible rfl);try simp only[U]
   refine zT 11 HF ?_;try simp only[U]
   refine zY (v:= .agg #[.slice nu (aB c).cells.length nz,.int .i64 (aB c).vars,.int .i64 (aB c).head,.slice nA (aB c).goals.length nC]) 12 HF ?_ (z:=by intro w' hw;obtain ⟨q0,q1,q2,q3,qf⟩:=aF (hw.2.2 rfl);clear hw;go_simp);try simp only[U]
   refine zY (v:= .agg #[.string c.head.s,.int .i64 (c.head.args.length:Int),.slice nu (aB c).cells.length nz,.int .i64 (aB c).vars,.int .i64 (aB c).head,.slice nA (aB c).goals.length nC]) 13 HF ?_ (z:=by intro w' hw;clear hw;go_simp);try simp only[U]
   refine zO 14 ?_;go_simp;have HA1:=Y (show Below W8.drew.heap.size W8.drew (W8.drew.alloc (.cells #[.string c.head.s,.int .i64 (c.head.args.length:Int),.slice nu (aB c).cells.length nz,.int .i64 (aB c).vars,.int .i64 (aB c).head,.slice nA (aB c).goals.length nC] 71)) from (Z _ _).alloc (zL _) _);refine ⟨fun _ _ h=>⟨fun e=>aA Ae HA1.o,fun e=>aA hYd HA1.o,fun e=>aA yo HA1.o⟩,?_⟩;try simp only[U]
   refine zO 15 ?_;refine uC (.tmp 58) (.tmp 68) 55 rfl W5.heap.size 71 6 88 axr tZ (A:=fun b=>W5.heap.size<=b) (.slice va j vc) (P.take j) rfl (HO8.o.below tZ LJ.o) c [.string c.head.s,.int .i64 (c.head.args.length:Int),.slice nu (aB c).cells.length nz,.int .i64 (aB c).vars,.int .i64 (aB c).head,.slice nA (aB c).goals.length nC] rfl rfl ⟨_,_,rfl,ag.mono Ce.ae (by omega) (ag.keeps Ce.ae HC8.o (J.ob LJ.o)) (fun b _ hb=>⟨by unfold New at hb;omega,fun e=>by have :=(HOWN.o _ e).2;unfold New at hb;omega⟩),ag.mono aN (by omega) (ag.keeps aN HG8.o (J.ob LJ.o)) (fun b _ hb=>⟨by unfold New at hb;omega,fun e=>by have :=(HOWN.o _ e).2;unfold New at hb;omega⟩)⟩ ⟨by rw[dX];omega,by show W5.heap.size<=W8.heap.size;omega⟩ ?_;intro v2 w9 hown2 aj;obtain ⟨aS,aT,hv2,kX,rO⟩:=az.kG hown2;rw[show (P.take j++[c]).length=j+1 by rw[bB,dX,dZ];omega] at hv2;subst hv2;have IA:=Y ((aj.grown.block g (by simp only[bO,dG];omega) (fun e=>axG e.symm)).trans (aA Ae HA1.o));have Yn:=Y ((aj.grown.block x1 (by simp only[bO,dG];omega) (fun e=>axE e.symm)).trans (aA hYd HA1.o));have HZ9:=Y ((aj.grown.block x2 (by simp only[bO,dG];omega) (fun e=>axF e.symm)).trans (aA yo HA1.o));have lX:=Y (aj.below ((si.o.drew).alloc (by simp only[dG];omega) _) (by simp only[bO,dG];omega) (fun k hk=>by have :=(HOWN.o k hk).1;omega));have O6:=aj.size;simp only[bO,dG] at O6;have LK:=Y hown2;refine ⟨fun _ _ _=>⟨fun e=>IA.o,fun e=>Yn.o,fun e=>HZ9.o⟩,?_⟩;try simp only[U]
   clear HF Ae hYd yo HA1 qY HY8 Vs hown2 aj;obtain ⟨b0,b1,b2,b3,b4,b5,b6,b7,b8,b9,bf⟩:=bM IA.o;have hg9:=ax IA.o;refine zT 16 ⟨fun h=>by omega,fun h=>by omega,fun h=>by omega⟩ ?_;try simp only[U]
   refine zT 17 ⟨fun h=>by omega,fun h=>by omega,fun h=>by omega⟩ ?_;try simp only[U]
   refine zO 18 ?_;go_simp;refine ⟨fun k' hk' _=>⟨fun h=>?_,fun h=>?_,fun h=>?_⟩,zQ ?_⟩;·subst h;exact absurd (hk'.symm.trans (by kernel_rfl):false=true) mO
   ·rcases h with h|h<;>subst h<;>exact absurd (hk'.symm.trans (by kernel_rfl):false=true) mO
   ·subst h;exact absurd (hk'.symm.trans (by kernel_rfl):false=true) mO
   try simp only[U]
   have aas:=Y (show (w9.setCell ⟨g,0,none⟩ (.slice aS (j+1) aT)).heap[g]?=some (.cells #[.slice aS (j+1) aT,.slice none 0 0,.slice none 0 0,.slice none 0 0,.slice none 0 0,.int .i64 0,.int .i64 (vn:Int),.int .i64 0,.int .i64 (fn:Int),.slice none 0 0] 63 (0,0)) from (aX IA.o 0 _).trans rfl);have axI:=Y (LK.o.keeps (B:=fun b=>b≠g) tZ (J.setCell _ w9 ⟨g,0,none⟩ (.slice aS (j+1) aT) (fun h=>h rfl)) (fun b hb=>by omega) (fun b hb=>by have :=(LK.o.lt b hb).1;omega));have x8:=Y (lX.o.setCell (p:=⟨g,0,none⟩) hgw (.slice aS (j+1) aT));have K7:W5.heap.size<=(w9.setCell ⟨g,0,none⟩ (.slice aS (j+1) aT)).heap.size:=by simp only[oL];omega
   clear b0 b1 b2 b3 b4 b5 b6 b7 b8 b9 bf;generalize w9.setCell ⟨g,0,none⟩ (.slice aS (j+1) aT)=w10 at*;go_wp2_with fail;go_roundw;case rel=>exact ⟨j+1,_,by omega,by go_num,x8.o,K7,aas.o,by rw[dD.o];exact axI.o⟩
   case measure=>simp[intOf];omega
  ·have bZ:(P.length:Int)<=(j:Int):=by omega
   have hjj:j=P.length:=by omega
   have cO:=HO.o;rw[kg (by omega)] at cO;have HOP:=Y cO;have HXP:=Y HX.o;rw[hjj] at HXP HOP;clear cO hjj HX HO;have HQC:=Y (HQY.o wr HB.o);rw[show Hm Q (vn:Int)=(bI Q (vn:Int),0) by rw[Hm,G IK.o]] at HQC;obtain ⟨f1,f2,f3⟩:=axq IK.o;have wR:=Y f1;have nk:=Y f2;have BH:=Y f3;clear f1 f2 f3;go_wp2_with fail;refine HQC.o.mono ?_;rintro e CV ⟨r,rfl,oh,cv,gv,rfl,hcv,hgv⟩;simp only at hcv hgv;obtain ⟨nu,nz, -, -,rfl, -⟩:=ag.at hcv;obtain ⟨nA,nC,rfl, -⟩:=P9 hgv;obtain ⟨yt,Vt⟩:∃W,W=CV.alloc (.cells #[.slice nu (bI Q (vn:Int)).cells.length nz,.int .i64 (bI Q (vn:Int)).vars,.int .i64 (bI Q (vn:Int)).head,.slice nA (bI Q (vn:Int)).goals.length nC] 67):=⟨_,rfl⟩;have hal:Below CV.heap.size CV yt:=by rw[Vt];exact (Z _ _).alloc (zL _) _
   obtain ⟨x3,hx3⟩:∃x,x=CV.heap.size:=⟨_,rfl⟩;have Qk:=oh.trans (hal.mono oh.size);have ak9:=Y (show yt.heap[x3]?=some (.cells #[.slice nu (bI Q (vn:Int)).cells.length nz,.int .i64 (bI Q (vn:Int)).vars,.int .i64 (bI Q (vn:Int)).head,.slice nA (bI Q (vn:Int)).goals.length nC] 67 (0,0)) by rw[Vt,hx3];exact bq _ _);have kM:=Y (aA HXP.o Qk);have aaD:=Y (HOP.o.below tZ Qk);have Gh:=Y (HB.o.trans (Qk.mono M9));have axJ:=Y (ag.keeps Ce.ae (ag.mono (A':=fun b=>W5.heap.size<=b) Ce.ae (by omega) hcv (fun b _ hb=>by unfold New at hb;omega)) (J.ob hal));have aaE:=Y (ag.keeps aN (ag.mono (A':=fun b=>W5.heap.size<=b) aN (by omega) hgv (fun b _ hb=>by unfold New at hb;omega)) (J.ob hal));have aDF:W5.heap.size<=yt.heap.size:=by have :=Qk.size;omega
   have axK:x3≠g:=by have :=oh.size;omega
   have aDG:W5.heap.size<=x3:=by have :=oh.size;omega
   have axL:=Y Vt;have axM:=Y hx3;clear hcv hgv oh hal Qk Vt hx3;go_wp2_with fail;rw[<-axM.o,<-axL.o];have aDH:x3<yt.heap.size:=ax ak9.o;have Ae:yt.drew.heap[g]?=some (.cells #[.slice va P.length vc,.slice none 0 0,.slice none 0 0,.slice none 0 0,.slice none 0 0,.int .i64 0,.int .i64 (vn:Int),.int .i64 0,.int .i64 (fn:Int),.slice none 0 0] 63 (0,0)):=kM.o;have yo:yt.drew.heap[x3]?=some (.cells #[.slice nu (bI Q (vn:Int)).cells.length nz,.int .i64 (bI Q (vn:Int)).vars,.int .i64 (bI Q (vn:Int)).head,.slice nA (bI Q (vn:Int)).goals.length nC] 67 (0,0)):=ak9.o;have LJ:=Y (show Below yt.heap.size yt yt.drew from (Z _ _).drew);have HF:∀{k:Nat},(k=5->yt.drew.heap[g]?=some (.cells #[.slice va P.length vc,.slice none 0 0,.slice none 0 0,.slice none 0 0,.slice none 0 0,.int .i64 0,.int .i64 (vn:Int),.int .i64 0,.int .i64 (fn:Int),.slice none 0 0] 63 (0,0)))/\(k=7->yt.drew.heap[x3]?=some (.cells #[.slice nu (bI Q (vn:Int)).cells.length nz,.int .i64 (bI Q (vn:Int)).vars,.int .i64 (bI Q (vn:Int)).head,.slice nA (bI Q (vn:Int)).goals.length nC] 67 (0,0))):=fun {k}=>⟨fun _=>Ae,fun _=>yo⟩;refine jd (F:=fun k w'=>(k=5->w'.heap[g]?=some (.cells #[.slice va P.length vc,.slice none 0 0,.slice none 0 0,.slice none 0 0,.slice none 0 0,.int .i64 0,.int .i64 (vn:Int),.int .i64 0,.int .i64 (fn:Int),.slice none 0 0] 63 (0,0)))/\(k=7->w'.heap[x3]?=some (.cells #[.slice nu (bI Q (vn:Int)).cells.length nz,.int .i64 (bI Q (vn:Int)).vars,.int .i64 (bI Q (vn:Int)).head,.slice nA (bI Q (vn:Int)).goals.length nC] 67 (0,0)))) (by kernel_rfl) ?_;refine zT 0 HF ?_;try simp only[U]
   refine zT 1 HF ?_;try simp only[U]
   refine zT 2 HF ?_;try simp only[U]
   refine zT 3 HF ?_;try simp only[U]
   refine zT 4 HF ?_;try simp only[U]
   refine zY (v:= .agg #[.slice none 0 0,.slice none 0 0]) 5 HF ?_ (z:=by intro w' hw;obtain ⟨q0,q1,q2,q3,q4,q5,q6,q7,q8,q9,qf⟩:=bM (hw.1 rfl);clear hw;go_simp);try simp only[U]
   refine zT 6 HF ?_;try simp only[U]
   refine zY 7 HF ?_ (z:=by intro w' hw;obtain ⟨q0,q1,q2,q3,qf⟩:=aF (hw.2 rfl);clear hw;go_simp<;>with_reducible rfl);try simp only[U]
   refine zO 8 ?_;go_simp;refine (XG ⟨[],[]⟩ (bI Q (vn:Int)).cells (fun b=>W5.heap.size<=b) yt.drew [.slice none 0 0,.slice none 0 0] _ ⟨_,_,rfl,ag.nil ..,ag.nil ..⟩ (ag.keeps Ce.ae axJ.o (J.ob LJ.o))).mono ?_;rintro e G9 ⟨r,rfl,Ql,us,rfl,rF⟩;obtain ⟨gH,hcc,nL,htc,rfl, -⟩:=Hp.nS rF;have Dl:=Y (aA Ae Ql);have acA:=Y (aA yo Ql);have acB:=Y (LJ.o.trans Ql);have ala:=Y (rF.mono (A':=fun b=>W5.heap.size<=b) (fun b _ h=>h.elim id (fun h=>by unfold New at h;simp only[dG] at h;omega)));have axN:=Ql.size;simp only[dG] at axN;clear Ql rF;refine ⟨fun _ _ _=>⟨fun e=>Dl.o,fun e=>acA.o⟩,?_⟩;try simp only[U]
   clear HF Ae yo;have HF:∀{k:Nat},(k=5->G9.heap[g]?=some (.cells #[.slice va P.length vc,.slice none 0 0,.slice none 0 0,.slice none 0 0,.slice none 0 0,.int .i64 0,.int .i64 (vn:Int),.int .i64 0,.int .i64 (fn:Int),.slice none 0 0] 63 (0,0)))/\(k=7->G9.heap[x3]?=some (.cells #[.slice nu (bI Q (vn:Int)).cells.length nz,.int .i64 (bI Q (vn:Int)).vars,.int .i64 (bI Q (vn:Int)).head,.slice nA (bI Q (vn:Int)).goals.length nC] 67 (0,0))):=fun {k}=>⟨fun _=>Dl.o,fun _=>acA.o⟩;rw[wR.o];refine zT 9 HF ?_;try simp only[U]
   refine zT 10 HF ?_;try simp only[U]
   refine zT 11 HF ?_;try simp only[U]
   refine zT 12 HF ?_;try simp only[U]
   refine zT 13 HF ?_;try simp only[U]
   refine zT 14 HF ?_;try simp only[U]
   obtain ⟨b0,b1,b2,b3,b4,b5,b6,b7,b8,b9,bf⟩:=bM Dl.o;have aDI:=ax Dl.o;have hcs:=bF;refine zO 15 ?_;go_simp;refine ⟨fun k' hk' _=>⟨fun h=>?_,fun h=>?_⟩,?_⟩;·subst h;exact absurd (hk'.symm.trans (by kernel_rfl):false=true) mO
   ·subst h;exact absurd (hk'.symm.trans (by kernel_rfl):false=true) mO
   try simp only[U]
   refine zT 16 ⟨fun h=>by omega,fun h=>by omega⟩ ?_;try simp only[U]
   refine zT 17 ⟨fun h=>by omega,fun h=>by omega⟩ ?_;try simp only[U]
   refine zO 18 ?_;go_simp;refine ⟨fun k' hk' _=>⟨fun h=>?_,fun h=>?_⟩,zQ ?_⟩;·subst h;exact absurd (hk'.symm.trans (by kernel_rfl):false=true) mO
   ·subst h;exact absurd (hk'.symm.trans (by kernel_rfl):false=true) mO
   try simp only[U]
   go_wp2_with fail;obtain ⟨L,hL⟩:∃L,L=gV ⟨[],[]⟩ (bI Q (vn:Int)).cells:=⟨_,rfl⟩;have HL:=Y hL;rw[<-hL] at ala;rw[<-hL];clear hL hcs b0 b1 b2 b3 b4 b5 b6 b7 b8 b9 bf HF;obtain ⟨pV,LP⟩:∃W,W=(((G9.setCell ⟨g,1,none⟩ (.slice gH L.1.cells.length hcc)).setCell ⟨g,2,none⟩ (.slice nL L.1.trail.length htc)).setCell ⟨g,7,none⟩ (.int .i64 0)):=⟨_,rfl⟩;rw[<-LP];have alb:pV.heap[g]?=some (.cells #[.slice va P.length vc,.slice gH L.1.cells.length hcc,.slice nL L.1.trail.length htc,.slice none 0 0,.slice none 0 0,.int .i64 0,.int .i64 (vn:Int),.int .i64 0,.int .i64 (fn:Int),.slice none 0 0] 63 (0,0)):=by rw[LP];exact (aX ((aX ((aX Dl.o 1 _).trans rfl) 2 _).trans rfl) 7 _).trans rfl
   have Qm:J (fun b=>b≠g) G9 pV:=by rw[LP];exact ((J.setCell _ G9 ⟨g,1,none⟩ _ (fun h=>h rfl)).trans (J.setCell _ _ ⟨g,2,none⟩ _ (fun h=>h rfl))).trans (J.setCell _ _ ⟨g,7,none⟩ _ (fun h=>h rfl))
   have Qn:=Y (show Below w.heap.size w pV by rw[LP];exact (((Gh.o.trans (acB.o.mono Gh.o.size)).setCell hgw _).setCell hgw _).setCell hgw _);have aDJ:pV.heap.size=G9.heap.size:=by rw[LP];simp
   have alc:=Y (show pV.heap[x3]?=some _ from bJ acA.o Qm axK);have acC:=aaD.o.below tZ acB.o;have ald:=Y (acC.keeps tZ Qm (fun b hb=>by omega) (fun b hb=>by have :=(acC.lt b hb).1;omega));have ale:=Y (ala.o.keeps (Qm.mono (fun b _ hb=>by omega)));have alf:=Y (ag.keeps aN (ag.keeps aN aaE.o (J.ob acB.o)) (Qm.mono (fun b _ hb=>by omega)));have Cz:=Y alb;clear alb Qm LP acC;have axO:g<pV.heap.size:=by omega
   have wU:=Y (show bS pV.heap.size P vn g (.slice va P.length vc) (.slice gH L.1.cells.length hcc) (.slice nL L.1.trail.length htc) ⟨.slice none 0 0,.slice none 0 0,.slice none 0 0⟩ ⟨L.1,[],[],0,0,fn,[]⟩ pV from { box:=Cz.o,prog:=ag.mono tZ (by omega) (az.sl tZ ald.o (by omega) (fun b hb=>hb)) (fun b hb h=>⟨hb,by omega⟩),heap:=ale.o.mono (fun b _ hb hm=>by rcases hm with hm|hm|hm|hm<;>first|omega|simp[ownB] at hm),goals:=I.nil,bC:=I.nil,out:=az.nil ..,bg:=⟨axO,zL _⟩,wI:=by unfold ah;simp only;omega,qb:=by unfold ah;simp only;omega,fu:=by show fn<=150;omega,qq:=by omega,gl:=by simp,cl:=by simp,ol:=by simp });have Dn:=Y (fun (W:World) (hb:Below pV.heap.size pV W)=>aab (base:=pV.heap.size) (P:=P) (q:=vn) (g:=g) (.slice nu (bI Q (vn:Int)).cells.length nz) (.slice nA (bI Q (vn:Int)).goals.length nC) (bI Q (vn:Int)).vars (bI Q (vn:Int)).head (bI Q (vn:Int)).goals 0 0 (-1) (ag.keeps aN (ag.mono (A':=fun b=>b<pV.heap.size/\b≠g) aN (by omega) alf.o (fun b hb h=>⟨hb,by omega⟩)) (J.ob hb|>.mono (fun b _ h=>h.1))) BH.o (by omega) (by omega) (by omega) (by unfold ah;omega) (by have :=nk.o;simp only[fT];omega) (wU.o.below hb));have Ae:pV.drew.heap[g]?=some (.cells #[.slice va P.length vc,.slice gH L.1.cells.length hcc,.slice nL L.1.trail.length htc,.slice none 0 0,.slice none 0 0,.int .i64 0,.int .i64 (vn:Int),.int .i64 0,.int .i64 (fn:Int),.slice none 0 0] 63 (0,0)):=Cz.o;have yo:pV.drew.heap[x3]?=some (.cells #[.slice nu (bI Q (vn:Int)).cells.length nz,.int .i64 (bI Q (vn:Int)).vars,.int .i64 (bI Q (vn:Int)).head,.slice nA (bI Q (vn:Int)).goals.length nC] 67 (0,0)):=alc.o;have aDK:x3<pV.drew.heap.size:=ax yo;have HF:∀{k:Nat},(k=6->pV.drew.heap[g]?=some (.cells #[.slice va P.length vc,.slice gH L.1.cells.length hcc,.slice nL L.1.trail.length htc,.slice none 0 0,.slice none 0 0,.int .i64 0,.int .i64 (vn:Int),.int .i64 0,.int .i64 (fn:Int),.slice none 0 0] 63 (0,0)))/\(k=2->pV.drew.heap[x3]?=some (.cells #[.slice nu (bI Q (vn:Int)).cells.length nz,.int .i64 (bI Q (vn:Int)).vars,.int .i64 (bI Q (vn:Int)).head,.slice nA (bI Q (vn:Int)).goals.length nC] 67 (0,0))):=fun {k}=>⟨fun _=>Ae,fun _=>yo⟩;refine jd (F:=fun k w'=>(k=6->w'.heap[g]?=some (.cells #[.slice va P.length vc,.slice gH L.1.cells.length hcc,.slice nL L.1.trail.length htc,.slice none 0 0,.slice none 0 0,.int .i64 0,.int .i64 (vn:Int),.int .i64 0,.int .i64 (fn:Int),.slice none 0 0] 63 (0,0)))/\(k=2->w'.heap[x3]?=some (.cells #[.slice nu (bI Q (vn:Int)).cells.length nz,.int .i64 (bI Q (vn:Int)).vars,.int .i64 (bI Q (vn:Int)).head,.slice nA (bI Q (vn:Int)).goals.length nC] 67 (0,0)))) (by kernel_rfl) ?_;refine zT 0 HF ?_;try simp only[U]
   refine zT 1 HF ?_;try simp only[U]
   refine zY (v:= .agg #[.slice nu (bI Q (vn:Int)).cells.length nz,.int .i64 (bI Q (vn:Int)).vars,.int .i64 (bI Q (vn:Int)).head,.slice nA (bI Q (vn:Int)).goals.length nC]) 2 HF ?_ (z:=by intro w' hw;obtain ⟨q0,q1,q2,q3,qf⟩:=aF (hw.2 rfl);clear hw;go_simp);try simp only[U]
   refine zT 3 HF ?_;try simp only[U]
   refine zT 4 HF ?_;try simp only[U]
   refine zT 5 HF ?_;try simp only[U]
   refine zY 6 HF ?_ (z:=by intro w' hw;obtain ⟨q0,q1,q2,q3,q4,q5,q6,q7,q8,q9,qf⟩:=bM (hw.1 rfl);clear hw;go_simp<;>with_reducible rfl);try simp only[U]
   refine zO 7 ?_;go_simp;refine (Dn.o pV.drew ((Z _ _).drew)).mono ?_;rintro e w15 ⟨rfl,aDL,aDM,o15,alg,alh,ali⟩;have FJ:=Y alg;have alj:=Y alh;have TC:=Y ali;clear alg alh ali;refine ⟨fun k' hk' _=>⟨fun h=>?_,fun h=>?_⟩,?_⟩;·subst h;exact absurd (hk'.symm.trans (by kernel_rfl):false=true) mO
   ·subst h;exact absurd (hk'.symm.trans (by kernel_rfl):false=true) mO
   try simp only[U]
   clear HF Ae yo;obtain ⟨b0,b1,b2,b3,b4,b5,b6,b7,b8,b9,bf⟩:=bM FJ.o.box;have aDO:=FJ.o.lt.1;refine zT 8 ⟨fun h=>by omega,fun h=>by omega⟩ ?_;try simp only[U]
   refine zT 9 ⟨fun h=>by omega,fun h=>by omega⟩ ?_;try simp only[U]
   refine zO 10 ?_;go_simp;refine ⟨fun k' hk' _=>⟨fun h=>?_,fun h=>?_⟩,zQ ?_⟩;·subst h;exact absurd (hk'.symm.trans (by kernel_rfl):false=true) mO
   ·subst h;exact absurd (hk'.symm.trans (by kernel_rfl):false=true) mO
   try simp only[U]
   clear b0 b1 b2 b3 b4 b5 b6 b7 b8 b9 bf;have K9:zg Q (vn:Int) fn=⟨L.1,(fe 0 0 (bI Q (vn:Int)).goals [] (-1)).1,[],(fe 0 0 (bI Q (vn:Int)).goals [] (-1)).2,0,fn,[]⟩:=by have :=wR.o;rw[<-HL.o] at this;unfold zg;simp only[<-HL.o,this]
   have wG:ah (fe 0 0 (bI Q (vn:Int)).goals [] (-1)).2:=by have h1:=Ui.o.pM.ni;obtain ⟨φ, -, -,h2⟩:=Ui.o.pM.cur;have h3:=h2.ge;rw[K9] at h1 h3;simp only at h1 h3;unfold ah;omega
   obtain ⟨hc16,aDP,o16,acD,alk,axQ⟩:=FJ.o.KA (m':=⟨L.1,(fe 0 0 (bI Q (vn:Int)).goals [] (-1)).1,[],(fe 0 0 (bI Q (vn:Int)).goals [] (-1)).2,0,fn,[]⟩) 5 (.int .i64 (fe 0 0 (bI Q (vn:Int)).goals [] (-1)).2) ⟨rfl,rfl,rfl,rfl⟩ ((aX FJ.o.box 5 _).trans rfl) wG FJ.o.qb FJ.o.fu;rw[<-K9] at acD;have alm:=Y acD;have aln:=Y (LH (wU.o.below ((Z _ _).drew)) Qn.o.drew alj.o hgw (by have :=Qn.o.size;omega));have axR:=Y (LH FJ.o aln.o alk hgw (by have :=Qn.o.size;omega));clear acD alk axQ wG K9;generalize w15.setCell ⟨g,5,none⟩ (.int .i64 (fe 0 0 (bI Q (vn:Int)).goals [] (-1)).2)=W16 at*;obtain ⟨base,hbase⟩:∃base,base=pV.heap.size:=⟨_,rfl⟩;have hbw:w.heap.size<=base:=by rw[hbase];exact Qn.o.size
   rw[<-hbase] at alm;obtain ⟨R,hR⟩:∃R,R=runM P vn (fn:Int) every (fn+14) (zg Q (vn:Int) fn):=⟨_,rfl⟩;have HR:=Y (show lD P Q (vn:Int) (fn:Int) every=(R.out,0) by rw[hR];exact HS.o);have IM:=Y (show BJ P vn (fn:Int) every R (zg Q (vn:Int) fn) from ⟨fn+14,_,_,Ui.o,qI _,by simp,by simp,hR.symm⟩);generalize zg Q (vn:Int) fn=m0 at*;clear hR hbase wU FJ alj TC aln Dn alf alc Cz ald ale Qn;go_wp2_with fail;go_loopw[19] (fun on wr=>∃(m:Mv) (hc ht:Value) (o:Mo),bS base P vn g (.slice va P.length vc) hc ht o m wr/\Below w.heap.size w wr/\((on= .bool false/\m=R)\/(on= .bool true/\BJ P vn (fn:Int) every R m))) (fun on wr=>BK on g wr);case atStart=>exact ⟨m0,_,_,_,alm.o,axR.o,.inr ⟨rfl,IM.o⟩⟩
   case round=>
    obtain ⟨m,hc,ht,o,hmv,hbl,hst⟩:=hrel;have HV:=Y hmv;have A7:=Y hbl;have hmu:=Y (Vr hmv);have Uz:=Y (fun (w':World) (hch:Ch (MM g o) wr w')=>LH hmv hbl hch hgw hbw);obtain ⟨gv,cv,ov⟩:=o;obtain ⟨-, -,ga,gc,ca,cc,oa,oc,ha,hac,hb,hbc, -,rfl,rfl,rfl,rfl,rfl, -, -, -, -, -, -,o1,o2⟩:=hmv.vals;obtain ⟨b0,b1,b2,b3,b4,b5,b6,b7,b8,b9,bf⟩:=bM hmv.box;simp only at b9;have awN:=hmv.lt.1;have hfu:=hmv.fu;unfold maxLen at o2;clear hmv hbl;rcases hst with ⟨rfl,hmR⟩|⟨rfl,hra⟩;·subst hmR;go_wp2_with fail;go_ret2;rw[HR.o];exact ⟨_,rfl,A7.o,(HV.o.out.mono (A':=fun _=>True) iL fun _ _ _=>trivial).sl iL (show m.out.length<=1048576 by have :=HV.o.ol;omega) (fun _ _=>trivial)⟩
    ·have HRN:=Y hra;obtain ⟨k1,k2,k3,k4,k5,k6⟩:=hra.few;clear hra;by_cases wG:m.now<0
     ·have HAN:=Y (avi HV.o BL.o k5 k6 k1 k2 k3);obtain ⟨r1,r2⟩:=HRN.o.answer BL.o wG;have HR1:=Y r1;have HR2:=Y r2;clear k1 k2 k3 k4 k5 k6 r1 r2;go_wp2_with fail;refine HAN.o.mono ?_;rintro e w9 ⟨rfl,Lx,LA,o9,uy,j5,wS⟩;have j6:=Y uy;have lX:=Y (Uz.o w9 j5);clear uy j5 wS HAN;generalize uU P vn m=r9 at*;obtain ⟨rr,m9⟩:=r9;have Qo:LF g w9=Ac m9:=Vr j6.o;cases rr with
       |next=>
        obtain ⟨q1,q2⟩:=HR1.o m9 rfl;have wP:=Y q1;have Qp:=Y q2;clear q1 q2;simp only[Bu];go_wp2_with fail;go_roundw;case rel=>exact ⟨m9,_,_,_,j6.o,lX.o,.inr ⟨rfl,wP.o⟩⟩
        case measure=>have h1:=Qp.o;have h2:=hmu.out;simp only[BK];rw[h2,Qo];omega
       |no=>
        have Af:=HR2.o _ m9 rfl (by simp);simp only[Bu];go_wp2_with fail;go_roundw;case rel=>exact ⟨m9,_,_,_,j6.o,lX.o,.inl ⟨rfl,Af⟩⟩
        case measure=>simp[BK]
       |off=>
        have Af:=HR2.o _ m9 rfl (by simp);simp only[Bu];go_wp2_with fail;go_roundw;case rel=>exact ⟨m9,_,_,_,j6.o,lX.o,.inl ⟨rfl,Af⟩⟩
        case measure=>simp[BK]
     ·have aDR:0<=m.now:=by omega
      have aDS:(0:Int)<=(m.fuel:Int):=zN _;have hwr:IntKind.i64.wrap ((fn:Int) - (m.fuel:Int))=(fn:Int) - (m.fuel:Int):=Gb _ (by omega);have hst:=Y (HRN.o.step BL.o wG);have Vu:=Y (awq HV.o k4);clear k1 k2 k3 k4 k5 k6;have HCM:=Y (show yn vn (fn:Int) every m=if every>0/\((fn:Int) - m.fuel)%every=0 then ze vn m else m from rfl);by_cases hev:0<every
      ·by_cases htm:Int.tmod ((fn:Int) - (m.fuel:Int)) every=0;case' _=>have Dx:=Y (HCM.o.trans (G ⟨hev,Int.emod_eq_zero_of_dvd (Int.dvd_of_tmod_eq_zero htm)⟩));go_wp2_with fail;refine Vu.o.mono ?_;rintro e w8 ⟨⟨r8,rfl⟩,hc8,ht8,o8,Fx,kQ,IG⟩;have wU:=Y Fx;have Qq:=Y (Uz.o w8 kQ);clear Fx kQ IG Vu b0 b1 b2 b3 b4 b5 b6 b7 b8 b9 bf;have Nw:=wU.o.lt.1;have gu:=hst.out;rw[Dx.o] at gu;obtain ⟨s1,s2,s3,s4,s5,s6⟩:=gu;have dN:=Y (abd wU.o BL.o s1 s2 s3 s4);have HR1:=Y s5;have HR2:=Y s6;clear s1 s2 s3 s4 s5 s6 hst;go_wp2_with fail;refine dN.o.mono ?_;rintro e w9 ⟨rfl,Lx,LA,o9,uy,j5,wS⟩;have j6:=Y uy;have lX:=Y (LH wU.o Qq.o j5 hgw hbw);clear uy j5 wS dN;generalize mH P (ze vn m)=r9 at*
       rotate_left;case' _=>have Dx:=Y (HCM.o.trans (O (fun h=>htm (Int.tmod_eq_zero_of_dvd (Int.dvd_of_emod_eq_zero h.2)))));have wU:=Y HV.o;have Qq:=Y A7.o;have gu:=hst.out;rw[Dx.o] at gu;obtain ⟨s1,s2,s3,s4,s5,s6⟩:=gu;have dN:=Y (abd wU.o BL.o s1 s2 s3 s4);have HR1:=Y s5;have HR2:=Y s6;clear s1 s2 s3 s4 s5 s6 hst Vu;go_wp2_with fail;refine dN.o.mono ?_;rintro e w9 ⟨rfl,Lx,LA,o9,uy,j5,wS⟩;have j6:=Y uy;have lX:=Y (LH wU.o Qq.o j5 hgw hbw);clear uy j5 wS dN;generalize mH P m=r9 at*
       rotate_left;all_goals
        obtain ⟨rr,m9⟩:=r9;have Qo:LF g w9=Ac m9:=Vr j6.o;cases rr with
         |next=>
          obtain ⟨q1,q2⟩:=HR1.o m9 rfl;have wP:=Y q1;have Qp:=Y q2;clear q1 q2;simp only[Bu];go_wp2_with fail;go_roundw;case rel=>exact ⟨m9,_,_,_,j6.o,lX.o,.inr ⟨rfl,wP.o⟩⟩
          case measure=>have h1:=Qp.o;have h2:=hmu.out;simp only[BK];rw[h2,Qo];omega
         |no=>
          have Af:=HR2.o _ m9 rfl (by simp);simp only[Bu];go_wp2_with fail;go_roundw;case rel=>exact ⟨m9,_,_,_,j6.o,lX.o,.inl ⟨rfl,Af⟩⟩
          case measure=>simp[BK]
         |off=>
          have Af:=HR2.o _ m9 rfl (by simp);simp only[Bu];go_wp2_with fail;go_roundw;case rel=>exact ⟨m9,_,_,_,j6.o,lX.o,.inl ⟨rfl,Af⟩⟩
          case measure=>simp[BK]
      ·have Dx:=Y (HCM.o.trans (O (fun h=>hev h.1)));have wU:=Y HV.o;have Qq:=Y A7.o;have gu:=hst.out;rw[Dx.o] at gu;obtain ⟨s1,s2,s3,s4,s5,s6⟩:=gu;have dN:=Y (abd wU.o BL.o s1 s2 s3 s4);have HR1:=Y s5;have HR2:=Y s6;clear s1 s2 s3 s4 s5 s6 hst Vu;go_wp2_with fail;refine dN.o.mono ?_;rintro e w9 ⟨rfl,Lx,LA,o9,uy,j5,wS⟩;have j6:=Y uy;have lX:=Y (LH wU.o Qq.o j5 hgw hbw);clear uy j5 wS dN;generalize mH P m=r9 at*;obtain ⟨rr,m9⟩:=r9;have Qo:LF g w9=Ac m9:=Vr j6.o;cases rr with
        |next=>
         obtain ⟨q1,q2⟩:=HR1.o m9 rfl;have wP:=Y q1;have Qp:=Y q2;clear q1 q2;simp only[Bu];go_wp2_with fail;go_roundw;case rel=>exact ⟨m9,_,_,_,j6.o,lX.o,.inr ⟨rfl,wP.o⟩⟩
         case measure=>have h1:=Qp.o;have h2:=hmu.out;simp only[BK];rw[h2,Qo];omega
        |no=>
         have Af:=HR2.o _ m9 rfl (by simp);simp only[Bu];go_wp2_with fail;go_roundw;case rel=>exact ⟨m9,_,_,_,j6.o,lX.o,.inl ⟨rfl,Af⟩⟩
         case measure=>simp[BK]
        |off=>
         have Af:=HR2.o _ m9 rfl (by simp);simp only[Bu];go_wp2_with fail;go_roundw;case rel=>exact ⟨m9,_,_,_,j6.o,lX.o,.inl ⟨rfl,Af⟩⟩
         case measure=>simp[BK]
theorem axT(ry:mR P<=1099511627776)(hnq:Tm.aC Q<=1099511627776)(hv:ah vars)(hf:ah fuel)(hei:ah every)(w:World)(pv qv:Value)(hpv:Ay (fun b=>b<w.heap.size) w P pv)(dP:iN (fun b=>b<w.heap.size) w Q qv):Calls Tryz.prog 8 #[pv,qv,.int .i64 vars,.int .i64 fuel,.int .i64 every] w (acv w (lD P Q vars fuel every)):=by
 rcases acw P Q vars fuel every with⟨h,_⟩|⟨_,h,_⟩|⟨⟨h1,h2⟩,h3,h4,h5,_⟩;·exact ak2 (.inl h) ry hnq hv hf w pv qv hpv dP
 ·exact ak2 (.inr h) ry hnq hv hf w pv qv hpv dP
 ·exact axs h1 h2 h3 h4 h5 hei ry hnq w pv qv hpv dP
end
