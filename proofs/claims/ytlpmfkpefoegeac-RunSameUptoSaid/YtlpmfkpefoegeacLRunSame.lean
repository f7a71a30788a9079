import Derived.Test.YtlpmfkpefoegeacQMach12
import Derived.Test.YtlpmfkpefoegeacPMEnd
import Derived.Test.YtlpmfkpefoegeacQCode
import Derived.Test.YtlpmfkpefoegeacQSolvesK
import Derived.Test.YtlpmfkpefoegeacQSolveZ
import Derived.Test.YtlpmfkpefoegeacQNamed
namespace Go.Proofs.Ytlpmfkpefoegeac
set_option maxRecDepth 100000
set_option maxHeartbeats 16000000
set_option linter.all false
section
variable {P : List Cl} {q : Nat} {m : Mv} {s : Sv}
theorem Zd1:∀(cs:List Cm)(m m':Mv),m.h=m'.h->m.goals=m'.goals->Zeq P cs m->Zeq P cs m'
 |[],m,m',_,_,h=>trivial
 |c::cs,m,m',e1,e2,h=>by
  obtain⟨h1,h2,h3,h4,h5⟩:=h;refine⟨by rw[<-e2];exact h1,h2,by rw[<-e1];exact h3,?_,Zd1 cs _ _ ?_ ?_ h5⟩;·unfold ZaK at h4 ⊢;rw[<-e1,<-e2];exact h4
  ·simp only[e1]
  ·exact e2
theorem Zfk:∀(cs:List Cm)(ds:List Chc)(m:Mv)(s:Sv),SvOk P {s with choices:=ds}->m.h.Good->ChsR m.h s.env s.vars q m.query m.goals cs ds->Zeq P cs m
 |[],ds,m,s,_,_,_=>trivial
 |_::_,[],m,s,_,_,h=>h.elim
 |c::cs,d::ds,m,s,hok,hg,hch=>by
  obtain⟨k,hle,hrest⟩:=hch;have hdo:=hok.chc d (by simp);have hpop:=hok.pop;have hpw:=(List.pairwise_cons.1 hok.trails).1;simp only at hdo hpop hpw;have hu:=Zji hg k.top k.tr k.good;have hlen:=Zcg (h:=m.h) c.top c.trail k.top;have hsnap:=k.snap;cases hg':d.g with
   |nil=>exact absurd hg' hdo.ne
   |cons g rest=>
    rw[hg']at hsnap;obtain⟨φ, -, -,kk,e1,hlt, -,hga, -⟩:=hsnap;have e2:kk=c.goal:=by omega
    subst e2;refine⟨hlt,by rw[k.from_];have :=hdo.lt;omega,by rw[hu];exact k.good,by rw[hu];exact hga.inb,?_⟩;rw[hu];refine Zfk cs ds {m with choices:=cs,h:=Zcu m.h c.top c.trail} {s with choices:=ds,env:=s.env.take d.trail} hpop k.good ?_;exact hrest.imp fun x y hx hy r=>by
     obtain⟨h1,h2⟩:=hle x hx;refine r.move (ZkZ h1 h2) (by rw[hlen];exact h1) ?_ ?_ ?_ (Int.le_refl _) (fun _ _=>rfl) (zL _);·show x.trail<=(m.h.trail.take c.trail).length;rw[List.length_take];have :=k.tr;omega
     ·rw[List.take_take,Nat.min_eq_left (hpw y hy)]
     ·rw[List.length_take];have :=hpw y hy;have :=r.dtr;omega
theorem Zle{gl:List Gl}(S:Sim P q m s gl):m.choices.length<=150/\m.goals.length<=5000:=by have h1:=S.sim.chc.len;have h2:=S.ok.few;have h3:=S.sim.gcnt;omega
theorem ZnM{gl:List Gl}(S:Sim P q m s gl):Zeq P m.choices m:=Zfk m.choices s.choices m s S.ok S.sim.good S.sim.chc
theorem ZhO{gl:List Gl}(S:Sim P q m s gl):∀v:Nat,v<q->I64 (m.query+(v:Nat)):=fun v hv=>by obtain⟨φ, -,hq, -⟩:=S.sim.cur;obtain⟨h0,h1⟩:=(hq v hv).1;have :=S.sim.good.2.2.1;unfold I64;omega
theorem Zlf{N:Int}{l:List Ce}{φ:Int->Int}{E:Env}{K:Int->Prop}{a:Int}{t:Tm}(h:Hr l φ E K a t):0<=look l a:=by obtain⟨x,hx⟩:=h.looks;rw[ZaN hx];exact hx.nonneg
theorem Zju{N:Int}{t:Tm}(h:t.In N)(hk:t.kind=2): -1099511627776<=t.n/\t.n<=1099511627776:=by cases h with|var=>cases hk|atom=>cases hk|int n h0 h1=>exact⟨h0,h1⟩|comp=>cases hk
theorem Zj4{N:Int}{t:Tm}(h:t.In N):t.args.length<=4:=by cases h with|var=>simp[Tm.args]|atom=>simp[Tm.args]|int=>simp[Tm.args]|comp _ _ _ _ _ h3=>exact h3
theorem Zmt{g:Gl}{rest:List Gl}(hP:GoodP P)(S:Sim P q m s (g::rest))(hqv:(q:Int)<=s.vars)(hout:s.out.length<=11)(hf:m.fuel≠0):StPre P m:=by
 obtain⟨hok,hgls,S⟩:=S;obtain⟨φ,hM,hq,kk,e1,hlt,hbar,hga,hnx,hch⟩:=S.cur;obtain rfl:kk=m.now.toNat:=by omega
 have hf':s.fuel≠0:=by rw[<-S.fuel];exact hf
 have hp:=Ze9 s.fuel s.choices hf';have hs1:SvOk P {s with fuel:=s.fuel - 1}:=by obtain⟨h1,h2,h3,h4,h5,h6,h7,h8⟩:=hok;rw[hp]at h6 h7;exact⟨h1,h2,h3,h4,h5,by simp only;omega,by simp only;omega,by simp only;omega⟩
 have hpV:=hok.potV;have hpE:=hok.potE;rw[hp]at hpE;have hsl:∀c:Nat,c+ZbG m.fuel m.out<=60000->c+300+ZbG (m.fuel - 1) m.out<=60000:=fun c h=>by unfold ZbG at h ⊢;omega
 have hsl2:∀c:Nat,c+300+ZbG m.fuel m.out<=60000->c+300+ZbG (m.fuel - 1) m.out<=60000:=fun c h=>by unfold ZbG at h ⊢;omega
 have hslg:m.goals.length+5+Zep (m.fuel - 1) m.out<=5000:=by have h:=S.gcnt;unfold Zep at h ⊢;omega
 have C:CallOk q {m with fuel:=m.fuel - 1} {s with fuel:=s.fuel - 1} m.now.toNat g rest:={good:=S.good,env:=hok.env,v0:=hok.vars0,v1:=by simp only;omega,qv:=hqv,gt:=(hgls g (by simp)).1,fuel:=by show m.fuel - 1=s.fuel - 1;rw[S.fuel],out:=S.out,tr:=S.tr,cur:=⟨φ,hM,hq,m.now.toNat,rfl,hlt,hbar,hga,by rw[<-e1];exact hnx,hch⟩,chc:=S.chc,pot:=hsl _ S.pot,pots:=fun c hc=>hsl2 _ (S.pots c hc),gcnt:=hslg};have hga':GoalAt s.vars m.h.cells φ s.env (ZaK m m.now.toNat).at_ g.t:=hga;have hkc:=Zgj hga';have htin:=hga'.tin;have hcl:=S.chc.len;have hfew:=hok.few;refine⟨by omega,hlt,S.good,hga'.inb,?_,?_,?_,?_,?_⟩;·rw[hga'.cell];exact zN _
 ·rw[hga'.cell];have :=Zj4 htin;simp only;omega
 ·intro hk n1 n2 n3 n4;have hk':=hkc.1 hk;rw[hga'.cell]at n1 n2 n3 n4;simp only at n1 n2 n3 n4;have h2:2<=g.t.args.length:=by
   rcases hk' with⟨_,h|h|h⟩|⟨h,_⟩|⟨h,_⟩;·exact absurd h n1
   ·exact absurd h n2
   ·exact absurd h n3
   ·omega
   ·omega
  have hne:g.t.args≠[]:=fun e=>by rw[e]at h2;simp at h2
  have ha:=Zcs hga' hne 0 (by omega);have hb:=Zcs hga' hne 1 (by omega);simp only[Int.natCast_zero,Int.add_zero]at ha;rw[show(ZaK m m.now.toNat).at_+1+((1:Nat):Int)=(ZaK m m.now.toNat).at_+2 by omega]at hb;refine⟨Zlf (N:=s.vars) ha,Zlf (N:=s.vars) hb,fun ka kb=>?_⟩;obtain⟨a1,a2⟩:=Zjj ha;obtain⟨c1,c2⟩:=Zjj hb;have g1:=Zju (ZaY hok.env (htin.arg (List.getElem_mem (show 0<g.t.args.length by omega)))) (a1.1 ka);have g2:=Zju (ZaY hok.env (htin.arg (List.getElem_mem (show 1<g.t.args.length by omega)))) (c1.1 kb);rw[a2 (a1.1 ka),c2 (c1.1 kb)];unfold I64;omega
 ·intro m' hk e;have hk':=hkc.1 hk;have hks:=ZhI (P:=P) C hk';have e1':ZaK {m with fuel:=m.fuel - 1} m.now.toNat=ZaK m m.now.toNat:=rfl;rw[e1',e]at hks;have hkf:=fun(r:Option Bool)(s':Sv)(e:Zbh g {s with fuel:=s.fuel - 1}=(r,s'))(hr:r≠none)=>Zdc hs1 (hgls g (by simp)).1 hk' (by simp only;omega) e hr;generalize Zbh g {s with fuel:=s.fuel - 1}=rs at*;obtain⟨rb,s'⟩:=rs;match rb,hks,hkf with|none,hks,_=>exact hks.elim|some true,hks,_=>exact hks.elim|some false,hks,hkf=>obtain⟨a1,a2,a3,a4⟩:=hkf (some false) s' rfl (by simp);have B:=hks a1;have b1:=B.chc.len;have b2:=a1.few;have b3:=B.gcnt;have b4:=B.out;refine⟨Zfk m'.choices s'.choices m' s' a1 B.good B.chc,by omega,by omega,by rw[b4,a3];show s.out.length+1<=20;omega⟩
 ·intro m' hk e;obtain rfl:=ZdG P.length 0 _ _ e;exact Zd1 _ m _ rfl rfl (Zfk m.choices s.choices m s hok S.good S.chc)
theorem Zne{gl:List Gl}(S:Sim P q m s gl):CoPre q m:=by
 have hquery:=ZhO S;obtain⟨hok,hgls,S⟩:=S;obtain⟨φ,hM,hq,hch⟩:=S.cur;have hst:∀n∈ZaO m,0<=n->Vis m.goals m.h.cells n.toNat:=by
  intro n hn h0;unfold ZaO at hn;rcases List.mem_append.1 hn with hn|hn;·obtain⟨c,hc,rfl⟩:=List.mem_map.1 hn;obtain⟨d,hd,k⟩:=S.chc.mem c (List.mem_reverse.1 hc);obtain⟨φ', -, -,k3⟩:=k.snap;refine Zdv (fun a ha=>?_) _ _ k3 h0;have :=Zcg (h:=m.h) c.top c.trail k.top;have :=k.top;unfold Inb at ha ⊢;omega
  ·simp only[List.mem_singleton]at hn;subst hn;exact Zdv (fun _ h=>h) _ _ hch h0
 have hgc:=S.gcnt;have hlow:∀n∈ZaO m, -1<=n:=by
  intro n hn;unfold ZaO at hn;rcases List.mem_append.1 hn with hn|hn;·obtain⟨c,hc,rfl⟩:=List.mem_map.1 hn;omega
  ·simp only[List.mem_singleton]at hn;subst hn;exact hch.ge.1
 have hgood:=S.good;have h65:=hgood.2.2.1;have htl:=hgood.2.2.2;obtain⟨-, -, -,hvv⟩:=ZfT (l:=m.h.cells) (ZaO m) [] hst (by simp) (by intro i hi;cases hi);have hri:∀r∈Zbf q m,Inb m.h.cells r:=by
  intro r hr;unfold Zbf at hr;rcases List.mem_append.1 hr with hr|hr;·obtain⟨v,hv,rfl⟩:=List.mem_map.1 hr;exact(hq v (List.mem_range.1 hv)).1
  ·obtain⟨i,hi,rfl⟩:=List.mem_map.1 hr;cases hvv i hi with|mk _ h1 h2=>exact h2
 refine⟨hst,fun n hn=>?_,hquery,fun _=>?_⟩
 ·by_cases h0:0<=n;·have :=(hst n hn h0).lt;unfold I64;omega
  ·have :=hlow n hn;unfold I64;omega
 ·rw[Zgm hgood hri];simp only[List.length_map,List.length_reverse];refine⟨trivial,trivial,trivial,fun x hx=>?_,fun x hx=>?_⟩;·obtain⟨y,hy,rfl⟩:=List.mem_map.1 hx;obtain⟨c,hc,rfl⟩:=List.mem_map.1 hy;obtain⟨d,hd,k⟩:=S.chc.mem c (List.mem_reverse.1 hc);have h1:=k.top;have h2:=Zgl (m:=marks m.h.cells (Zbf q m)) ((c.top:Int).toNat);unfold ahead;rw[Int.toNat_natCast]at h2 ⊢;omega
  ·obtain⟨y,hy,rfl⟩:=List.mem_map.1 hx;obtain⟨c,hc,rfl⟩:=List.mem_map.1 hy;obtain⟨d,hd,k⟩:=S.chc.mem c (List.mem_reverse.1 hc);have h1:=k.tr;have h2:=Zgl (m:=Zar (marks m.h.cells (Zbf q m)) m.h.trail) ((c.trail:Int).toNat);unfold ahead;rw[Int.toNat_natCast]at h2 ⊢;omega
end
def RunAt(P:List Cl)(q:Nat)(fuel every:Int)(R:Mv)(m:Mv):Prop:=∃(k:Nat)(s:Sv)(gl:List Gl),Sim P q m s gl/\(q:Int)<=s.vars/\s.out.length<=11/\s.fuel+13<=k+s.out.length/\ZjT P q fuel every k m=R
def muM(m:Mv):Nat:=m.fuel+13 - m.out.length
section
variable {P : List Cl} {q : Nat} {fuel every : Int} {R m : Mv}
theorem Ziw{s s':Sv}(e:ZaV q s=(true,s')):s'.fuel=s.fuel:=by
 unfold ZaV at e;split at e;·simp at e
 ·simp only at e;split at e;·simp at e
  ·simp only[Prod.mk.injEq,true_and]at e;subst e;rfl
theorem RunAt.few(h:RunAt P q fuel every R m):m.choices.length<900/\m.goals.length<=5900/\m.out.length+2<=20/\CoPre q m/\(∀e:Ev,Zeq P m.choices {m with out:=m.out++[e]})/\∀v:Nat,v<q->I64 (m.query+(v:Nat)):=by obtain⟨k,s,gl,S,hqv,hout,hk,hr⟩:=h;obtain⟨h1,h2⟩:=Zle S;refine⟨by omega,by omega,by rw[S.sim.out];omega,Zne S,fun e=>Zd1 _ m _ rfl rfl (ZnM S),ZhO S⟩
theorem RunAt.answer(hP:GoodP P)(h:RunAt P q fuel every R m)(hn:m.now<0):(∀m',ZbD P q m=(.next,m')->RunAt P q fuel every R m'/\muM m'<muM m)/\(∀r m',ZbD P q m=(r,m')->r≠ .next->m'=R):=by
 obtain⟨k,s,gl,S,hqv,hout,hk,hr⟩:=h;obtain⟨n,rfl⟩:∃n,k=n+1:=⟨k - 1,by omega⟩;cases gl with
  |cons g rest=>obtain⟨φ, -, -,kk,h, -⟩:=S.sim.cur;omega
  |nil=>
   have hA:=Zgk hP S hqv hout;have hok2:=fun s'(e:ZaV q s=(true,s'))=>ZfY S.ok e;have hat:=fun s'(e:ZaV q s=(true,s'))=>Ziw e;rw[ZjT,if_pos hn]at hr;have hmf:=S.sim.fuel;have hmo:=S.sim.out;refine⟨fun m' e=>?_,fun r m' e hne=>?_⟩;·rw[e]at hA hr;simp only at hr;cases ha:ZaV q s with|mk b s'=>rw[ha]at hA hok2 hat;cases b with|false=>exact hA.elim|true=>simp only at hA;obtain⟨a1,a2,a3,a4⟩:=hok2 s' rfl;have a5:=hat s' rfl;have hbn:=fun s'' gl(e:Zbj P s'.choices s'=(.next gl,s''))=>Zcj s'.choices s' s'' gl a1 e;generalize Zbj P s'.choices s'=rs at*;obtain⟨rb,s''⟩:=rs;cases rb with|next gl=>obtain⟨b1,b2,b3,b4,b5⟩:=hbn s'' gl rfl;have hA':Sim0 q m' s'' gl:=hA;have hf2:=hA'.fuel;have ho2:=hA'.out;refine⟨⟨n,s'',gl,⟨b1,b2,hA'⟩,by omega,by rw[b4];exact a3,by rw[b4];omega,hr⟩,?_⟩;unfold muM;rw[hf2,ho2,hmf,hmo,b4];omega|no=>exact hA.elim|off=>exact hA.elim
   ·rw[e]at hr;cases r with|next=>exact absurd rfl hne|no=>exact hr|off=>exact hr
noncomputable def Zj6(q:Nat)(fuel every:Int)(m:Mv):Mv:=if every>0/\(fuel - m.fuel)%every=0 then ZbQ q m else m
theorem RunAt.step(hP:GoodP P)(h:RunAt P q fuel every R m)(hn:¬m.now<0):((Zj6 q fuel every m).fuel≠0->StPre P (Zj6 q fuel every m))/\(Zj6 q fuel every m).choices.length<900/\(Zj6 q fuel every m).goals.length<=5900/\(Zj6 q fuel every m).out.length+1<=20/\(∀m',Zcr P (Zj6 q fuel every m)=(.next,m')->RunAt P q fuel every R m'/\muM m'<muM m)/\(∀r m',Zcr P (Zj6 q fuel every m)=(r,m')->r≠ .next->m'=R):=by
 obtain⟨k,s,gl,S,hqv,hout,hk,hr⟩:=h;obtain⟨n,rfl⟩:∃n,k=n+1:=⟨k - 1,by omega⟩;cases gl with
  |nil=>obtain⟨φ, -, -,h⟩:=S.sim.cur;have :m.now= -1:=h;omega
  |cons g rest=>
   have S2:Sim P q (Zj6 q fuel every m) s (g::rest):=by
    unfold Zj6;split;·exact ZfU S
    ·exact S
   rw[ZjT,if_neg hn]at hr;have hmf:=S.sim.fuel;have hmo:=S.sim.out;have hA:=Zjl hP S2 hqv;have hsn:=fun s' gl(e:ZbC P g rest s=(.next gl,s'))=>ZeC S.ok S.gls e;obtain⟨f1,f2⟩:=Zle S2;refine⟨fun hf=>Zmt hP S2 hqv hout hf,by omega,by omega,by rw[S2.sim.out];omega,fun m' e=>?_,fun r m' e hne=>?_⟩;·have e':=e;unfold Zj6 at e';rw[e']at hr;rw[e]at hA;simp only at hr;generalize ZbC P g rest s=rs at*;obtain⟨rb,s'⟩:=rs;cases rb with|next gl=>obtain⟨b1,b2,b3,b4,b5⟩:=hsn s' gl rfl;have hA':Sim0 q m' s' gl:=hA;have hf2:=hA'.fuel;have ho2:=hA'.out;refine⟨⟨n,s',gl,⟨b1,b2,hA'⟩,by omega,by rw[b4];exact hout,by rw[b4];omega,hr⟩,?_⟩;unfold muM;rw[hf2,ho2,hmf,hmo,b4];omega|no=>exact hA.elim|off=>exact hA.elim
   ·unfold Zj6 at e;rw[e]at hr;cases r with|next=>exact absurd rfl hne|no=>exact hr|off=>exact hr
end
end Go.Proofs.Ytlpmfkpefoegeac
namespace Go.Proofs.Ytlpmfkpefoegeac
set_option maxRecDepth 100000
set_option maxHeartbeats 16000000
set_option linter.all false
open Go.RowKit
def Zfl(w:World)(r:List Ev×Int)(e:Ending)(w':World):Prop:=∃ev,e= .returned (.tuple #[ev,.int .i64 r.2])/\Below w.heap.size w w'/\SlR 2 evR (fun _=>True) w' r.1 ev
theorem Zd2(P:List Cl)(Q:List Tm)(vars fuel every:Int):(¬(GoodP P/\ZbZ Q vars)/\Zew P Q vars fuel every=([],1))\/((GoodP P/\ZbZ Q vars)/\(fuel<0\/fuel>150\/every<0)/\Zew P Q vars fuel every=([],2))\/((GoodP P/\ZbZ Q vars)/\0<=fuel/\fuel<=150/\0<=every/\Zew P Q vars fuel every=((ZjT P vars.toNat fuel every (fuel.toNat+14) (Zdp Q vars fuel.toNat)).out,0)):=by
 unfold Zew;by_cases h:GoodP P/\ZbZ Q vars
 ·rw[if_neg (not_not_intro h)];by_cases h2:fuel<0\/fuel>150\/every<0;·rw[if_pos h2];exact .inr (.inl ⟨h,h2,rfl⟩)
  ·rw[if_neg h2];exact .inr (.inr ⟨h,by omega,by omega,by omega,rfl⟩)
 ·rw[if_pos h];exact .inl ⟨h,rfl⟩
section
variable {P : List Cl} {Q : List Tm} {vars fuel every : Int}
theorem Zjv(h0:¬(GoodP P/\ZbZ Q vars)\/(fuel<0\/fuel>150\/every<0))(hnp:Zby P<=1099511627776)(hnq:Tm.nodesL Q<=1099511627776)(hv:I64 vars)(hf:I64 fuel)(w:World)(pv qv:Value)(hpv:Zj5 (fun b=>b<w.heap.size) w P pv)(hqv:TmsR (fun b=>b<w.heap.size) w Q qv):Calls Try.prog 5 #[pv,qv,.int .i64 vars,.int .i64 fuel,.int .i64 every] w (Zfl w (Zew P Q vars fuel every)):=by
 have HGP:=zh (Zb2 P hnp _ w pv hpv);have HGQ:=zh (fun(w':World)(hb:Below w.heap.size w w')=>Zb6 Q vars hnq hv _ w' qv (SlR.keeps Tm.rep_lasts hqv (Keeps.ob hb)));have HV:=zh hv;have HS:=zh (Zd2 P Q vars fuel every);have H0:=zh h0;obtain⟨pa,pc, -, -,rfl, -⟩:=SlR.at hpv;obtain⟨qa,qc, -, -,rfl, -⟩:=SlR.at hqv;clear hpv hqv h0 hv;go_enter Try.func5,Try.ntmps5;go_wp2_with fail;refine(HGP.o).mono ?_;rintro e w1⟨v,rfl,hb1,b1,rfl,hgb1⟩;have HB1:=zh hb1;have HG1:=zh hgb1;clear hb1 hgb1;cases b1 with
  |false=>
   have HR:=zh (show Zew P Q vars fuel every=([],1)by
    rcases HS.o with⟨_,h⟩|⟨h,_⟩|⟨h,_⟩;·exact h
    ·have :=HG1.o.2 h.1;cases this
    ·have :=HG1.o.2 h.1;cases this);go_wp2_with fail;go_ret2;rw[HR.o];exact⟨_,rfl,HB1.o,SlR.nil ..⟩
  |true=>
   go_wp2_with fail;refine(HGQ.o w1 HB1.o).mono ?_;rintro e w2⟨v,rfl,hb2,b2,rfl,hgb2⟩;have HB2:=zh (HB1.o.trans (hb2.mono HB1.o.size));have HG2:=zh hgb2;clear hb2 hgb2;cases b2 with
    |false=>
     have HR:=zh (show Zew P Q vars fuel every=([],1)by
      rcases HS.o with⟨_,h⟩|⟨h,_⟩|⟨h,_⟩;·exact h
      ·have :=HG2.o.2 h.2;cases this
      ·have :=HG2.o.2 h.2;cases this);go_wp2_with fail;go_ret2;rw[HR.o];exact⟨_,rfl,HB2.o,SlR.nil ..⟩
    |true=>
     have hfb:fuel<0\/fuel>150\/every<0:=by
      rcases H0.o with h|h;·exact absurd ⟨HG1.o.1 (by simp),HG2.o.1 (by simp)⟩ h
      ·exact h
     have HR:=zh (show Zew P Q vars fuel every=([],2)by
      rcases HS.o with⟨h,_⟩|⟨_,_,h⟩|⟨_,h1,h2,h3,_⟩;·exact absurd ⟨HG1.o.1 (by simp),HG2.o.1 (by simp)⟩ h
      ·exact h
      ·omega);by_cases h1:fuel<0
     ·have hd:decide (fuel<0)=true:=by simpa using h1
      go_wp2_with fail;go_ret2;rw[HR.o];exact⟨_,rfl,HB2.o,SlR.nil ..⟩
     ·have hd:decide (fuel<0)=false:=by simpa using h1
      by_cases h2:(150:Int)<fuel
      ·have hd3:decide (150<fuel)=true:=by simpa using h2
       go_wp2_with fail;go_ret2;rw[HR.o];exact⟨_,rfl,HB2.o,SlR.nil ..⟩
      ·have hd3:decide (150<fuel)=false:=by simpa using h2
       have h3:every<0:=by omega
       have hd4:decide (every<0)=true:=by simpa using h3
       go_wp2_with fail;go_ret2;rw[HR.o];exact⟨_,rfl,HB2.o,SlR.nil ..⟩
theorem Zix{Q:List Tm}{n:Nat}(hQ:ZbZ Q (n:Int)):(Zbs ⟨[],[]⟩ (Zaz Q (n:Int)).cells).2.1=0/\(Zaz Q (n:Int)).goals.length<=5/\∀a∈(Zaz Q (n:Int)).goals,0<=a/\a<=1000000:=by
 obtain⟨F,hF⟩:∃F,F=(Zam (ZaM n) Q).1:=⟨_,rfl⟩;obtain⟨b1,b2,b3,b4,b5,b6⟩:=ZfZ hQ F hF;have hcells:(Zaz Q (n:Int)).cells=F:=by rw[hF];simp[Zaz]
 have hgoals:(Zaz Q (n:Int)).goals=(Zam (ZaM n) Q).2:=by simp[Zaz]
 have h0g:Hp.Good ⟨[],[]⟩:=⟨fun i hi=>by simp at hi,fun j hj=>by simp at hj,by simp,by simp⟩;have hld:=ZgT (h:=⟨[],[]⟩) (F:=F) h0g b3 (by simp only[List.length_nil];omega);have hlg:=Za2 Q (ZaM n);have h5:Q.length<=5:=hQ.2.2.1;rw[hcells,hgoals,hld];refine⟨by simp,by omega,fun a ha=>?_⟩;obtain⟨j,hj,rfl⟩:=List.mem_iff_getElem.1 ha;obtain⟨a,e1,e2,e3⟩:=b6 j (by omega);rw[List.getElem?_eq_getElem hj]at e1;simp only[Option.some.injEq]at e1;rw[e1];have :=(List.getElem?_eq_some_iff.1 e3).1;omega
def Znf(g:Nat)(w:World):Nat:=match w.cell? ⟨g,8,none⟩,w.cell? ⟨g,9,none⟩with|some (.int _ k),some (.slice _ n _)=>k.toNat+13 - n|_,_=>0
def ZeQ(on:Value)(g:Nat)(w:World):Nat:=match on with| .bool true=>Znf g w+1|_=>0
theorem Zf0{base:Nat}{q g:Nat}{pv hc ht:Value}{o:Mo}{m:Mv}{w:World}(h:MvI base P q g pv hc ht o m w):Znf g w=muM m:=by obtain⟨_,_,_,_,_,_,oa,oc,_,_,_,_,_,_,_,e,_⟩:=h.vals;obtain⟨-, -, -, -, -, -, -, -,b8,b9, -⟩:=ZaJ h.box;unfold Znf muM;rw[b8,b9,e];simp
theorem ZdJ{base:Nat}{q g:Nat}{pv hc ht:Value}{o:Mo}{m:Mv}{w wr w':World}(h:MvI base P q g pv hc ht o m wr)(hb:Below w.heap.size w wr)(hch:Ch (MM g o) wr w')(hg:w.heap.size<=g)(hbs:w.heap.size<=base):Below w.heap.size w w':=by have h1:Ch (MM g o) w w':=(Ch.of_below hb).trans hch (fun x h=> .inl h);refine h1.below fun k hk e=>?_;have :=(h.mm_lt k e).1;omega
theorem Zoe:ElemTy Try.prog 50 65 6 88:= .mk' (z:= .agg #[.string ByteArray.empty,.int .i64 0,.slice none 0 0,.int .i64 0,.int .i64 0,.slice none 0 0]) Try.underlying50 (by kernel_rfl) rfl (by omega) (by omega)
theorem Zlg (hgp:GoodP P) (hgq:ZbZ Q vars) (hf0:0<=fuel) (hf1:fuel<=150) (he0:0<=every) (hei:I64 every) (hnp:Zby P<=1099511627776) (hnq:Tm.nodesL Q<=1099511627776) (w:World) (pv qv:Value) (hpv:Zj5 (fun b=>b<w.heap.size) w P pv) (hqv:TmsR (fun b=>b<w.heap.size) w Q qv):Calls Try.prog 5 #[pv,qv,.int .i64 vars,.int .i64 fuel,.int .i64 every] w (Zfl w (Zew P Q vars fuel every)):=by
 have hv0:=hgq.1;have hv8:=hgq.2.1;have HGP:=zh (Zb2 P hnp _ w pv hpv);have HGQ:=zh (fun (w':World) (hb:Below w.heap.size w w')=>Zb6 Q vars hnq (by unfold I64;omega) _ w' qv (SlR.keeps Tm.rep_lasts hqv (Keeps.ob hb)));have HQY:=zh (fun (w':World) (hb:Below w.heap.size w w')=>Zl5 Q vars (by unfold I64;omega) hnq w' qv (SlR.mono Tm.rep_lasts (by omega) (SlR.keeps Tm.rep_lasts hqv (Keeps.ob hb)) (fun b hb' _=>hb')));obtain ⟨vn,rfl⟩:=Int.eq_ofNat_of_zero_le hv0;obtain ⟨fn,rfl⟩:=Int.eq_ofNat_of_zero_le hf0;have HS:=zh (show Zew P Q (vn:Int) (fn:Int) every=((ZjT P vn (fn:Int) every (fn+14) (Zdp Q (vn:Int) fn)).out,0) by
  rcases Zd2 P Q (vn:Int) (fn:Int) every with ⟨h,_⟩|⟨_,h,_⟩|⟨_,_,_,_,h⟩;·exact absurd ⟨hgp,hgq⟩ h
  ·omega
  ·exact h);have HBS:=zh (ZhM (f:=fn) hgp hgq (by omega));have HIP:=zh hgp;have HIQ:=zh hgq;have hp24:=hgp.1;obtain ⟨pa,pc,pb,poff,rfl,hpl1,hpl2,hpl3,hpa,hpe⟩:=SlR.at hpv;obtain ⟨qa,qc,qb,qoff,rfl,hql1,hql2,hql3, -⟩:=SlR.at hqv;have HPA:=zh hpa;have HPE:=zh hpe;unfold maxLen at hpl2 hql2;clear hpv hqv hgp hgq hpa hpe;go_enter Try.func5,Try.ntmps5;go_wp2_with fail;refine (HGP.o).mono ?_;rintro e w1 ⟨v,rfl,hb1,b1,rfl,hgb1⟩;obtain rfl:b1=true:=hgb1.2 HIP.o;have HB1:=zh hb1;clear hb1 hgb1;go_wp2_with fail;refine (HGQ.o w1 HB1.o).mono ?_;rintro e w2 ⟨v,rfl,hb2,b2,rfl,hgb2⟩;obtain rfl:b2=true:=hgb2.2 HIQ.o;have HB2:=zh (HB1.o.trans (hb2.mono HB1.o.size));clear hb2 hgb2;have hd:decide ((fn:Int)<0)=false:=by simp
 have hd3:decide (150<(fn:Int))=false:=by simp;omega
 have hd4:decide (every<0)=false:=by simp;omega
 have hz2:=HB2.o.size;go_wp2_with fail;obtain ⟨W5,hW5⟩:∃W5,W5=w2.alloc (.cells #[.slice none 0 0,.slice none 0 0,.slice none 0 0,.slice none 0 0,.slice none 0 0,.int .i64 0,.int .i64 (vn:Int),.int .i64 0,.int .i64 (fn:Int),.slice none 0 0] 57):=⟨_,rfl⟩;have HB5:=zh (show Below w.heap.size w W5 by rw[hW5];exact HB2.o.alloc hz2 _);have HX5:=zh (show W5.heap[w2.heap.size]?=some (.cells #[.slice none 0 0,.slice none 0 0,.slice none 0 0,.slice none 0 0,.slice none 0 0,.int .i64 0,.int .i64 (vn:Int),.int .i64 0,.int .i64 (fn:Int),.slice none 0 0] 57 (0,0)) by rw[hW5];exact Zao _ _);have hs5:W5.heap.size=w2.heap.size+1:=by rw[hW5];simp
 obtain ⟨g,hg⟩:∃g,g=w2.heap.size:=⟨_,rfl⟩;rw[<-hW5,<-hg];rw[<-hg] at HX5;have hgw:w.heap.size<=g:=by omega
 have hg5:g<W5.heap.size:=by omega
 clear hW5;have hpl0:(0:Int)<=(P.length:Int):=zN _;rw[<-hg] at hs5;clear hg hd hd3 hd4;go_wp2_with fail;go_loopw[45] (fun i wr=>∃(j:Nat) (pv':Value),j<=P.length/\i= .int .i64 (j:Int)/\Below w.heap.size w wr/\W5.heap.size<=wr.heap.size/\wr.heap[g]?=some (.cells #[pv',.slice none 0 0,.slice none 0 0,.slice none 0 0,.slice none 0 0,.int .i64 0,.int .i64 (vn:Int),.int .i64 0,.int .i64 (fn:Int),.slice none 0 0] 57 (0,0))/\OwnR wr W5.heap.size 65 6 McR (fun b=>W5.heap.size<=b) (P.take j) pv') (fun i _=>P.length - (intOf i).toNat);case atStart=>exact ⟨0,.slice none 0 0,Nat.zero_le _,rfl,HB5.o,zL _,HX5.o,OwnR.nil ..⟩
 case round=>
  obtain ⟨j,pv',hj,rfl,hbw,hz5,hbx,hown⟩:=hrel;have HB:=zh hbw;have HX:=zh hbx;have HO:=zh hown;have hj0:(0:Int)<=(j:Int):=zN _;have hzw:=hbw.size;obtain ⟨va,vc,hvv,hvl,hvm⟩:=OwnR.val' hown;rw[List.length_take,Nat.min_eq_left hj] at hvv hvl;subst hvv;unfold maxLen at hvm;clear hbw hbx hown;by_cases hlt:j<P.length
  ·have hlt':(j:Int)<(P.length:Int):=by omega
   obtain ⟨hpa1,hpA⟩:=HPA.o (by omega);have HTK:=zh (show P.take (j+1)=P.take j++[P[j]] from List.take_succ_eq_append_getElem hlt);have HCG:=zh (HIP.o.2 _ (List.getElem_mem hlt));have HCN:=zh (show (P[j]).nodes<=1099511627776 by have :=ZeS (List.getElem_mem hlt);omega);subst hpa1;obtain ⟨a,ac,bd,bc,c0,c1,c2,c3,c4,c5,hcr⟩:=Zd8 HPE.o hpA (Keeps.ob HB.o:Keeps (fun b=>b<w.heap.size) w wr) hlt;generalize P[j]=c at*;have hpbl:=World.block_lt_of_cell? wr _ c0;simp only at hpbl;obtain ⟨W6,hW6⟩:∃W6,W6=wr.alloc (.cells #[.int .i64 c.head.kind,.int .i64 c.head.n,.string c.head.s,.slice a c.head.args.length ac,.slice bd c.body.length bc,.int .i64 c.vars] 59):=⟨_,rfl⟩;obtain ⟨x1,hx1⟩:∃x,x=wr.heap.size:=⟨_,rfl⟩;have hg6:Below wr.heap.size wr W6:=by rw[hW6];exact (zB _ _).alloc (zL _) _
   have HX6:=zh (Zac HX.o hg6);have HY6:=zh (show W6.heap[x1]?=some (.cells #[.int .i64 c.head.kind,.int .i64 c.head.n,.string c.head.s,.slice a c.head.args.length ac,.slice bd c.body.length bc,.int .i64 c.vars] 59 (0,0)) by rw[hW6,hx1];exact Zao _ _);have HB6:=zh (HB.o.trans (hg6.mono hzw));have HO6:=zh (HO.o.below Za3 hg6);have hz6:=hg6.size;have HCA:=zh (ZkO c HCN.o W6 _ (Cl.rep_lasts.2.1 _ _ _ _ _ (Cl.rep_lasts.1 _ _ W6 _ _ hcr (Keeps.ob (hg6.mono (by omega)))) (fun b hb _=>hb)));rw[show ZdY c=(Zah c,0) by rw[ZdY,if_pos HCG.o]] at HCA;have HW6:=zh hW6;have HXE:=zh hx1;clear hW6 hx1 hg6 hcr;go_wp2_with fail;rw[<-HXE.o,<-HW6.o];refine (HCA.o).mono ?_;rintro e w7 ⟨r,rfl,hb7,cv,gv,rfl,hcv,hgv⟩;simp only at hcv hgv;obtain ⟨cva,cvc, -, -,rfl, -⟩:=SlR.at hcv;obtain ⟨gva,gvc,rfl, -⟩:=Zeu hgv;have HX7:=zh (Zac HX6.o hb7);have HY7:=zh (Zac HY6.o hb7);have HB7:=zh (HB6.o.trans (hb7.mono (by omega)));have HO7:=zh (HO6.o.below Za3 hb7);have hz7:=hb7.size;have HC7:=zh hcv;have HG7:=zh hgv;clear hb7 hcv hgv c0 c1 c2 c3 c4 c5;go_wp2_with fail;obtain ⟨x2,hx2⟩:∃x,x=w7.heap.size:=⟨_,rfl⟩;have HAL:=zh (show Below w7.heap.size w7 (w7.alloc (.cells #[.slice cva (Zah c).cells.length cvc,.int .i64 (Zah c).vars,.int .i64 (Zah c).head,.slice gva (Zah c).goals.length gvc] 61)) from (zB _ _).alloc (zL _) _);have HZ8:=zh (Zao w7 (.cells #[.slice cva (Zah c).cells.length cvc,.int .i64 (Zah c).vars,.int .i64 (Zah c).head,.slice gva (Zah c).goals.length gvc] 61));rw[<-hx2] at HZ8;have HX8:=zh (Zac HX7.o HAL.o);have HY8:=zh (Zac HY7.o HAL.o);have HB8:=zh (HB7.o.trans (HAL.o.mono (by omega)));have HO8:=zh (HO7.o.below Za3 HAL.o);have HC8:=zh (SlR.keeps Ce.rep_lasts HC7.o (Keeps.ob HAL.o));have HG8:=zh (SlR.keeps Zae HG7.o (Keeps.ob HAL.o));have hz8:=HAL.o.size;rw[<-hx2];generalize w7.alloc (.cells #[.slice cva (Zah c).cells.length cvc,.int .i64 (Zah c).vars,.int .i64 (Zah c).head,.slice gva (Zah c).goals.length gvc] 61)=W8 at*;have hxg1:x1≠g:=by have :=HXE.o;omega
   have hxg2:x2≠g:=by omega
   have hx2w:wr.heap.size<=x2:=by omega
   have hx1l:x1<W8.heap.size:=Zag HY8.o;have hx2l:x2<W8.heap.size:=Zag HZ8.o;have hx1w:wr.heap.size<=x1:=by rw[HXE.o];exact zL _
   clear hx2;have HOWN:=zh (show ∀b,Zai (.slice va j vc)=some b->W5.heap.size<=b/\b<wr.heap.size from HO.o.lt);have hon1:Zai (.slice va j vc)≠some x1:=fun e=>by have :=(HOWN.o _ e).2;omega
   have hon2:Zai (.slice va j vc)≠some x2:=fun e=>by have :=(HOWN.o _ e).2;omega
   have hong:Zai (.slice va j vc)≠some g:=fun e=>by have :=(HOWN.o _ e).1;omega
   have hXd:W8.drew.heap[g]?=some (.cells #[.slice va j vc,.slice none 0 0,.slice none 0 0,.slice none 0 0,.slice none 0 0,.int .i64 0,.int .i64 (vn:Int),.int .i64 0,.int .i64 (fn:Int),.slice none 0 0] 57 (0,0)):=HX8.o;have hYd:W8.drew.heap[x1]?=some (.cells #[.int .i64 c.head.kind,.int .i64 c.head.n,.string c.head.s,.slice a c.head.args.length ac,.slice bd c.body.length bc,.int .i64 c.vars] 59 (0,0)):=HY8.o;have hZd:W8.drew.heap[x2]?=some (.cells #[.slice cva (Zah c).cells.length cvc,.int .i64 (Zah c).vars,.int .i64 (Zah c).head,.slice gva (Zah c).goals.length gvc] 61 (0,0)):=HZ8.o;have HBdr:=zh (show Below W8.heap.size W8 W8.drew from (zB _ _).drew);have HF:∀{k:Nat},(k=4->W8.drew.heap[g]?=some (.cells #[.slice va j vc,.slice none 0 0,.slice none 0 0,.slice none 0 0,.slice none 0 0,.int .i64 0,.int .i64 (vn:Int),.int .i64 0,.int .i64 (fn:Int),.slice none 0 0] 57 (0,0)))/\(k=7\/k=10->W8.drew.heap[x1]?=some (.cells #[.int .i64 c.head.kind,.int .i64 c.head.n,.string c.head.s,.slice a c.head.args.length ac,.slice bd c.body.length bc,.int .i64 c.vars] 59 (0,0)))/\(k=12->W8.drew.heap[x2]?=some (.cells #[.slice cva (Zah c).cells.length cvc,.int .i64 (Zah c).vars,.int .i64 (Zah c).head,.slice gva (Zah c).goals.length gvc] 61 (0,0))):=fun {k}=>⟨fun _=>hXd,fun _=>hYd,fun _=>hZd⟩;refine Zav (F:=fun k w'=>(k=4->w'.heap[g]?=some (.cells #[.slice va j vc,.slice none 0 0,.slice none 0 0,.slice none 0 0,.slice none 0 0,.int .i64 0,.int .i64 (vn:Int),.int .i64 0,.int .i64 (fn:Int),.slice none 0 0] 57 (0,0)))/\(k=7\/k=10->w'.heap[x1]?=some (.cells #[.int .i64 c.head.kind,.int .i64 c.head.n,.string c.head.s,.slice a c.head.args.length ac,.slice bd c.body.length bc,.int .i64 c.vars] 59 (0,0)))/\(k=12->w'.heap[x2]?=some (.cells #[.slice cva (Zah c).cells.length cvc,.int .i64 (Zah c).vars,.int .i64 (Zah c).head,.slice gva (Zah c).goals.length gvc] 61 (0,0)))) (by kernel_rfl) ?_;refine zT 0 HF ?_;try simp only[zP]
   refine zT 1 HF ?_;try simp only[zP]
   refine zT 2 HF ?_;try simp only[zP]
   refine zT 3 HF ?_;try simp only[zP]
   refine ZaE (i:=4) (v:=?_) rfl (Or.inl ⟨by rfl,?_⟩) HF ?_;rotate_left;·(intro w' hw;obtain ⟨q0,q1,q2,q3,q4,q5,q6,q7,q8,q9,qf⟩:=ZaJ (hw.1 rfl);clear hw;go_simp<;>with_reducible rfl)
   try simp only[zP]
   refine zT 5 HF ?_;try simp only[zP]
   refine zT 6 HF ?_;try simp only[zP]
   refine ZaE (i:=7) (v:=?_) rfl (Or.inl ⟨by rfl,?_⟩) HF ?_;rotate_left;·(intro w' hw;have q:=Zax (hw.2.1 (.inl rfl)) 2;simp at q;clear hw;go_simp<;>with_reducible rfl)
   try simp only[zP]
   refine zT 8 HF ?_;try simp only[zP]
   refine zT 9 HF ?_;try simp only[zP]
   refine ZaE (i:=10) (v:=?_) rfl (Or.inl ⟨by rfl,?_⟩) HF ?_;rotate_left;·(intro w' hw;have q:=Zax (hw.2.1 (.inr rfl)) 3;simp at q;clear hw;go_simp<;>with_reducible rfl)
   try simp only[zP]
   refine zT 11 HF ?_;try simp only[zP]
   refine ZaE (i:=12) (v:= .agg #[.slice cva (Zah c).cells.length cvc,.int .i64 (Zah c).vars,.int .i64 (Zah c).head,.slice gva (Zah c).goals.length gvc]) rfl (Or.inl ⟨by rfl,?_⟩) HF ?_;·(intro w' hw;obtain ⟨q0,q1,q2,q3,qf⟩:=Za0 (hw.2.2 rfl);clear hw;go_simp)
   try simp only[zP]
   refine ZaE (i:=13) (v:= .agg #[.string c.head.s,.int .i64 (c.head.args.length:Int),.slice cva (Zah c).cells.length cvc,.int .i64 (Zah c).vars,.int .i64 (Zah c).head,.slice gva (Zah c).goals.length gvc]) rfl (Or.inl ⟨by rfl,?_⟩) HF ?_;·(intro w' hw;clear hw;go_simp)
   try simp only[zP]
   refine Zab (i:=14) (by kernel_rfl) (Zad rfl (by rfl) ?_);go_simp;have HA1:=zh (show Below W8.drew.heap.size W8.drew (W8.drew.alloc (.cells #[.string c.head.s,.int .i64 (c.head.args.length:Int),.slice cva (Zah c).cells.length cvc,.int .i64 (Zah c).vars,.int .i64 (Zah c).head,.slice gva (Zah c).goals.length gvc] 65)) from (zB _ _).alloc (zL _) _);refine ⟨fun _ _ h=>⟨fun e=>Zac hXd HA1.o,fun e=>Zac hYd HA1.o,fun e=>Zac hZd HA1.o⟩,?_⟩;try simp only[zP]
   refine Zab (i:=15) (by kernel_rfl) (Zad rfl (by rfl) ?_);refine ZbI (.tmp 58) (.tmp 68) 50 rfl W5.heap.size 65 6 88 Zoe Za3 (A:=fun b=>W5.heap.size<=b) (.slice va j vc) (P.take j) rfl (HO8.o.below Za3 HBdr.o) c [.string c.head.s,.int .i64 (c.head.args.length:Int),.slice cva (Zah c).cells.length cvc,.int .i64 (Zah c).vars,.int .i64 (Zah c).head,.slice gva (Zah c).goals.length gvc] rfl rfl ⟨_,_,rfl,SlR.mono Ce.rep_lasts (by omega) (SlR.keeps Ce.rep_lasts HC8.o (Keeps.ob HBdr.o)) (fun b _ hb=>⟨by unfold New at hb;omega,fun e=>by have :=(HOWN.o _ e).2;unfold New at hb;omega⟩),SlR.mono Zae (by omega) (SlR.keeps Zae HG8.o (Keeps.ob HBdr.o)) (fun b _ hb=>⟨by unfold New at hb;omega,fun e=>by have :=(HOWN.o _ e).2;unfold New at hb;omega⟩)⟩ ⟨by rw[List.length_take];omega,by show W5.heap.size<=W8.heap.size;omega⟩ ?_;intro v2 w9 hown2 hgrew;obtain ⟨va2,vc2,hv2,hvl2,hvm2⟩:=OwnR.val' hown2;rw[show (P.take j++[c]).length=j+1 by rw[List.length_append,List.length_take,List.length_singleton];omega] at hv2;subst hv2;have HX9:=zh ((hgrew.grown.block g (by simp only[World.size_alloc,World.size_drew];omega) (fun e=>hong e.symm)).trans (Zac hXd HA1.o));have HY9:=zh ((hgrew.grown.block x1 (by simp only[World.size_alloc,World.size_drew];omega) (fun e=>hon1 e.symm)).trans (Zac hYd HA1.o));have HZ9:=zh ((hgrew.grown.block x2 (by simp only[World.size_alloc,World.size_drew];omega) (fun e=>hon2 e.symm)).trans (Zac hZd HA1.o));have HB9:=zh (hgrew.below ((HB8.o.drew).alloc (by simp only[World.size_drew];omega) _) (by simp only[World.size_alloc,World.size_drew];omega) (fun k hk=>by have :=(HOWN.o k hk).1;omega));have hz9:=hgrew.size;simp only[World.size_alloc,World.size_drew] at hz9;have HO9:=zh hown2;refine ⟨fun _ _ _=>⟨fun e=>HX9.o,fun e=>HY9.o,fun e=>HZ9.o⟩,?_⟩;try simp only[zP]
   clear HF hXd hYd hZd HA1 HX8 HY8 HZ8 hown2 hgrew;obtain ⟨b0,b1,b2,b3,b4,b5,b6,b7,b8,b9,bf⟩:=ZaJ HX9.o;have hg9:=Zag HX9.o;refine ZaE (i:=16) (v:=?_) rfl (Or.inl ⟨by rfl,?_⟩) ⟨fun h=>by omega,fun h=>by omega,fun h=>by omega⟩ ?_;rotate_left;·(intro w' hw;clear hw;go_simp<;>with_reducible rfl)
   try simp only[zP]
   refine ZaE (i:=17) (v:=?_) rfl (Or.inl ⟨by rfl,?_⟩) ⟨fun h=>by omega,fun h=>by omega,fun h=>by omega⟩ ?_;rotate_left;·(intro w' hw;clear hw;go_simp<;>with_reducible rfl)
   try simp only[zP]
   refine Zab (i:=18) (by kernel_rfl) (Zad rfl (by rfl) ?_);go_simp;refine ⟨fun k' hk' _=>⟨fun h=>?_,fun h=>?_,fun h=>?_⟩,Zan (by kernel_rfl) ?_ _⟩;·subst h;exact absurd (hk'.symm.trans (by kernel_rfl):false=true) Bool.false_ne_true
   ·rcases h with h|h<;>subst h<;>exact absurd (hk'.symm.trans (by kernel_rfl):false=true) Bool.false_ne_true
   ·subst h;exact absurd (hk'.symm.trans (by kernel_rfl):false=true) Bool.false_ne_true
   try simp only[zP]
   have HX10:=zh (show (w9.setCell ⟨g,0,none⟩ (.slice va2 (j+1) vc2)).heap[g]?=some (.cells #[.slice va2 (j+1) vc2,.slice none 0 0,.slice none 0 0,.slice none 0 0,.slice none 0 0,.int .i64 0,.int .i64 (vn:Int),.int .i64 0,.int .i64 (fn:Int),.slice none 0 0] 57 (0,0)) from (Zal HX9.o 0 _).trans rfl);have HO10:=zh (HO9.o.keeps (B:=fun b=>b≠g) Za3 (Keeps.setCell _ w9 ⟨g,0,none⟩ (.slice va2 (j+1) vc2) (fun h=>h rfl)) (fun b hb=>by omega) (fun b hb=>by have :=(HO9.o.lt b hb).1;omega));have HB10:=zh (HB9.o.setCell (p:=⟨g,0,none⟩) hgw (.slice va2 (j+1) vc2));have hz10:W5.heap.size<=(w9.setCell ⟨g,0,none⟩ (.slice va2 (j+1) vc2)).heap.size:=by simp only[World.size_setCell];omega
   clear b0 b1 b2 b3 b4 b5 b6 b7 b8 b9 bf;generalize w9.setCell ⟨g,0,none⟩ (.slice va2 (j+1) vc2)=w10 at*;go_wp2_with fail;go_roundw;case rel=>exact ⟨j+1,_,by omega,by go_num,HB10.o,hz10,HX10.o,by rw[HTK.o];exact HO10.o⟩
   case measure=>simp[intOf];omega
  ·have hje:(P.length:Int)<=(j:Int):=by omega
   have hjj:j=P.length:=by omega
   have hob:=HO.o;rw[List.take_of_length_le (by omega)] at hob;have HOP:=zh hob;have HXP:=zh HX.o;rw[hjj] at HXP HOP;clear hob hjj HX HO;have HQC:=zh (HQY.o wr HB.o);rw[show ZfF Q (vn:Int)=(Zaz Q (vn:Int),0) by rw[ZfF,if_pos HIQ.o]] at HQC;obtain ⟨f1,f2,f3⟩:=Zix HIQ.o;have HF1:=zh f1;have HF2:=zh f2;have HF3:=zh f3;clear f1 f2 f3;go_wp2_with fail;refine HQC.o.mono ?_;rintro e w11 ⟨r,rfl,hb11,cv,gv,rfl,hcv,hgv⟩;simp only at hcv hgv;obtain ⟨cva,cvc, -, -,rfl, -⟩:=SlR.at hcv;obtain ⟨gva,gvc,rfl, -⟩:=Zeu hgv;obtain ⟨W12,hW12⟩:∃W,W=w11.alloc (.cells #[.slice cva (Zaz Q (vn:Int)).cells.length cvc,.int .i64 (Zaz Q (vn:Int)).vars,.int .i64 (Zaz Q (vn:Int)).head,.slice gva (Zaz Q (vn:Int)).goals.length gvc] 61):=⟨_,rfl⟩;have hal:Below w11.heap.size w11 W12:=by rw[hW12];exact (zB _ _).alloc (zL _) _
   obtain ⟨x3,hx3⟩:∃x,x=w11.heap.size:=⟨_,rfl⟩;have hbw12:=hb11.trans (hal.mono hb11.size);have HZ12:=zh (show W12.heap[x3]?=some (.cells #[.slice cva (Zaz Q (vn:Int)).cells.length cvc,.int .i64 (Zaz Q (vn:Int)).vars,.int .i64 (Zaz Q (vn:Int)).head,.slice gva (Zaz Q (vn:Int)).goals.length gvc] 61 (0,0)) by rw[hW12,hx3];exact Zao _ _);have HX12:=zh (Zac HXP.o hbw12);have HO12:=zh (HOP.o.below Za3 hbw12);have HB12:=zh (HB.o.trans (hbw12.mono hzw));have HC12:=zh (SlR.keeps Ce.rep_lasts (SlR.mono (A':=fun b=>W5.heap.size<=b) Ce.rep_lasts (by omega) hcv (fun b _ hb=>by unfold New at hb;omega)) (Keeps.ob hal));have HG12:=zh (SlR.keeps Zae (SlR.mono (A':=fun b=>W5.heap.size<=b) Zae (by omega) hgv (fun b _ hb=>by unfold New at hb;omega)) (Keeps.ob hal));have hz12:W5.heap.size<=W12.heap.size:=by have :=hbw12.size;omega
   have hx3g:x3≠g:=by have :=hb11.size;omega
   have hx3w:W5.heap.size<=x3:=by have :=hb11.size;omega
   have HW12:=zh hW12;have HX3E:=zh hx3;clear hcv hgv hb11 hal hbw12 hW12 hx3;go_wp2_with fail;rw[<-HX3E.o,<-HW12.o];have hx3l:x3<W12.heap.size:=Zag HZ12.o;have hXd:W12.drew.heap[g]?=some (.cells #[.slice va P.length vc,.slice none 0 0,.slice none 0 0,.slice none 0 0,.slice none 0 0,.int .i64 0,.int .i64 (vn:Int),.int .i64 0,.int .i64 (fn:Int),.slice none 0 0] 57 (0,0)):=HX12.o;have hZd:W12.drew.heap[x3]?=some (.cells #[.slice cva (Zaz Q (vn:Int)).cells.length cvc,.int .i64 (Zaz Q (vn:Int)).vars,.int .i64 (Zaz Q (vn:Int)).head,.slice gva (Zaz Q (vn:Int)).goals.length gvc] 61 (0,0)):=HZ12.o;have HBdr:=zh (show Below W12.heap.size W12 W12.drew from (zB _ _).drew);have HF:∀{k:Nat},(k=5->W12.drew.heap[g]?=some (.cells #[.slice va P.length vc,.slice none 0 0,.slice none 0 0,.slice none 0 0,.slice none 0 0,.int .i64 0,.int .i64 (vn:Int),.int .i64 0,.int .i64 (fn:Int),.slice none 0 0] 57 (0,0)))/\(k=7->W12.drew.heap[x3]?=some (.cells #[.slice cva (Zaz Q (vn:Int)).cells.length cvc,.int .i64 (Zaz Q (vn:Int)).vars,.int .i64 (Zaz Q (vn:Int)).head,.slice gva (Zaz Q (vn:Int)).goals.length gvc] 61 (0,0))):=fun {k}=>⟨fun _=>hXd,fun _=>hZd⟩;refine Zav (F:=fun k w'=>(k=5->w'.heap[g]?=some (.cells #[.slice va P.length vc,.slice none 0 0,.slice none 0 0,.slice none 0 0,.slice none 0 0,.int .i64 0,.int .i64 (vn:Int),.int .i64 0,.int .i64 (fn:Int),.slice none 0 0] 57 (0,0)))/\(k=7->w'.heap[x3]?=some (.cells #[.slice cva (Zaz Q (vn:Int)).cells.length cvc,.int .i64 (Zaz Q (vn:Int)).vars,.int .i64 (Zaz Q (vn:Int)).head,.slice gva (Zaz Q (vn:Int)).goals.length gvc] 61 (0,0)))) (by kernel_rfl) ?_;refine zT 0 HF ?_;try simp only[zP]
   refine zT 1 HF ?_;try simp only[zP]
   refine zT 2 HF ?_;try simp only[zP]
   refine zT 3 HF ?_;try simp only[zP]
   refine zT 4 HF ?_;try simp only[zP]
   refine ZaE (i:=5) (v:= .agg #[.slice none 0 0,.slice none 0 0]) rfl (Or.inl ⟨by rfl,?_⟩) HF ?_;·(intro w' hw;obtain ⟨q0,q1,q2,q3,q4,q5,q6,q7,q8,q9,qf⟩:=ZaJ (hw.1 rfl);clear hw;go_simp)
   try simp only[zP]
   refine zT 6 HF ?_;try simp only[zP]
   refine ZaE (i:=7) (v:=?_) rfl (Or.inl ⟨by rfl,?_⟩) HF ?_;rotate_left;·(intro w' hw;obtain ⟨q0,q1,q2,q3,qf⟩:=Za0 (hw.2 rfl);clear hw;go_simp<;>with_reducible rfl)
   try simp only[zP]
   refine Zab (i:=8) (by kernel_rfl) (Zad rfl (by rfl) ?_);go_simp;refine (ZhZ ⟨[],[]⟩ (Zaz Q (vn:Int)).cells (fun b=>W5.heap.size<=b) W12.drew [.slice none 0 0,.slice none 0 0] _ ⟨_,_,rfl,SlR.nil ..,SlR.nil ..⟩ (SlR.keeps Ce.rep_lasts HC12.o (Keeps.ob HBdr.o))).mono ?_;rintro e w13 ⟨r,rfl,hb13,us,rfl,hus⟩;obtain ⟨hca,hcc,hta,htc,rfl, -⟩:=Hp.rep2 hus;have HX13:=zh (Zac hXd hb13);have HZ13:=zh (Zac hZd hb13);have HB1213:=zh (HBdr.o.trans hb13);have HH13:=zh (hus.mono (A':=fun b=>W5.heap.size<=b) (fun b _ h=>h.elim id (fun h=>by unfold New at h;simp only[World.size_drew] at h;omega)));have hz13:=hb13.size;simp only[World.size_drew] at hz13;clear hb13 hus;refine ⟨fun _ _ _=>⟨fun e=>HX13.o,fun e=>HZ13.o⟩,?_⟩;try simp only[zP]
   clear HF hXd hZd;have HF:∀{k:Nat},(k=5->w13.heap[g]?=some (.cells #[.slice va P.length vc,.slice none 0 0,.slice none 0 0,.slice none 0 0,.slice none 0 0,.int .i64 0,.int .i64 (vn:Int),.int .i64 0,.int .i64 (fn:Int),.slice none 0 0] 57 (0,0)))/\(k=7->w13.heap[x3]?=some (.cells #[.slice cva (Zaz Q (vn:Int)).cells.length cvc,.int .i64 (Zaz Q (vn:Int)).vars,.int .i64 (Zaz Q (vn:Int)).head,.slice gva (Zaz Q (vn:Int)).goals.length gvc] 61 (0,0))):=fun {k}=>⟨fun _=>HX13.o,fun _=>HZ13.o⟩;rw[HF1.o];refine zT 9 HF ?_;try simp only[zP]
   refine zT 10 HF ?_;try simp only[zP]
   refine zT 11 HF ?_;try simp only[zP]
   refine zT 12 HF ?_;try simp only[zP]
   refine zT 13 HF ?_;try simp only[zP]
   refine zT 14 HF ?_;try simp only[zP]
   obtain ⟨b0,b1,b2,b3,b4,b5,b6,b7,b8,b9,bf⟩:=ZaJ HX13.o;have hgl13:=Zag HX13.o;have hcs:=Zak;refine Zab (i:=15) (by kernel_rfl) (Zad rfl (by rfl) ?_);go_simp;refine ⟨fun k' hk' _=>⟨fun h=>?_,fun h=>?_⟩,?_⟩;·subst h;exact absurd (hk'.symm.trans (by kernel_rfl):false=true) Bool.false_ne_true
   ·subst h;exact absurd (hk'.symm.trans (by kernel_rfl):false=true) Bool.false_ne_true
   try simp only[zP]
   refine ZaE (i:=16) (v:=?_) rfl (Or.inl ⟨by rfl,?_⟩) ⟨fun h=>by omega,fun h=>by omega⟩ ?_;rotate_left;·(intro w' hw;clear hw;go_simp<;>with_reducible rfl)
   try simp only[zP]
   refine ZaE (i:=17) (v:=?_) rfl (Or.inl ⟨by rfl,?_⟩) ⟨fun h=>by omega,fun h=>by omega⟩ ?_;rotate_left;·(intro w' hw;clear hw;go_simp<;>with_reducible rfl)
   try simp only[zP]
   refine Zab (i:=18) (by kernel_rfl) (Zad rfl (by rfl) ?_);go_simp;refine ⟨fun k' hk' _=>⟨fun h=>?_,fun h=>?_⟩,Zan (by kernel_rfl) ?_ _⟩;·subst h;exact absurd (hk'.symm.trans (by kernel_rfl):false=true) Bool.false_ne_true
   ·subst h;exact absurd (hk'.symm.trans (by kernel_rfl):false=true) Bool.false_ne_true
   try simp only[zP]
   go_wp2_with fail;obtain ⟨L,hL⟩:∃L,L=Zbs ⟨[],[]⟩ (Zaz Q (vn:Int)).cells:=⟨_,rfl⟩;have HL:=zh hL;rw[<-hL] at HH13;rw[<-hL];clear hL hcs b0 b1 b2 b3 b4 b5 b6 b7 b8 b9 bf HF;obtain ⟨W14,hW14⟩:∃W,W=(((w13.setCell ⟨g,1,none⟩ (.slice hca L.1.cells.length hcc)).setCell ⟨g,2,none⟩ (.slice hta L.1.trail.length htc)).setCell ⟨g,7,none⟩ (.int .i64 0)):=⟨_,rfl⟩;rw[<-hW14];have hX14:W14.heap[g]?=some (.cells #[.slice va P.length vc,.slice hca L.1.cells.length hcc,.slice hta L.1.trail.length htc,.slice none 0 0,.slice none 0 0,.int .i64 0,.int .i64 (vn:Int),.int .i64 0,.int .i64 (fn:Int),.slice none 0 0] 57 (0,0)):=by rw[hW14];exact (Zal ((Zal ((Zal HX13.o 1 _).trans rfl) 2 _).trans rfl) 7 _).trans rfl
   have hK14:Keeps (fun b=>b≠g) w13 W14:=by rw[hW14];exact ((Keeps.setCell _ w13 ⟨g,1,none⟩ _ (fun h=>h rfl)).trans (Keeps.setCell _ _ ⟨g,2,none⟩ _ (fun h=>h rfl))).trans (Keeps.setCell _ _ ⟨g,7,none⟩ _ (fun h=>h rfl))
   have HB14:=zh (show Below w.heap.size w W14 by rw[hW14];exact (((HB12.o.trans (HB1213.o.mono HB12.o.size)).setCell hgw _).setCell hgw _).setCell hgw _);have hs14:W14.heap.size=w13.heap.size:=by rw[hW14];simp
   have HZ14:=zh (show W14.heap[x3]?=some _ from Zaj HZ13.o hK14 hx3g);have HO13:=HO12.o.below Za3 HB1213.o;have HO14:=zh (HO13.keeps Za3 hK14 (fun b hb=>by omega) (fun b hb=>by have :=(HO13.lt b hb).1;omega));have HH14:=zh (HH13.o.keeps (hK14.mono (fun b _ hb=>by omega)));have HG14:=zh (SlR.keeps Zae (SlR.keeps Zae HG12.o (Keeps.ob HB1213.o)) (hK14.mono (fun b _ hb=>by omega)));have HX14:=zh hX14;clear hX14 hK14 hW14 HO13;have hg14:g<W14.heap.size:=by omega
   have HVs:=zh (show MvI W14.heap.size P vn g (.slice va P.length vc) (.slice hca L.1.cells.length hcc) (.slice hta L.1.trail.length htc) ⟨.slice none 0 0,.slice none 0 0,.slice none 0 0⟩ ⟨L.1,[],[],0,0,fn,[]⟩ W14 from { box:=HX14.o,prog:=SlR.mono Za3 (by omega) (OwnR.sl Za3 HO14.o (by omega) (fun b hb=>hb)) (fun b hb h=>⟨hb,by omega⟩),heap:=HH14.o.mono (fun b _ hb hm=>by rcases hm with hm|hm|hm|hm<;>first|omega|simp[Zai] at hm),goals:=OwnF.nil,chc:=OwnF.nil,out:=OwnR.nil ..,bg:=⟨hg14,zL _⟩,nowb:=by unfold I64;simp only;omega,qb:=by unfold I64;simp only;omega,fu:=by show fn<=150;omega,qq:=by omega,gl:=by simp,cl:=by simp,ol:=by simp });have HPU:=zh (fun (W:World) (hb:Below W14.heap.size W14 W)=>ZgQ (base:=W14.heap.size) (P:=P) (q:=vn) (g:=g) (.slice cva (Zaz Q (vn:Int)).cells.length cvc) (.slice gva (Zaz Q (vn:Int)).goals.length gvc) (Zaz Q (vn:Int)).vars (Zaz Q (vn:Int)).head (Zaz Q (vn:Int)).goals 0 0 (-1) (SlR.keeps Zae (SlR.mono (A':=fun b=>b<W14.heap.size/\b≠g) Zae (by omega) HG14.o (fun b hb h=>⟨hb,by omega⟩)) (Keeps.ob hb|>.mono (fun b _ h=>h.1))) HF3.o (by omega) (by omega) (by omega) (by unfold I64;omega) (by have :=HF2.o;simp only[List.length_nil];omega) (HVs.o.below hb));have hXd:W14.drew.heap[g]?=some (.cells #[.slice va P.length vc,.slice hca L.1.cells.length hcc,.slice hta L.1.trail.length htc,.slice none 0 0,.slice none 0 0,.int .i64 0,.int .i64 (vn:Int),.int .i64 0,.int .i64 (fn:Int),.slice none 0 0] 57 (0,0)):=HX14.o;have hZd:W14.drew.heap[x3]?=some (.cells #[.slice cva (Zaz Q (vn:Int)).cells.length cvc,.int .i64 (Zaz Q (vn:Int)).vars,.int .i64 (Zaz Q (vn:Int)).head,.slice gva (Zaz Q (vn:Int)).goals.length gvc] 61 (0,0)):=HZ14.o;have hx3l4:x3<W14.drew.heap.size:=Zag hZd;have HF:∀{k:Nat},(k=6->W14.drew.heap[g]?=some (.cells #[.slice va P.length vc,.slice hca L.1.cells.length hcc,.slice hta L.1.trail.length htc,.slice none 0 0,.slice none 0 0,.int .i64 0,.int .i64 (vn:Int),.int .i64 0,.int .i64 (fn:Int),.slice none 0 0] 57 (0,0)))/\(k=2->W14.drew.heap[x3]?=some (.cells #[.slice cva (Zaz Q (vn:Int)).cells.length cvc,.int .i64 (Zaz Q (vn:Int)).vars,.int .i64 (Zaz Q (vn:Int)).head,.slice gva (Zaz Q (vn:Int)).goals.length gvc] 61 (0,0))):=fun {k}=>⟨fun _=>hXd,fun _=>hZd⟩;refine Zav (F:=fun k w'=>(k=6->w'.heap[g]?=some (.cells #[.slice va P.length vc,.slice hca L.1.cells.length hcc,.slice hta L.1.trail.length htc,.slice none 0 0,.slice none 0 0,.int .i64 0,.int .i64 (vn:Int),.int .i64 0,.int .i64 (fn:Int),.slice none 0 0] 57 (0,0)))/\(k=2->w'.heap[x3]?=some (.cells #[.slice cva (Zaz Q (vn:Int)).cells.length cvc,.int .i64 (Zaz Q (vn:Int)).vars,.int .i64 (Zaz Q (vn:Int)).head,.slice gva (Zaz Q (vn:Int)).goals.length gvc] 61 (0,0)))) (by kernel_rfl) ?_;refine zT 0 HF ?_;try simp only[zP]
   refine zT 1 HF ?_;try simp only[zP]
   refine ZaE (i:=2) (v:= .agg #[.slice cva (Zaz Q (vn:Int)).cells.length cvc,.int .i64 (Zaz Q (vn:Int)).vars,.int .i64 (Zaz Q (vn:Int)).head,.slice gva (Zaz Q (vn:Int)).goals.length gvc]) rfl (Or.inl ⟨by rfl,?_⟩) HF ?_;·(intro w' hw;obtain ⟨q0,q1,q2,q3,qf⟩:=Za0 (hw.2 rfl);clear hw;go_simp)
   try simp only[zP]
   refine zT 3 HF ?_;try simp only[zP]
   refine zT 4 HF ?_;try simp only[zP]
   refine zT 5 HF ?_;try simp only[zP]
   refine ZaE (i:=6) (v:=?_) rfl (Or.inl ⟨by rfl,?_⟩) HF ?_;rotate_left;·(intro w' hw;obtain ⟨q0,q1,q2,q3,q4,q5,q6,q7,q8,q9,qf⟩:=ZaJ (hw.1 rfl);clear hw;go_simp<;>with_reducible rfl)
   try simp only[zP]
   refine Zab (i:=7) (by kernel_rfl) (Zad rfl (by rfl) ?_);go_simp;refine (HPU.o W14.drew ((zB _ _).drew)).mono ?_;rintro e w15 ⟨rfl,hc15,ht15,o15,hmv15,hch15,hgr15⟩;have HV15:=zh hmv15;have HM15:=zh hch15;have HR15:=zh hgr15;clear hmv15 hch15 hgr15;refine ⟨fun k' hk' _=>⟨fun h=>?_,fun h=>?_⟩,?_⟩;·subst h;exact absurd (hk'.symm.trans (by kernel_rfl):false=true) Bool.false_ne_true
   ·subst h;exact absurd (hk'.symm.trans (by kernel_rfl):false=true) Bool.false_ne_true
   try simp only[zP]
   clear HF hXd hZd;obtain ⟨b0,b1,b2,b3,b4,b5,b6,b7,b8,b9,bf⟩:=ZaJ HV15.o.box;have hgl15:=HV15.o.lt.1;refine ZaE (i:=8) (v:=?_) rfl (Or.inl ⟨by rfl,?_⟩) ⟨fun h=>by omega,fun h=>by omega⟩ ?_;rotate_left;·(intro w' hw;clear hw;go_simp<;>with_reducible rfl)
   try simp only[zP]
   refine ZaE (i:=9) (v:=?_) rfl (Or.inl ⟨by rfl,?_⟩) ⟨fun h=>by omega,fun h=>by omega⟩ ?_;rotate_left;·(intro w' hw;clear hw;go_simp<;>with_reducible rfl)
   try simp only[zP]
   refine Zab (i:=10) (by kernel_rfl) (Zad rfl (by rfl) ?_);go_simp;refine ⟨fun k' hk' _=>⟨fun h=>?_,fun h=>?_⟩,Zan (by kernel_rfl) ?_ _⟩;·subst h;exact absurd (hk'.symm.trans (by kernel_rfl):false=true) Bool.false_ne_true
   ·subst h;exact absurd (hk'.symm.trans (by kernel_rfl):false=true) Bool.false_ne_true
   try simp only[zP]
   clear b0 b1 b2 b3 b4 b5 b6 b7 b8 b9 bf;have hbm:Zdp Q (vn:Int) fn=⟨L.1,(Za6 0 0 (Zaz Q (vn:Int)).goals [] (-1)).1,[],(Za6 0 0 (Zaz Q (vn:Int)).goals [] (-1)).2,0,fn,[]⟩:=by have :=HF1.o;rw[<-HL.o] at this;unfold Zdp;simp only[<-HL.o,this]
   have hnow:I64 (Za6 0 0 (Zaz Q (vn:Int)).goals [] (-1)).2:=by have h1:=HBS.o.sim.gcnt;obtain ⟨φ, -, -,h2⟩:=HBS.o.sim.cur;have h3:=h2.ge;rw[hbm] at h1 h3;simp only at h1 h3;unfold I64;omega
   obtain ⟨hc16,ht16,o16,hmv16,hch16,hgr16⟩:=HV15.o.setI (m':=⟨L.1,(Za6 0 0 (Zaz Q (vn:Int)).goals [] (-1)).1,[],(Za6 0 0 (Zaz Q (vn:Int)).goals [] (-1)).2,0,fn,[]⟩) 5 (.int .i64 (Za6 0 0 (Zaz Q (vn:Int)).goals [] (-1)).2) ⟨rfl,rfl,rfl,rfl⟩ ((Zal HV15.o.box 5 _).trans rfl) hnow HV15.o.qb HV15.o.fu;rw[<-hbm] at hmv16;have HV16:=zh hmv16;have HB15:=zh (ZdJ (HVs.o.below ((zB _ _).drew)) HB14.o.drew HM15.o hgw (by have :=HB14.o.size;omega));have HB16:=zh (ZdJ HV15.o HB15.o hch16 hgw (by have :=HB14.o.size;omega));clear hmv16 hch16 hgr16 hnow hbm;generalize w15.setCell ⟨g,5,none⟩ (.int .i64 (Za6 0 0 (Zaz Q (vn:Int)).goals [] (-1)).2)=W16 at*;obtain ⟨base,hbase⟩:∃base,base=W14.heap.size:=⟨_,rfl⟩;have hbw:w.heap.size<=base:=by rw[hbase];exact HB14.o.size
   rw[<-hbase] at HV16;obtain ⟨R,hR⟩:∃R,R=ZjT P vn (fn:Int) every (fn+14) (Zdp Q (vn:Int) fn):=⟨_,rfl⟩;have HR:=zh (show Zew P Q (vn:Int) (fn:Int) every=(R.out,0) by rw[hR];exact HS.o);have HRA:=zh (show RunAt P vn (fn:Int) every R (Zdp Q (vn:Int) fn) from ⟨fn+14,_,_,HBS.o,Int.le_refl _,by simp,by simp,hR.symm⟩);generalize Zdp Q (vn:Int) fn=m0 at*;clear hR hbase HVs HV15 HM15 HR15 HB15 HPU HG14 HZ14 HX14 HO14 HH14 HB14;go_wp2_with fail;go_loopw[19] (fun on wr=>∃(m:Mv) (hc ht:Value) (o:Mo),MvI base P vn g (.slice va P.length vc) hc ht o m wr/\Below w.heap.size w wr/\((on= .bool false/\m=R)\/(on= .bool true/\RunAt P vn (fn:Int) every R m))) (fun on wr=>ZeQ on g wr);case atStart=>exact ⟨m0,_,_,_,HV16.o,HB16.o,.inr ⟨rfl,HRA.o⟩⟩
   case round=>
    obtain ⟨m,hc,ht,o,hmv,hbl,hst⟩:=hrel;have HV:=zh hmv;have HBL:=zh hbl;have hmu:=zh (Zf0 hmv);have HMB:=zh (fun (w':World) (hch:Ch (MM g o) wr w')=>ZdJ hmv hbl hch hgw hbw);obtain ⟨gv,cv,ov⟩:=o;obtain ⟨-, -,ga,gc,ca,cc,oa,oc,ha,hac,hb,hbc, -,rfl,rfl,rfl,rfl,rfl, -, -, -, -, -, -,o1,o2⟩:=hmv.vals;obtain ⟨b0,b1,b2,b3,b4,b5,b6,b7,b8,b9,bf⟩:=ZaJ hmv.box;simp only at b9;have hglr:=hmv.lt.1;have hfu:=hmv.fu;unfold maxLen at o2;clear hmv hbl;rcases hst with ⟨rfl,hmR⟩|⟨rfl,hra⟩;·subst hmR;go_wp2_with fail;go_ret2;rw[HR.o];exact ⟨_,rfl,HBL.o,(HV.o.out.mono (A':=fun _=>True) ZaB fun _ _ _=>trivial).sl ZaB (show m.out.length<=1048576 by have :=HV.o.ol;omega) (fun _ _=>trivial)⟩
    ·have HRN:=zh hra;obtain ⟨k1,k2,k3,k4,k5,k6⟩:=hra.few;clear hra;by_cases hnow:m.now<0
     ·have HAN:=zh (ZjZ HV.o HIP.o k5 k6 k1 k2 k3);obtain ⟨r1,r2⟩:=HRN.o.answer HIP.o hnow;have HR1:=zh r1;have HR2:=zh r2;clear k1 k2 k3 k4 k5 k6 r1 r2;go_wp2_with fail;refine HAN.o.mono ?_;rintro e w9 ⟨rfl,hc9,ht9,o9,hmv9,hch9,hgr9⟩;have HV9:=zh hmv9;have HB9:=zh (HMB.o w9 hch9);clear hmv9 hch9 hgr9 HAN;generalize ZbD P vn m=r9 at*;obtain ⟨rr,m9⟩:=r9;have hmu9:Znf g w9=muM m9:=Zf0 HV9.o;cases rr with
       |next=>
        obtain ⟨q1,q2⟩:=HR1.o m9 rfl;have HQ1:=zh q1;have HQ2:=zh q2;clear q1 q2;simp only[ZjY];go_wp2_with fail;go_roundw;case rel=>exact ⟨m9,_,_,_,HV9.o,HB9.o,.inr ⟨rfl,HQ1.o⟩⟩
        case measure=>have h1:=HQ2.o;have h2:=hmu.out;simp only[ZeQ];rw[h2,hmu9];omega
       |no=>
        have hm9:=HR2.o _ m9 rfl (by simp);simp only[ZjY];go_wp2_with fail;go_roundw;case rel=>exact ⟨m9,_,_,_,HV9.o,HB9.o,.inl ⟨rfl,hm9⟩⟩
        case measure=>simp[ZeQ]
       |off=>
        have hm9:=HR2.o _ m9 rfl (by simp);simp only[ZjY];go_wp2_with fail;go_roundw;case rel=>exact ⟨m9,_,_,_,HV9.o,HB9.o,.inl ⟨rfl,hm9⟩⟩
        case measure=>simp[ZeQ]
     ·have hnow':0<=m.now:=by omega
      have hfu0:(0:Int)<=(m.fuel:Int):=zN _;have hwr:IntKind.i64.wrap ((fn:Int) - (m.fuel:Int))=(fn:Int) - (m.fuel:Int):=IntWalk.i64_in _ (by omega);have hst:=zh (HRN.o.step HIP.o hnow);have HCO:=zh (Zis HV.o k4);clear k1 k2 k3 k4 k5 k6;have HCM:=zh (show Zj6 vn (fn:Int) every m=if every>0/\((fn:Int) - m.fuel)%every=0 then ZbQ vn m else m from rfl);by_cases hev:0<every
      ·by_cases htm:Int.tmod ((fn:Int) - (m.fuel:Int)) every=0
       ·have HEQ:=zh (HCM.o.trans (if_pos ⟨hev,Int.emod_eq_zero_of_dvd (Int.dvd_of_tmod_eq_zero htm)⟩));go_wp2_with fail;refine HCO.o.mono ?_;rintro e w8 ⟨⟨r8,rfl⟩,hc8,ht8,o8,hmv8,hch8,hgr8⟩;have HVs:=zh hmv8;have HBs:=zh (HMB.o w8 hch8);clear hmv8 hch8 hgr8 HCO b0 b1 b2 b3 b4 b5 b6 b7 b8 b9 bf;have hgl8:=HVs.o.lt.1;have hst2:=hst.out;rw[HEQ.o] at hst2;obtain ⟨s1,s2,s3,s4,s5,s6⟩:=hst2;have HSP:=zh (ZgX HVs.o HIP.o s1 s2 s3 s4);have HR1:=zh s5;have HR2:=zh s6;clear s1 s2 s3 s4 s5 s6 hst;go_wp2_with fail;refine HSP.o.mono ?_;rintro e w9 ⟨rfl,hc9,ht9,o9,hmv9,hch9,hgr9⟩;have HV9:=zh hmv9;have HB9:=zh (ZdJ HVs.o HBs.o hch9 hgw hbw);clear hmv9 hch9 hgr9 HSP;generalize Zcr P (ZbQ vn m)=r9 at*;obtain ⟨rr,m9⟩:=r9;have hmu9:Znf g w9=muM m9:=Zf0 HV9.o;cases rr with
         |next=>
          obtain ⟨q1,q2⟩:=HR1.o m9 rfl;have HQ1:=zh q1;have HQ2:=zh q2;clear q1 q2;simp only[ZjY];go_wp2_with fail;go_roundw;case rel=>exact ⟨m9,_,_,_,HV9.o,HB9.o,.inr ⟨rfl,HQ1.o⟩⟩
          case measure=>have h1:=HQ2.o;have h2:=hmu.out;simp only[ZeQ];rw[h2,hmu9];omega
         |no=>
          have hm9:=HR2.o _ m9 rfl (by simp);simp only[ZjY];go_wp2_with fail;go_roundw;case rel=>exact ⟨m9,_,_,_,HV9.o,HB9.o,.inl ⟨rfl,hm9⟩⟩
          case measure=>simp[ZeQ]
         |off=>
          have hm9:=HR2.o _ m9 rfl (by simp);simp only[ZjY];go_wp2_with fail;go_roundw;case rel=>exact ⟨m9,_,_,_,HV9.o,HB9.o,.inl ⟨rfl,hm9⟩⟩
          case measure=>simp[ZeQ]
       ·have HEQ:=zh (HCM.o.trans (if_neg (fun h=>htm (Int.tmod_eq_zero_of_dvd (Int.dvd_of_emod_eq_zero h.2)))));have HVs:=zh HV.o;have HBs:=zh HBL.o;have hst2:=hst.out;rw[HEQ.o] at hst2;obtain ⟨s1,s2,s3,s4,s5,s6⟩:=hst2;have HSP:=zh (ZgX HVs.o HIP.o s1 s2 s3 s4);have HR1:=zh s5;have HR2:=zh s6;clear s1 s2 s3 s4 s5 s6 hst HCO;go_wp2_with fail;refine HSP.o.mono ?_;rintro e w9 ⟨rfl,hc9,ht9,o9,hmv9,hch9,hgr9⟩;have HV9:=zh hmv9;have HB9:=zh (ZdJ HVs.o HBs.o hch9 hgw hbw);clear hmv9 hch9 hgr9 HSP;generalize Zcr P m=r9 at*;obtain ⟨rr,m9⟩:=r9;have hmu9:Znf g w9=muM m9:=Zf0 HV9.o;cases rr with
         |next=>
          obtain ⟨q1,q2⟩:=HR1.o m9 rfl;have HQ1:=zh q1;have HQ2:=zh q2;clear q1 q2;simp only[ZjY];go_wp2_with fail;go_roundw;case rel=>exact ⟨m9,_,_,_,HV9.o,HB9.o,.inr ⟨rfl,HQ1.o⟩⟩
          case measure=>have h1:=HQ2.o;have h2:=hmu.out;simp only[ZeQ];rw[h2,hmu9];omega
         |no=>
          have hm9:=HR2.o _ m9 rfl (by simp);simp only[ZjY];go_wp2_with fail;go_roundw;case rel=>exact ⟨m9,_,_,_,HV9.o,HB9.o,.inl ⟨rfl,hm9⟩⟩
          case measure=>simp[ZeQ]
         |off=>
          have hm9:=HR2.o _ m9 rfl (by simp);simp only[ZjY];go_wp2_with fail;go_roundw;case rel=>exact ⟨m9,_,_,_,HV9.o,HB9.o,.inl ⟨rfl,hm9⟩⟩
          case measure=>simp[ZeQ]
      ·have HEQ:=zh (HCM.o.trans (if_neg (fun h=>hev h.1)));have HVs:=zh HV.o;have HBs:=zh HBL.o;have hst2:=hst.out;rw[HEQ.o] at hst2;obtain ⟨s1,s2,s3,s4,s5,s6⟩:=hst2;have HSP:=zh (ZgX HVs.o HIP.o s1 s2 s3 s4);have HR1:=zh s5;have HR2:=zh s6;clear s1 s2 s3 s4 s5 s6 hst HCO;go_wp2_with fail;refine HSP.o.mono ?_;rintro e w9 ⟨rfl,hc9,ht9,o9,hmv9,hch9,hgr9⟩;have HV9:=zh hmv9;have HB9:=zh (ZdJ HVs.o HBs.o hch9 hgw hbw);clear hmv9 hch9 hgr9 HSP;generalize Zcr P m=r9 at*;obtain ⟨rr,m9⟩:=r9;have hmu9:Znf g w9=muM m9:=Zf0 HV9.o;cases rr with
        |next=>
         obtain ⟨q1,q2⟩:=HR1.o m9 rfl;have HQ1:=zh q1;have HQ2:=zh q2;clear q1 q2;simp only[ZjY];go_wp2_with fail;go_roundw;case rel=>exact ⟨m9,_,_,_,HV9.o,HB9.o,.inr ⟨rfl,HQ1.o⟩⟩
         case measure=>have h1:=HQ2.o;have h2:=hmu.out;simp only[ZeQ];rw[h2,hmu9];omega
        |no=>
         have hm9:=HR2.o _ m9 rfl (by simp);simp only[ZjY];go_wp2_with fail;go_roundw;case rel=>exact ⟨m9,_,_,_,HV9.o,HB9.o,.inl ⟨rfl,hm9⟩⟩
         case measure=>simp[ZeQ]
        |off=>
         have hm9:=HR2.o _ m9 rfl (by simp);simp only[ZjY];go_wp2_with fail;go_roundw;case rel=>exact ⟨m9,_,_,_,HV9.o,HB9.o,.inl ⟨rfl,hm9⟩⟩
         case measure=>simp[ZeQ]
theorem Zlh(hnp:Zby P<=1099511627776)(hnq:Tm.nodesL Q<=1099511627776)(hv:I64 vars)(hf:I64 fuel)(hei:I64 every)(w:World)(pv qv:Value)(hpv:Zj5 (fun b=>b<w.heap.size) w P pv)(hqv:TmsR (fun b=>b<w.heap.size) w Q qv):Calls Try.prog 5 #[pv,qv,.int .i64 vars,.int .i64 fuel,.int .i64 every] w (Zfl w (Zew P Q vars fuel every)):=by
 rcases Zd2 P Q vars fuel every with⟨h,_⟩|⟨_,h,_⟩|⟨⟨h1,h2⟩,h3,h4,h5,_⟩;·exact Zjv (.inl h) hnp hnq hv hf w pv qv hpv hqv
 ·exact Zjv (.inr h) hnp hnq hv hf w pv qv hpv hqv
 ·exact Zlg h1 h2 h3 h4 h5 hei hnp hnq w pv qv hpv hqv
end
theorem Zmu(w:World):Calls Try.prog 8 #[] w (Pure w (fun r _=>r= .bool true)):=by
 have i0:I64 0:=by unfold I64;omega
 have i2:I64 2:=by unfold I64;omega
 have i3:I64 3:=by unfold I64;omega
 have i4:I64 4:=by unfold I64;omega
 have hcs:=Zak;have HQ:=zh (fun(W:World)(pv qv:Value)hp hq=>Zlh (P:=[c4]) (Q:=[pV]) (vars:=1) (fuel:=9) (every:=1) (by decide) (by decide) (by unfold I64;omega) (by unfold I64;omega) (by unfold I64;omega) W pv qv hp hq);rw[ZhN _ _ _ _ _ (by omega),Zm2]at HQ;go_enter Try.func8,Try.ntmps8;go_wp2_with fail;have hW:=Zhr w;have HW:=zh hW;clear hW;refine(HQ.o _ _ _ HW.o.1 HW.o.2.1).mono ?_;rintro e w1⟨ev,rfl,hb1,hev⟩;have HB1:=zh (HW.o.2.2.trans (hb1.mono HW.o.2.2.size));clear hb1 HW HQ;obtain⟨ea,ec,eb,eo,rfl, -, -, -,hea,hee⟩:=SlR.at hev;obtain⟨rfl,hAe⟩:=hea (by simp);obtain⟨ta,tc,c0,c1,hr0, -⟩:=Zfd hee hAe (Keeps.refl _ _) (k:=0) (by simp);obtain⟨ta1,tc1,d0,d1, -, -⟩:=Zfd hee hAe (Keeps.refl _ _) (k:=1) (by simp);simp only[List.getElem_cons_zero,List.getElem_cons_succ,Nat.zero_mul,Nat.add_zero,Nat.one_mul,List.length_cons,List.length_nil]at c0 c1 d0 d1 hr0;obtain⟨_,_,tb,tof,e9, -, -, -,hta,hte⟩:=SlR.at hr0;simp only[Value.slice.injEq,List.length_cons,List.length_nil,true_and]at e9;obtain⟨rfl,rfl⟩:=e9;obtain⟨rfl,hAt⟩:=hta (by simp);obtain⟨xa,xc,f0,f1,f2,f3, -⟩:=ZaG hte hAt (Keeps.refl _ _) (k:=0) (by simp);simp only[List.getElem_cons_zero,Nat.zero_mul,Nat.add_zero]at f0 f1 f2 f3;have l1:=World.block_lt_of_cell? w1 _ c0;have l2:=World.block_lt_of_cell? w1 _ f0;simp only at l1 l2;have hn4:n4.n=4:=rfl;rw[hn4]at f1;clear hev hea hee hr0 hta hte hAe hAt;simp only[List.length_cons,List.length_nil];go_wp2_with fail;go_ret;exact⟨_,rfl,HB1.o,rfl⟩
theorem Zex:∀l:List Cl,Zby l=(l.map Cl.nodes).sum|[]=>rfl|c::r=>by simp[Zby,Zex r]
theorem ZhP(P:List Cl)(Q:List Tm)(vars fuel x:Int)(hnp:(P.map Cl.nodes).sum<=1099511627776)(hnq:Tm.nodesL Q<=1099511627776)(hv:I64 vars)(hf:I64 fuel)(hx:I64 x)(w:World)(pv qv:Value)(hpv:Zj5 (fun _=>True) w P pv)(hqv:TmsR (fun _=>True) w Q qv):Calls Try.prog 3 #[pv,qv,.int .i64 vars,.int .i64 fuel,.int .i64 x] w (Pure w (fun r _=>r= .bool true)):=by rw[<-Zex]at hnp;have HSV:=zh (fun w=>Zmu w);have HPX:=zh (fun w=>ZmK x 1000 hx (by omega) (by omega) w);have HSOL:=zh (show Calls _ _ _ w (Zfc w (Zca P Q vars fuel))from ZmY (P:=P) (Q:=Q) (vars:=vars) (fuel:=fuel) hnp hnq hv hf w pv qv (SlR.mono Cl.rep_lasts (by omega) hpv (fun b hb _=>hb)) (SlR.mono Tm.rep_lasts (by omega) hqv (fun b hb _=>hb)));have HRUN:=zh (fun(W:World)(hb:Below w.heap.size w W)(k:Int)(h0:0<=k)(h1:k<1000)=>(show Calls _ _ _ _ (Zfl W (Zca P Q vars fuel))from ZhN P Q vars fuel k h0▸Zlh (P:=P) (Q:=Q) (vars:=vars) (fuel:=fuel) (every:=k) hnp hnq hv hf (by unfold I64;omega) W pv qv (SlR.mono Cl.rep_lasts (by omega) (SlR.keeps Cl.rep_lasts hpv (Keeps.ob hb)) (fun b hb _=>hb)) (SlR.mono Tm.rep_lasts (by omega) (SlR.keeps Tm.rep_lasts hqv (Keeps.ob hb)) (fun b hb _=>hb))));generalize Zca P Q vars fuel=ra at*;obtain⟨la,ea⟩:=ra;have hx0:0<=x%1000:=Int.emod_nonneg _ (by omega);have hx1:x%1000<1000:=Int.emod_lt_of_pos _ (by omega);have HX:=zh (And.intro hx0 hx1);obtain⟨pa,pc, -, -,rfl, -⟩:=SlR.at hpv;obtain⟨qa,qc, -, -,rfl, -⟩:=SlR.at hqv;clear hpv hqv hx0 hx1;go_enter Try.func3,Try.ntmps3;go_wp2_with fail;refine(HSOL.o).mono ?_;rintro e w1⟨av,rfl,hb1,hav⟩;have HB1:=zh hb1;have HAV:=zh hav;clear hb1 hav;go_wp2_with fail;refine(HPX.o _).mono ?_;rintro e w2'⟨rfl,rfl⟩;go_wp2_with fail;refine(HRUN.o _ HB1.o _ HX.o.1 HX.o.2).mono ?_;rintro e w2⟨bv,rfl,hb2,hbv⟩;have HB2:=zh (HB1.o.trans (hb2.mono HB1.o.size));have HAV2:=zh (SlR.keeps ZaB HAV.o (Keeps.ob hb2));have HBV:=zh hbv;clear hb2 hbv;have HSE:=zh (ZgK la la (fun _=>True) w2 _ _ HAV2.o HBV.o);go_wp2_with fail;refine(HSE.o).mono ?_;rintro e w5⟨v,rfl,hb5,r,rfl,hr⟩;obtain rfl:r=true:=hr.2 (by first|rfl|trivial);have HB5:=zh (HB2.o.trans (hb5.mono HB2.o.size));clear hb5 hr;go_wp2_with fail;refine(HSV.o w5).mono ?_;rintro e w6⟨r,rfl,hb6,rfl⟩;have HB6:=zh (HB5.o.trans (hb6.mono HB5.o.size));clear hb6;go_wp2_with fail;go_ret;exact⟨_,rfl,HB6.o,rfl⟩
end Go.Proofs.Ytlpmfkpefoegeac
