import Derived.Test.YtlpmfkpefoegeacGreatDoorPProve2
import Derived.Test.YtlpmfkpefoegeacGreatDoorQSolve1
namespace Go.Proofs.YtlpmfkpefoegeacGreatDoor
set_option maxRecDepth 99999
set_option maxHeartbeats 0
set_option linter.all false
theorem arf{h:Hp}(hg:h.Good)(tr:Nat):Hp.Good ⟨iP h.cells (h.trail.drop tr),h.trail.take tr⟩:=by
 obtain⟨g1,g2,g3,g4⟩:=hg;refine⟨fun i hi=>?_,fun j hj=>?_,by rw[vL];exact g3,by simp only[dX];omega⟩
 ·have hi':i<h.cells.length:=by rw[vL]at hi;exact hi
  have e:Ce.fU (iP h.cells (h.trail.drop tr)).length=Ce.fU h.cells.length:=by rw[vL]
  show Ce.fU (iP h.cells (h.trail.drop tr)).length i _;rw[e,MK];have h1:=g1 i hi';split
  ·rename_i hm;obtain⟨j,hj,e⟩:=vH.1 (Md hm);obtain⟨v,e2,hv,hk⟩:=g2 j hj;have hvi:(v:Int)=i:=e2.symm.trans e;have :v=i:=by omega
   subst this;left;rcases h1 with⟨a1,a2,a3,a4⟩|⟨a1,_⟩|⟨a1,_⟩|⟨a1,_⟩;·exact⟨a1,by simp only;omega,by simp only;omega,a4⟩
   all_goals(rw[hk]at a1;simp at a1)
  ·exact h1
 ·simp only[dX]at hj;obtain⟨v,e,hv,hk⟩:=g2 j (by omega);refine⟨v,by simp only[List.getElem_take];exact e,by rw[vL];exact hv,?_⟩;simp only;rw[MK];split<;>exact hk
theorem ag4{h:Hp}(hg:h.Good){top tr:Nat}(htop:top<=h.cells.length)(htr:tr<=h.trail.length)(ho:(eF h top tr).Good):(rR (rQ h (tr:Int)).1 (top:Int)).1=eF h top tr:=by
 have hu:=arf hg tr;have e1:(rQ h (tr:Int)).1=⟨iP h.cells (h.trail.drop tr),h.trail.take tr⟩:=by rw[rQ,O (dY hg),O (dY ⟨zN _,by omega⟩),dF]
 rw[e1,rR,O (dY hu),O (dY ⟨zN _,by simp only[vL];omega⟩),O (dY ?_)];·simp only[dF];rfl
 ·simp only[dF];exact ho
theorem Kr{P:List Cl}{n:Nat}{g:Gm}:∀(j k:Nat)(m m':Mv),gy P n g j k m=(.no,m')->m'=m
 |0,k,m,m',h=>by simp[gy]at h;exact h.symm
 |j+1,k,m,m',h=>by
  rw[gy]at h;have ih:=Kr (P:=P) (n:=n) (g:=g) j (k+1) m m';split at h;·simpa using h.symm
  ·split at h;·exact ih h
   ·simp only at h;split at h;·simp at h
    ·split at h;·simp at h
     ·split at h;·exact ih h
      ·simp at h
theorem Tc{P:List Cl}{q:Nat}(hP:fV P):∀(cs:List Cm)(ds:List jN)(m:Mv)(s:Sv),Oh P q m s cs ds->(q:Int)<=s.vars->Both q (lZ P cs m) (eQ P ds s)
 |[],[],m,s,B,_=>by rw[lZ,eQ];show m.out++_=s.out++_;rw[B.out]
 |[],_::_,m,s,B,_=>B.bC.elim
 |_::_,[],m,s,B,_=>B.bC.elim
 |c::cs,d::ds,m,s,B,dP=>by
  obtain⟨k,hle,hrest⟩:=B.bC;have hdo:=B.ok.bC d (by simp);have Ig:=B.ok.pop;have hpw:=(Wn.1 B.ok.ae6).1;have hv1:=B.ok.GH;simp only at hdo Ig hpw hv1;rw[lZ,eQ,ag4 B.good k.top k.tr k.good];cases hg:d.g with
   |nil=>exact absurd hg hdo.ne
   |cons g rest=>
    simp only;have hlen:=CW (h:=m.h) c.top c.trail k.top;have Oj:l6 (eF m.h c.top c.trail) (s.env.take d.trail) s.vars q m.query m.goals cs ds:=hrest.imp fun x y hx hy r=>by
     obtain⟨h1,h2⟩:=hle x hx;refine r.move (agM h1 h2) (by rw[hlen];exact h1) ?_ ?_ ?_ (qI _) (fun _ _=>rfl) (zL _);·show x.trail<=(m.h.trail.take c.trail).length;rw[dX];have :=k.tr;omega
     ·rw[Wz,Je (hpw y hy)]
     ·rw[dX];have :=hpw y hy;have :=r.Bd;omega
    have Om:=k.snap;rw[hg]at Om;have C:Ic q {m with choices:=cs,h:=eF m.h c.top c.trail} {s with choices:=ds,env:=s.env.take d.trail} c.goal g rest:={good:=k.good,env:=Ig.env,v0:=Ig.RD,v1:=by simp only;omega,qv:=dP,gt:=(hdo.AB g (by rw[hg];simp)).1,fuel:=B.fuel,out:=B.out,tr:=by show(m.h.trail.take c.trail).length<=(s.env.take d.trail).length;rw[dX,dX];have :=k.YV;have :=k.Bd;omega,cur:=Om,bC:=Oj,jD:=by show(eF m.h c.top c.trail).cells.length+300+oC m.fuel m.out<=60000;rw[hlen];exact B.oD c (by simp),oD:=fun x hx=>B.oD x (by simp[hx]),ni:=B.ni};have hcall:=YZ hP C (P.length - d.at_) d.at_ rfl;rw[k.from_];have hno:=Kr (P:=P) (n:=c.goal) (g:=bV m c.goal) (P.length - d.at_) d.at_ {m with choices:=cs,h:=eF m.h c.top c.trail};have Y7:=Cy (P:=P) (g:=g) (rest:=rest) (P.length - d.at_) d.at_ {s with choices:=ds,env:=s.env.take d.trail};have e1:bV {m with choices:=cs,h:=eF m.h c.top c.trail} c.goal=bV m c.goal:=rfl;rw[e1]at hcall;generalize gy P c.goal (bV m c.goal) (P.length - d.at_) d.at_ {m with choices:=cs,h:=eF m.h c.top c.trail}=rm at*;generalize fC P g rest (P.length - d.at_) d.at_ {s with choices:=ds,env:=s.env.take d.trail}=rs at*;obtain⟨ra,m'⟩:=rm;obtain⟨rb,s'⟩:=rs;cases ra with
     |next=>cases rb with|next gl=>exact hcall|no=>exact hcall.elim|off=>exact hcall.elim
     |off=>cases rb with|next gl=>exact hcall.elim|no=>exact hcall.elim|off=>exact hcall
     |no=>cases rb with|next gl=>exact hcall.elim|off=>exact hcall.elim|no=>obtain rfl:=hno m' rfl;obtain rfl:=Y7 s' rfl;simp only;exact Tc hP cs ds _ _ ⟨Ig,k.good,B.fuel,B.out,Oj,fun x hx=>B.oD x (by simp[hx]),B.ni⟩ dP
section
variable {N : Int} {l : List Ce} {φ : Int → Int} {E : Env}
theorem Ih{a:Int}{t:Tm}(h:mI N l φ E a t)(hne:t.args≠[]):∀(i:Nat)(hi:i<t.args.length),Hr l φ E (fun _=>True) (a+1+(i:Nat)) t.args[i]:=by
 have hk:t.kind=3:=by
  rcases h.goal with hk|hk;·have :=h.Bc;cases this with|var=>cases hk|atom=>exact absurd rfl hne|int=>cases hk|comp=>rfl
  ·exact hk
 have hs:ai E t=t:=kD (.inl (by rw[hk];decide));have hl:Looks l a a:= .stop h.jW (.inl h.kind);cases h.tells with|var h1 h2 h3 h4 h5=>rw[hs,hk]at h4;simp at h4|leaf h1 h2 h3 h4 h5 h6 h7=>rw[hs,hk]at h4;exact absurd rfl h4|comp h1 h2 h3 h4 h5 h6 h7=>obtain rfl:=hl.MC h1;simp only[hs]at h7;exact h7
theorem Te{K:Int->Prop}{a:Int}{t:Tm}(h:Hr l φ E K a t):((cellAt l (look l a)).kind=2↔(ai E t).kind=2)/\((ai E t).kind=2->(cellAt l (look l a)).n=(ai E t).n):=by cases h with|var h1 h2 h3 h4 h5=>rw[jw h1,h2,h4];exact⟨by decide,fun h=>absurd h (by decide)⟩|leaf h1 h2 h3 h4 h5 h6 h7=>rw[jw h1,h2];exact⟨Mk,fun _=>h5⟩|comp h1 h2 h3 h4 h5 h6 h7=>rw[jw h1,h2,h3];exact⟨by decide,fun h=>absurd h (by decide)⟩
end
structure ag5 (N : Int) (φ : Int → Int) (h : Hp) (E : Env) (u : Hp) (E' : Env) : Prop where
  good : u.Good
  tr : u.trail.length ≤ E'.length
  len : u.cells.length = h.cells.length
  NL : Mon N u.cells φ E'
  tells : ∀ a x, x.In N → Hr h.cells φ E (fun _ => True) a x → Hr u.cells φ E' (fun _ => True) a x
  cells : ∀ a, Inb h.cells a → (cellAt h.cells a).kind ≠ 0 → cellAt u.cells a = cellAt h.cells a ∧ Inb u.cells a
  old : ∀ top tr, top ≤ h.cells.length → tr ≤ h.trail.length → eF u top tr = eF h top tr
  trl : h.trail.length ≤ u.trail.length
theorem ag6{N:Int}{φ:Int->Int}{h:Hp}{E:Env}{a b:Int}{ta tb:Tm}(hg:h.Good)(hE:cu N E)(hN0:0<=N)(hN:N<=40000)(hM:Mon N h.cells φ E)(htr:h.trail.length<=E.length)(ha:Hr h.cells φ E (fun _=>True) a ta)(hb:Hr h.cells φ E (fun _=>True) b tb)(ia:ta.In N)(ib:tb.In N):((aO 400 [(ta,tb)] E).work<0->(iB h a b).2.2≠0)/\(¬(aO 400 [(ta,tb)] E).work<0->(iB h a b).2.2=0/\(iB h a b).2.1=(aO 400 [(ta,tb)] E).ok/\((aO 400 [(ta,tb)] E).ok=false->(iB h a b).1=h)/\((aO 400 [(ta,tb)] E).ok=true->ag5 N φ h E (iB h a b).1 (aO 400 [(ta,tb)] E).env)):=by
 have hia:Inb h.cells a:=by obtain⟨x,hx⟩:=ha.looks;exact hx.start
 have hib:Inb h.cells b:=by obtain⟨x,hx⟩:=hb.looks;exact hx.start
 have hIs:∀p∈[(ta,tb)],p.1.In N/\p.2.In N:=by intro p hp;simp only[iX]at hp;subst hp;exact⟨ia,ib⟩
 have aEY:=afY (N:=N) 400 [(a,b)] [(ta,tb)] h.cells E h.trail hE hM ⟨⟨ha,hb⟩,trivial⟩ hIs;have Kn:=Es (N:=N) 400 [(ta,tb)] E hE hIs;have Ko:=Re 400 [(a,b)] h.cells h.trail;rw[agQ hg hia hib];generalize aU 400 [(a,b)] h.cells h.trail=u at aEY Ko ⊢;generalize aO 400 [(ta,tb)] E=u' at aEY Kn ⊢;refine⟨fun hw=>by rw[G (show u.work<0 by rw[aEY.work];exact hw)];simp,fun hw=>?_⟩;rw[O (show ¬u.work<0 by rw[aEY.work];exact hw)];by_cases hok:u'.ok=false;·rw[G (show u.ok=false by rw[aEY.ok];exact hok),hok];exact⟨rfl,rfl,fun _=>rfl,fun h=>by simp at h⟩
 have hok':u.ok=true:=by rw[aEY.ok];simpa using hok
 rw[O (show ¬u.ok=false by rw[hok'];decide)];obtain⟨vs,t1,t2,t3⟩:=aEY.trail hok';obtain⟨vs',t1',hB, -, -⟩:=Ko hok';have hvs:vs'=vs:=List.append_cancel_left (t1'.symm.trans t1);subst hvs;have hel:=agP Kn.1 hN0;have htl:u.trail.length<=65536:=by rw[t1,bB];omega
 rw[O (show ¬65536<u.trail.length by omega)];refine⟨rfl,by simp only;rw[<-aEY.ok,hok'],fun h=>absurd h hok,fun _=>?_⟩;rw[t1]at htl;simp only[t1];refine⟨agS hg hB (fun x hx=>(t3 x hx).1) htl,by simp only[bB];omega,hB.1,aEY.NL hok',aEY.tells hok',fun x hx hk=>agR hB hx hk,fun top tr h1 h2=>?_,by simp⟩;have hB':rG (h.cells++[]) vs' u.cells:=by rw[sG];exact hB
 exact YW hB' h1 h2
def ari(P:List Cl)(q:Nat)(nx:Int)(rest:List Gl):Option Bool×Mv->Option Bool×Sv->Prop|(none,m),(none,s)=>m.out=s.out|(some true,m),(some true,s)=>Dh q {m with now:=nx} s rest|(some false,m),(some false,s)=>fZ P s->Oh P q m s m.choices s.choices|_,_=>False
theorem arj{N:Int}{E:Env}(hE:cu N E)(z:Tm)(hz:z.In N)(n:Int):0<=(aO 400 [(z,.mk 2 n .empty [])] E).work:=by
 have h2:ai E (.mk 2 n .empty [])= .mk 2 n .empty []:=kD (.inl (by show(2:Int)≠0;decide));rw[aO];simp only[h2,show(Tm.mk 2 n .empty []).kind=2 from rfl,show((2:Int)=0)=False from by simp,and_false,vI,if_false];split
 ·rename_i hk;have hin:dh E (ai E z).n 399 [.mk 2 n .empty []]=(false,398):=by rw[Gz,h2,O (by show ¬(2:Int)=0;decide)];show dh E _ 398 ([]++[])=_;rw[sG,Gy];rfl
  rw[hin];simp only[xe,false_or];rw[O (by omega),Cu];simp only;omega
 ·split;·simp only;omega
  ·rename_i h1 h3;have :(ai E z).args.length=0:=(anc.1 h3).2.2.2;rw[Jb]at this;rw[this];show 0<=(aO 399 ([]++[]) E).work;rw[sG,Cu];simp only;omega
section
variable {P : List Cl} {q : Nat} {m : Mv} {s : Sv} {n : Nat} {g : Gl} {rest : List Gl}
theorem ag7{φ:Int->Int}{u:Hp}{E':Env}{h:Hp}(C:Ic q m s n g rest)(hlen:h.cells.length<=m.h.cells.length+1)(hle:m.h.cells.length<=h.cells.length)(htr:h.trail=m.h.trail)(hold:∀top tr,top<=m.h.cells.length->tr<=m.h.trail.length->eF h top tr=eF m.h top tr)(hE:∃F,E'=s.env++F)(aEY:ag5 s.vars φ h s.env u E')(hq:∀v:Nat,v<q->Inb h.cells (m.query+(v:Nat))/\Hr h.cells φ s.env (fun _=>True) (m.query+(v:Nat)) (fK (v:Nat)))(nx:Int)(hch:pK s.vars h.cells φ s.env m.goals nx rest):Dh q {{m with h:=u}with now:=nx} {s with env:=E'} rest:=by
 obtain⟨F,rfl⟩:=hE;refine⟨aEY.good,C.fuel,C.out,aEY.tr,⟨φ,aEY.NL,fun v hv=>?_,hch.imp (fun _ _=>rfl) (zL _) fun a t k=>?_⟩,C.bC.imp fun c d hc hd k=>k.move ?_ ?_ ?_ ?_ ?_ (qI _) (fun _ _=>rfl) (zL _),?_,C.oD,by have :=C.ni;simp only;omega⟩;·obtain⟨q1,q2⟩:=hq v hv;refine⟨?_,aEY.tells _ _ (.var _ (by omega) (by have :=C.qv;omega)) q2⟩;have :=aEY.len;unfold Inb at q1 ⊢;simp only;omega
 ·obtain⟨k1,k2⟩:=aEY.cells a k.jW k.kind;exact k.move (qI _) k1 k2 (aEY.tells _ _ k.Bc k.tells)
 ·exact(aEY.old _ _ (by have :=k.top;omega) (by rw[htr];exact k.tr)).trans (hold _ _ k.top k.tr)
 ·have :=aEY.len;have :=k.top;simp only;omega
 ·have h1:=aEY.trl;rw[htr]at h1;have :=k.tr;simp only;omega
 ·rw[adv k.Bd]
 ·simp only[bB];have :=k.Bd;omega
 ·have :=C.jD;have :=aEY.len;simp only;omega
theorem ag8{E':Env}{h:Hp}(C:Ic q m s n g rest)(hg:h.Good)(hle:m.h.cells.length<=h.cells.length)(htr:h.trail=m.h.trail)(hold:∀top tr,top<=m.h.cells.length->tr<=m.h.trail.length->eF h top tr=eF m.h top tr)(hE:∃F,E'=s.env++F)(hok:fZ P {s with env:=E'}):Oh P q {m with h:=h} {s with env:=E'} m.choices s.choices:=by
 obtain⟨F,rfl⟩:=hE;refine⟨hok,hg,C.fuel,C.out,C.bC.imp fun c d hc hd k=>k.move (hold _ _ k.top k.tr) ?_ ?_ ?_ ?_ (qI _) (fun _ _=>rfl) (zL _),C.oD,C.ni⟩;·have :=k.top;simp only;omega
 ·simp only[htr];exact k.tr
 ·rw[adv k.Bd]
 ·simp only[bB];have :=k.Bd;omega
theorem ag9(C:Ic q m s n g rest)(hk:g.t.jL):ari P q (bV m n).next rest (pJ (bV m n) m) (jh g s):=by
 obtain⟨φ,hM,hq,kk,e1,hlt,tO,hga,hnx,hch⟩:=C.cur;have e2:kk=n:=by omega
 subst e2;have hgm:bV m kk=(m.goals[kk]?).getD default:=rfl;rw[<-hgm]at tO hga hnx hch;generalize bV m kk=gm at*;have Y1:=C.bC.len;unfold pJ jh;have hcs:(cellAt m.h.cells gm.at_).s=g.t.s:=by rw[hga.cell]
 simp only[hcs];have aA9:∀c k,Dh q {{m with choices:=m.choices.drop c}with now:=gm.next} {s with choices:=s.choices.drop k} rest↔Dh q {{m with choices:=m.choices.drop c}with now:=gm.next} {s with choices:=s.choices.drop k} rest:=fun _ _=>Mk;by_cases n1:g.t.s.toList=[33]
 ·rw[G n1,G n1];have he:m.choices.length - min gm.bar m.choices.length=s.choices.length - g.bar:=by rw[tO,<-Y1];omega
  rw[he];exact⟨C.good,C.fuel,C.out,C.tr,⟨φ,hM,hq,hch⟩,C.bC.drop _,by have :=C.jD;simp only;omega,fun c hc=>C.oD c (Md hc),by have :=C.ni;simp only;omega⟩
 rw[O n1,O n1];have hon:Dh q {m with now:=gm.next} s rest:=⟨C.good,C.fuel,C.out,C.tr,⟨φ,hM,hq,hch⟩,C.bC,by have :=C.jD;simp only;omega,C.oD,by have :=C.ni;simp only;omega⟩;by_cases n2:g.t.s.toList=[116,114,117,101];·rw[G n2,G n2];exact hon
 rw[O n2,O n2];have hoff:fZ P s->Oh P q m s m.choices s.choices:=fun hok=>⟨hok,C.good,C.fuel,C.out,C.bC,C.oD,C.ni⟩;by_cases n3:g.t.s.toList=[102,97,105,108];·rw[G n3,G n3];exact hoff
 rw[O n3,O n3];have Y8:∀k:Int,m.out++[(⟨k,[]⟩:Ev)]=s.out++[⟨k,[]⟩]:=fun k=>by rw[C.out]
 by_cases n4:g.t.s.toList=[101,113]
 ·rw[G n4,G n4];have h2:g.t.args.length=2:=by
   rcases hk with⟨_,h|h|h⟩|⟨h,_⟩|⟨_,h⟩;·exact absurd h n1
   ·exact absurd h n2
   ·exact absurd h n3
   ·exact h
   ·rw[n4]at h;simp at h
  have hne:g.t.args≠[]:=fun h=>by rw[h]at h2;simp at h2
  have ha:=Ih hga hne 0 (by omega);have hb:=Ih hga hne 1 (by omega);rw[show gm.at_+1+((0:Nat):Int)=gm.at_+1 by omega]at ha;rw[show gm.at_+1+((1:Nat):Int)=gm.at_+2 by omega]at hb;rw[show(g.t.args[0]?).getD default=g.t.args[0]by rw[aJ (by omega)];rfl,show(g.t.args[1]?).getD default=g.t.args[1]by rw[aJ (by omega)];rfl];have ia:g.t.args[0].In s.vars:=hga.Bc.arg (bN _);have ib:g.t.args[1].In s.vars:=hga.Bc.arg (bN _);obtain⟨u1,u2⟩:=ag6 C.good C.env C.v0 C.v1 hM C.tr ha hb ia ib;obtain⟨-,F,hF, -⟩:=Es (N:=s.vars) 400 [(g.t.args[0],g.t.args[1])] s.env C.env (by intro p hp;simp only[iX]at hp;subst hp;exact⟨ia,ib⟩);generalize aO 400 [(g.t.args[0],g.t.args[1])] s.env=u' at*;generalize iB m.h (gm.at_+1) (gm.at_+2)=u at*;by_cases hw:u'.work<0;·rw[G (u1 hw),G hw];exact Y8 4
  ·obtain⟨v1,v2,v3,v4⟩:=u2 hw;rw[O (dY v1),O hw,v2];cases ho:u'.ok with|true=>exact ag7 C (Nat.le_succ _) (zL _) rfl (fun _ _ _ _=>rfl) ⟨F,hF⟩ (v4 ho) hq _ hch|false=>intro hok;rw[v3 ho];exact ag8 C C.good (zL _) rfl (fun _ _ _ _=>rfl) ⟨F,hF⟩ hok
 rw[O n4,O n4];have h2:2<=g.t.args.length:=by
  rcases hk with⟨_,h|h|h⟩|⟨h,_⟩|⟨h,_⟩;·exact absurd h n1
  ·exact absurd h n2
  ·exact absurd h n3
  ·omega
  ·omega
 have hne:g.t.args≠[]:=fun h=>by rw[h]at h2;simp at h2
 have ha:=Ih hga hne 0 (by omega);have hb:=Ih hga hne 1 (by omega);rw[show gm.at_+1+((0:Nat):Int)=gm.at_+1 by omega]at ha;rw[show gm.at_+1+((1:Nat):Int)=gm.at_+2 by omega]at hb;rw[show(g.t.args[0]?).getD default=g.t.args[0]by rw[aJ (by omega)];rfl,show(g.t.args[1]?).getD default=g.t.args[1]by rw[aJ (by omega)];rfl];obtain⟨a1,a2⟩:=Te ha;obtain⟨b1,b2⟩:=Te hb;by_cases hn:(ai s.env g.t.args[0]).kind≠2\/(ai s.env g.t.args[1]).kind≠2;·rw[G (hn.imp (fun h e=>h (a1.1 e)) (fun h e=>h (b1.1 e))),G hn];exact Y8 5
 have hn':(ai s.env g.t.args[0]).kind=2/\(ai s.env g.t.args[1]).kind=2:=by omega
 rw[O (fun h=>h.elim (fun h=>h (a1.2 hn'.1)) (fun h=>h (b1.2 hn'.2))),O hn,a2 hn'.1,b2 hn'.2];by_cases n5:g.t.s.toList=[108,101,115,115];·rw[G n5,G n5];cases decide ((ai s.env g.t.args[0]).n<(ai s.env g.t.args[1]).n)with|true=>exact hon|false=>exact hoff
 rw[O n5,O n5];by_cases hbig:(ai s.env g.t.args[0]).n+(ai s.env g.t.args[1]).n>1099511627776\/(ai s.env g.t.args[0]).n+(ai s.env g.t.args[1]).n< -1099511627776;·rw[G hbig,G hbig];exact Y8 5
 rw[O hbig,O hbig];have h3:g.t.args.length=3:=by
  rcases hk with⟨_,h|h|h⟩|⟨_,h|h⟩|⟨h,_⟩;·exact absurd h n1
  ·exact absurd h n2
  ·exact absurd h n3
  ·exact absurd h n4
  ·exact absurd h n5
  ·exact h
 generalize(ai s.env g.t.args[0]).n+(ai s.env g.t.args[1]).n=k at*;have hc:=Ih hga hne 2 (by omega);rw[show gm.at_+1+((2:Nat):Int)=gm.at_+3 by omega]at hc;rw[show(g.t.args[2]?).getD default=g.t.args[2]by rw[aJ (by omega)];rfl];have ic:g.t.args[2].In s.vars:=hga.Bc.arg (bN _);have id_:(Tm.mk 2 k .empty []).In s.vars:= .int _ (by omega) (by omega);have hFg:iH [(⟨2,k,.empty⟩:Ce)]:=fun i hi=>by
  simp only[dZ]at hi;have :i=0:=by omega
  subst this;exact .inr (.inr (.inl ⟨rfl,J6⟩))
 have hF0:NF 0 [(⟨2,k,.empty⟩:Ce)]:=fun i x hx _ hk=>by cases i with|zero=>simp only[yx,bW]at hx;subst hx;simp at hk|succ i=>simp at hx
 have hlen:m.h.cells.length+[(⟨2,k,.empty⟩:Ce)].length<=65536:=by have :=C.jD;simp only[dZ];omega
 rw[SX C.good hFg hlen];simp only[ne_eq,QS,if_false];have hg1:=YM C.good hFg hlen;have hM1:=YQ hM C.env C.v0 hF0;rw[show s.vars+((0:Nat):Int)=s.vars by omega]at hM1;have hcl:∀a t,Inb m.h.cells a->Hr m.h.cells φ s.env (fun _=>True) a t->Hr (m.h.cells++[(⟨2,k,.empty⟩:Ce)].map (dn m.h.cells.length)) (mG m.h.cells s.vars φ) s.env (fun _=>True) a t:=fun a t hi h=>SL C.good.1 hi h;have hci:Inb m.h.cells (gm.at_+3):=by obtain⟨x,hx⟩:=hc.looks;exact hx.start
 have hI0:Inb [(⟨2,k,.empty⟩:Ce)] 0:=⟨by omega,by simp⟩;obtain⟨c1,c2⟩:=ES (H:=m.h.cells) hI0;rw[show(0:Int)+(m.h.cells.length:Int)=(m.h.cells.length:Int)by omega,show cellAt [(⟨2,k,.empty⟩:Ce)] 0=⟨2,k,.empty⟩from rfl,C9 _ (by simp)]at c1;rw[show(0:Int)+(m.h.cells.length:Int)=(m.h.cells.length:Int)by omega]at c2;have hst:ai s.env (.mk 2 k .empty [])= .mk 2 k .empty []:=kD (.inl (by simp[Tm.kind]));have hd:Hr (m.h.cells++[(⟨2,k,.empty⟩:Ce)].map (dn m.h.cells.length)) (mG m.h.cells s.vars φ) s.env (fun _=>True) (m.h.cells.length:Int) (.mk 2 k .empty []):= .leaf (.stop c2 (.inl (by rw[c1];simp))) (by rw[c1,hst];rfl) (by rw[hst];simp[Tm.kind]) (by rw[hst];simp[Tm.kind]) (by rw[c1,hst];rfl) (by rw[c1,hst];rfl) (by rw[hst];rfl);obtain⟨u1,u2⟩:=ag6 (h:=⟨m.h.cells++[(⟨2,k,.empty⟩:Ce)].map (dn m.h.cells.length),m.h.trail⟩) hg1 C.env C.v0 C.v1 hM1 C.tr (hcl _ _ hci hc) hd ic id_;obtain⟨-,F,hF, -⟩:=Es (N:=s.vars) 400 [(g.t.args[2],.mk 2 k .empty [])] s.env C.env (by intro p hp;simp only[iX]at hp;subst hp;exact⟨ic,id_⟩);have hwk:=arj C.env g.t.args[2] ic k;generalize aO 400 [(g.t.args[2],Tm.mk 2 k .empty [])] s.env=u' at*;generalize hu:iB ⟨m.h.cells++[(⟨2,k,.empty⟩:Ce)].map (dn m.h.cells.length),m.h.trail⟩ (gm.at_+3) (m.h.cells.length:Int)=u at*;obtain⟨v1,v2,v3,v4⟩:=u2 (by omega);rw[O (dY v1),v2];have hold:∀top tr,top<=m.h.cells.length->tr<=m.h.trail.length->eF ⟨m.h.cells++[(⟨2,k,.empty⟩:Ce)].map (dn m.h.cells.length),m.h.trail⟩ top tr=eF m.h top tr:=fun top tr h1 h2=>by have :=YW (rG.refl (m.h.cells++[(⟨2,k,.empty⟩:Ce)].map (dn m.h.cells.length))) h1 h2;rw[sG]at this;exact this
 cases ho:u'.ok with
  |true=>
   refine ag7 (h:=⟨m.h.cells++[(⟨2,k,.empty⟩:Ce)].map (dn m.h.cells.length),m.h.trail⟩) C (by simp) (by simp) rfl hold ⟨F,hF⟩ (v4 ho) (fun v hv=>?_) _ (hch.imp (fun _ _=>rfl) (zL _) fun a t Tf=>?_);·obtain⟨q1,q2⟩:=hq v hv;exact⟨(H7 q1).2,hcl _ _ q1 q2⟩
   ·have hl:=H7 (F:=[(⟨2,k,.empty⟩:Ce)]) Tf.jW;exact Tf.move (qI _) hl.1 hl.2 (hcl _ _ Tf.jW Tf.tells)
  |false=>intro hok;rw[v3 ho];have jP:=ag8 (h:=⟨m.h.cells++[(⟨2,k,.empty⟩:Ce)].map (dn m.h.cells.length),m.h.trail⟩) C hg1 (by simp) rfl hold ⟨F,hF⟩ hok;exact jP
end
theorem ahb{P:List Cl}{t:Tm}:∀(n k:Nat),n=P.length - k->k<=P.length->(jT P t n k=P.length↔∀(i:Nat)(h:i<P.length),k<=i->¬jB (P[i]).head t)
 |0,k,hn,hk=>by rw[jT];exact⟨fun _ i h hi=>by omega,fun _=>by omega⟩
 |n+1,k,hn,hk=>by
  have hlt:k<P.length:=by omega
  have ih:=ahb (P:=P) (t:=t) n (k+1) (by omega) (by omega);rw[jT,aJ hlt];simp only;by_cases h:jB (P[k]).head t;·rw[G h];exact⟨fun e=>by omega,fun h2=>absurd h (h2 k hlt (zL _))⟩
  ·rw[O h,ih];refine⟨fun h2 i hi hki=>?_,fun h2 i hi hki=>h2 i hi (by omega)⟩;by_cases e:i=k;·subst e;exact h
   ·exact h2 i hi (by omega)
theorem ahc{N:Int}{l:List Ce}{φ:Int->Int}{E:Env}{a:Int}{t:Tm}(h:mI N l φ E a t):zb (cellAt l a)↔t.jL:=by unfold zb Tm.jL;rw[h.cell];simp[Tm.args,Tm.s]
section
variable {P : List Cl} {q : Nat} {m : Mv} {s : Sv} {g : Gl} {rest : List Gl}
theorem ahd(hP:fV P)(S:uV P q m s (g::rest))(dP:(q:Int)<=s.vars):Both q (mH P m) (ig P g rest s):=by
 obtain⟨hok,tQ,S⟩:=S;unfold mH ig;rw[S.fuel];by_cases hf:s.fuel=0;·rw[G hf,G hf];show m.out++_=s.out++_;rw[S.out]
 rw[O hf,O hf];obtain⟨φ,hM,hq,kk,e1,hlt,tO,hga,hnx,hch⟩:=S.cur;obtain rfl:kk=m.now.toNat:=by omega
 have hp:=Nc s.fuel s.choices hf;have hs1:fZ P {s with fuel:=s.fuel - 1}:=by obtain⟨h1,h2,h3,h4,h5,h6,h7,h8⟩:=hok;rw[hp]at h6 h7;exact⟨h1,h2,h3,h4,h5,by simp only;omega,by simp only;omega,by simp only;omega⟩
 have hpV:=hok.GH;have tT:=hok.ae7;rw[hp]at tT;have hsl:∀c:Nat,c+oC m.fuel m.out<=60000->c+300+oC (s.fuel - 1) m.out<=60000:=fun c h=>by unfold oC at h ⊢;rw[S.fuel]at h;omega
 have hsl2:∀c:Nat,c+300+oC m.fuel m.out<=60000->c+300+oC (s.fuel - 1) m.out<=60000:=fun c h=>by unfold oC at h ⊢;rw[S.fuel]at h;omega
 have Y9:m.goals.length+5+Df (s.fuel - 1) m.out<=5000:=by have h:=S.ni;unfold Df at h ⊢;rw[S.fuel]at h;omega
 have C:Ic q {m with fuel:=s.fuel - 1} {s with fuel:=s.fuel - 1} m.now.toNat g rest:={good:=S.good,env:=hok.env,v0:=hok.RD,v1:=by simp only;omega,qv:=dP,gt:=(tQ g (by simp)).1,fuel:=rfl,out:=S.out,tr:=S.tr,cur:=⟨φ,hM,hq,m.now.toNat,rfl,hlt,tO,hga,by rw[<-e1];exact hnx,hch⟩,bC:=S.bC,jD:=hsl _ S.jD,oD:=fun c hc=>hsl2 _ (S.oD c hc),ni:=Y9};have hB:Oh P q {m with fuel:=s.fuel - 1} {s with fuel:=s.fuel - 1} m.choices s.choices:=⟨hs1,S.good,rfl,S.out,S.bC,C.oD,C.ni⟩;have aBa:bV {m with fuel:=s.fuel - 1} m.now.toNat=(m.goals[m.now.toNat]?).getD default:=rfl;simp only;have zi:mI s.vars m.h.cells φ s.env (bV {m with fuel:=s.fuel - 1} m.now.toNat).at_ g.t:=hga;have hkc:=ahc zi;by_cases hk:g.t.jL;·rw[G (hkc.2 hk),G hk];have hks:=ag9 (P:=P) C hk;have jP:=fun(r:Option Bool)(s':Sv)(e:jh g {s with fuel:=s.fuel - 1}=(r,s'))(hr:r≠none)=>JE hs1 (tQ g (by simp)).1 hk (by simp only;omega) e hr;generalize pJ (bV {m with fuel:=s.fuel - 1} m.now.toNat) {m with fuel:=s.fuel - 1}=rm at*;generalize jh g {s with fuel:=s.fuel - 1}=rs at*;obtain⟨ra,m'⟩:=rm;obtain⟨rb,s'⟩:=rs;match ra,rb,hks,jP with|none,none,hks,_=>exact hks|some true,some true,hks,_=>exact hks|some false,some false,hks,jP=>obtain⟨a1,a2,a3,a4⟩:=jP (some false) s' rfl (by simp);exact Tc hP _ _ _ _ (hks a1) (by rw[a4];exact dP)|none,some b,hks,_=>cases b<;>exact hks.elim|some b,none,hks,_=>cases b<;>exact hks.elim|some true,some false,hks,_=>exact hks.elim|some false,some true,hks,_=>exact hks.elim
 ·rw[O (fun h=>hk (hkc.1 h)),O hk];have hnext:cB P (cellAt m.h.cells (bV {m with fuel:=s.fuel - 1} m.now.toNat).at_) P.length 0=jT P g.t P.length 0:=YX zi P _ _;rw[hnext];have hall:=ahb (P:=P) (t:=g.t) P.length 0 (by omega) (dA _);by_cases hn:∀c∈P,¬jB c.head g.t;·rw[G (hall.2 fun i h _=>hn _ (bN h)),G hn];show m.out++_=s.out++_;rw[S.out]
  ·rw[O (fun h=>hn fun c hc=>by obtain⟨i,hi,rfl⟩:=vH.1 hc;exact hall.1 h i hi (dA _)),O hn];have hcall:=YZ hP C P.length 0 (by omega);have hno:=Kr (P:=P) (n:=m.now.toNat) (g:=bV {m with fuel:=s.fuel - 1} m.now.toNat) P.length 0 {m with fuel:=s.fuel - 1};have Y7:=Cy (P:=P) (g:=g) (rest:=rest) P.length 0 {s with fuel:=s.fuel - 1};generalize gy P m.now.toNat (bV {m with fuel:=s.fuel - 1} m.now.toNat) P.length 0 {m with fuel:=s.fuel - 1}=rm at*;generalize fC P g rest P.length 0 {s with fuel:=s.fuel - 1}=rs at*;obtain⟨ra,m'⟩:=rm;obtain⟨rb,s'⟩:=rs;cases ra with
   |next=>cases rb with|next gl=>exact hcall|no=>exact hcall.elim|off=>exact hcall.elim
   |off=>cases rb with|next gl=>exact hcall.elim|no=>exact hcall.elim|off=>exact hcall
   |no=>cases rb with|next gl=>exact hcall.elim|off=>exact hcall.elim|no=>obtain rfl:=hno m' rfl;obtain rfl:=Y7 s' rfl;exact Tc hP _ _ _ _ hB dP
def arn(l:List Ce)(φ:Int->Int):Option (List Tm×Int)->Option (List Tm×Nat)->Prop|none,none=>True|some (xs,left),some (ys,w)=>left=(w:Int)/\w<=200/\ys=xs.map (Tm.ren φ)/\∀x∈xs,x.Vars (iI l)|_,_=>False
theorem ahe{h:Hp}{φ:Int->Int}{E:Env}{N:Int}{query:Int}(hg:h.Good)(hE:cu N E)(hqN:(q:Int)<=N)(hq:∀v:Nat,v<q->Inb h.cells (query+(v:Nat))/\Hr h.cells φ E (fun _=>True) (query+(v:Nat)) (fK (v:Nat))):∀v:Nat,v<=q->arn h.cells φ (qy h query v) (bU E 200 ((List.range v).map fun i=>fK (i:Nat)))
 |0,_=>by rw[qy];simp only[List.range_zero,D8,yK];exact⟨rfl,zL _,rfl,by simp⟩
 |v+1,hv=>by
  have ih:=ahe hg hE hqN hq v (by omega);rw[qy,adN,qF,YU];revert ih;cases qy h query v with
   |none=>cases bU E 200 ((List.range v).map fun i=>fK (i:Nat))with|none=>intro _;trivial|some p=>intro h;exact h.elim
   |some p=>
    obtain⟨xs,left⟩:=p;cases bU E 200 ((List.range v).map fun i=>fK (i:Nat))with
     |none=>intro h;exact h.elim
     |some p=>
      obtain⟨ys,w⟩:=p;rintro⟨rfl,hw,e2,e3⟩;simp only;obtain⟨q1,q2⟩:=hq v (by omega);have hl:leftOf (w:Int)=(w:Int):=by unfold leftOf;omega
      have hA:=aq0 (l:=h.cells) (φ:=φ) hE w [query+(v:Nat)] [fK (v:Nat)] ⟨q2,trivial⟩ (by intro t ht;simp only[iX]at ht;subst ht;exact .var _ (by omega) (by omega));have ht:dK h (query+(v:Nat)) (w:Int)=AY (w:Int) (jV h.cells w (query+(v:Nat))):=by rw[dK,O (dY hg),O (dY q1),hl,dF]
      rw[ht];unfold jV;simp only[sH,D8];have hle:=Js h.cells w [query+(v:Nat)];revert hA hle;cases eO h.cells w [query+(v:Nat)]with
       |none=>cases bU E w [fK (v:Nat)]with|none=>intro _ _;simp only[AY];trivial|some p=>intro h;exact h.elim
       |some p=>
        obtain⟨zs,w1⟩:=p;cases bU E w [fK (v:Nat)]with
         |none=>intro h;exact h.elim
         |some p=>
          obtain⟨us,w2⟩:=p;rintro⟨rfl,d2,d3⟩hle;obtain⟨h1,h2⟩:=hle zs w1 rfl;match zs,h2,d2,d3 with
           |[z],_,d2,d3=>
            simp only[AY,ne_eq,QS,if_false];refine⟨by omega,by omega,by rw[e2,d2,qF],fun x hx=>?_⟩;rcases iw.1 hx with hx|hx;·exact e3 x hx
            ·exact d3 x hx
theorem ahf(hP:fV P)(S:uV P q m s [])(dP:(q:Int)<=s.vars)(hout:s.out.length<=11):Both q (uU P q m) (match kE q s with|(false,s')=>(.off,s')|(true,s')=>eQ P s'.choices s'):=by
 obtain⟨hok,tQ,S⟩:=S;obtain⟨φ,hM,hq,hch⟩:=S.cur;have ht:=ahe S.good hok.env dP hq q (zL _);unfold uU kE;revert ht;cases qy m.h m.query q with
  |none=>cases bU s.env 200 ((List.range q).map fun i=>fK (i:Nat))with|none=>intro _;show m.out++_=s.out++_;rw[S.out]|some p=>intro h;exact h.elim
  |some p=>
   obtain⟨xs,left⟩:=p;cases bU s.env 200 ((List.range q).map fun i=>fK (i:Nat))with
    |none=>intro h;exact h.elim
    |some p=>
     obtain⟨ys,w⟩:=p;rintro⟨-, -,e2,e3⟩;simp only;rw[aq1 hM e2 e3,S.out];by_cases h12:(s.out++[(⟨1,tidy xs⟩:Ev)]).length≥12;·rw[G h12,G h12];show _++_=_++_;rfl
     ·rw[O h12,O h12];simp only;refine Tc hP _ _ _ _ ⟨?_,S.good,S.fuel,rfl,S.bC,fun c hc=>?_,?_⟩ dP;·obtain⟨h1,h2,h3,h4,h5,h6,h7,h8⟩:=hok;exact⟨h1,h2,h3,h4,h5,h6,h7,h8⟩
      ·have :=S.oD c hc;rw[S.out]at this;unfold oC at this ⊢;simp only[bB,dZ]at h12 ⊢;omega
      ·have :=S.ni;rw[S.out]at this;unfold Df at this ⊢;simp only[bB,dZ]at h12 ⊢;omega
end
inductive qW (gs : List Gm) (l : List Ce) : Nat → Prop where
  | mk (i : Nat) : i < gs.length → Inb l ((gs[i]?).getD default).at_ → ((gs[i]?).getD default).next < i → (0 ≤ ((gs[i]?).getD default).next → qW gs l ((gs[i]?).getD default).next.toNat) → qW gs l i
theorem Oo{N:Int}{l l':List Ce}{φ:Int->Int}{E:Env}{gs:List Gm}(hl:∀a,Inb l' a->Inb l a):∀(gl:List Gl)(n:Int),pK N l' φ E gs n gl->0<=n->qW gs l n.toNat|[],n,h,h0=>by have :n= -1:=h;omega|g::r,n,⟨k,h1,h2,h3,h4,h5,h6⟩,h0=>by subst h1;rw[dF];exact .mk k h2 (hl _ h4.jW) (by omega) fun h=>Oo hl r _ h6 h
def Tg(gs:List Gm)(ak:List Nat):Prop:=∀i∈ak,((gs[i]?).getD default).next<0\/((gs[i]?).getD default).next.toNat∈ak
section
variable {gs : List Gm} {l : List Ce}
theorem ahg:∀(k:Nat)(n:Int)(ak:List Nat),(0<=n->n.toNat<k)->(0<=n->qW gs l n.toNat)->(∀i∈ak,qW gs l i)->(∀i∈ak,((gs[i]?).getD default).next<0\/((gs[i]?).getD default).next.toNat∈ak\/((gs[i]?).getD default).next=n)->Tg gs (visitM gs k n ak)/\(∀i∈ak,i∈visitM gs k n ak)/\(0<=n->n.toNat∈visitM gs k n ak)/\∀i∈visitM gs k n ak,qW gs l i
 |0,n,ak,hk,hn,hv,hc=>by
  rw[visitM];refine⟨fun i hi=>?_,fun i hi=>hi,fun h=>absurd (hk h) (QV _),hv⟩;rcases hc i hi with h|h|h;·exact .inl h
  ·exact .inr h
  ·have :¬0<=n:=fun h0=>absurd (hk h0) (QV _);exact .inl (by omega)
 |k+1,n,ak,hk,hn,hv,hc=>by
  rw[visitM];by_cases h:n<0\/n.toNat∈ak
  ·rw[G h];refine⟨fun i hi=>?_,fun i hi=>hi,fun h0=>h.elim (fun h=>by omega) id,hv⟩;rcases hc i hi with h1|h1|h1;·exact .inl h1
   ·exact .inr h1
   ·rcases h with h|h;·exact .inl (by omega)
    ·exact .inr (by rw[h1];exact h)
  ·rw[O h];have h0:0<=n:=by omega
   have G6:=hn h0;have hlt:=hk h0;cases G6 with
    |mk _ v1 v2 v3 v4=>
     obtain⟨c1,c2,c3,c4⟩:=ahg k ((gs[n.toNat]?).getD default).next (ak++[n.toNat]) (fun h=>by omega) v4 (fun i hi=>by
      rcases iw.1 hi with hi|hi;·exact hv i hi
      ·simp only[iX]at hi;subst hi;exact .mk _ v1 v2 v3 v4) (fun i hi=>by
      rcases iw.1 hi with hi|hi
      ·rcases hc i hi with h1|h1|h1;·exact .inl h1
       ·exact .inr (.inl (by simp[h1]))
       ·exact .inr (.inl (by simp[h1]))
      ·simp only[iX]at hi;subst hi;exact .inr (.inr rfl));exact⟨c1,fun i hi=>c2 i (by simp[hi]),fun _=>c2 _ (by simp),c4⟩
theorem Za:∀(ns:List Int)(ak:List Nat),(∀n∈ns,0<=n->qW gs l n.toNat)->(∀i∈ak,qW gs l i)->Tg gs ak->Tg gs (ns.foldl (fun ak n=>visitM gs (gs.length+1) n ak) ak)/\(∀i∈ak,i∈ns.foldl (fun ak n=>visitM gs (gs.length+1) n ak) ak)/\(∀n∈ns,0<=n->n.toNat∈ns.foldl (fun ak n=>visitM gs (gs.length+1) n ak) ak)/\∀i∈ns.foldl (fun ak n=>visitM gs (gs.length+1) n ak) ak,qW gs l i
 |[],ak,_,hv,hc=>⟨hc,fun _ h=>h,by simp,hv⟩
 |n::ns,ak,hn,hv,hc=>by
  have G6:=hn n (by simp);obtain⟨c1,c2,c3,c4⟩:=ahg (gs.length+1) n ak (fun h0=>by cases G6 h0 with|mk _ h=>omega) G6 hv (fun i hi=>(hc i hi).imp id .inl);obtain⟨d1,d2,d3,d4⟩:=Za ns (visitM gs (gs.length+1) n ak) (fun x hx=>hn x (by simp[hx])) c4 c1;rw[Mg];refine⟨d1,fun i hi=>d2 i (c2 i hi),fun x hx h0=>?_,d4⟩;rcases jr.1 hx with rfl|hx;·exact d2 _ (c3 h0)
  ·exact d3 x hx h0
end
theorem pK.gc{N:Int}{l l':List Ce}{φ φ':Int->Int}{E E':Env}{gs gs':List Gm}{ak:List Nat}(hc:Tg gs ak)(hlen:gs'.length=gs.length)(hgs:∀i∈ak,((gs'[i]?).getD default).bar=((gs[i]?).getD default).bar/\((gs'[i]?).getD default).next=((gs[i]?).getD default).next)(hG:∀i∈ak,∀t,mI N l φ E ((gs[i]?).getD default).at_ t->mI N l' φ' E' ((gs'[i]?).getD default).at_ t):∀(gl:List Gl)(n:Int),(0<=n->n.toNat∈ak)->pK N l φ E gs n gl->pK N l' φ' E' gs' n gl
 |[],n,_,h=>h
 |g::r,n,hv,⟨k,h1,h2,h3,h4,h5,h6⟩=>by
  subst h1;have hk:k∈ak:=by have :=hv (zN _);rwa[dF]at this
  obtain⟨a1,a2⟩:=hgs k hk;refine⟨k,rfl,by omega,by rw[a1];exact h3,hG k hk _ h4,by rw[a2];exact h5,?_⟩;rw[a2];exact pK.gc hc hlen hgs hG r _ (fun h0=>(hc k hk).elim (fun h=>by omega) id) h6
theorem ahh{m:List Bool}{a:Nat}:∀(v:Nat),(∀i,i<v->m[a+i]?=some true)->cnt m (a+v)=cnt m a+v|0,_=>rfl|v+1,h=>by have ih:=ahh (m:=m) (a:=a) v (fun i hi=>h i (by omega));rw[<-adQ,cnt,G (h v (by omega)),ih];omega
theorem ahi{m:List Bool}:∀k,cnt m k<=k:=sO m
section
variable {P : List Cl} {q : Nat} {m : Mv} {s : Sv} {gl : List Gl}
theorem ahj{h:Hp}{roots eB eD:List Int}(hg:h.Good)(hr:∀r∈roots,Inb h.cells r):oo h roots eB eD=⟨jy h roots,roots.map (ahead (marks h.cells roots)),eB.map (ahead (marks h.cells roots)),eD.map (ahead (aP (marks h.cells roots) h.trail)),0⟩:=by rw[oo,O (dY hg),O (dY hr)]
theorem ahk(S:uV P q m s gl):uV P q (ze q m) s gl:=by
 obtain⟨hok,tQ,S⟩:=S;refine⟨hok,tQ,?_⟩;obtain⟨φ,hM,hq,hch⟩:=S.cur;have hst:∀n∈jH m,0<=n->qW m.goals m.h.cells n.toNat:=by
  intro n hn h0;unfold jH at hn;rcases iw.1 hn with hn|hn;·obtain⟨c,hc,rfl⟩:=iZ.1 hn;obtain⟨d,hd,k⟩:=S.bC.mem c (Wv.1 hc);obtain⟨φ', -, -,k3⟩:=k.snap;refine Oo (fun a ha=>?_) _ _ k3 h0;have :=CW (h:=m.h) c.top c.trail k.top;have :=k.top;unfold Inb at ha ⊢;omega
  ·simp only[iX]at hn;subst hn;exact Oo (fun _ h=>h) _ _ hch h0
 obtain⟨ak,Zb⟩:∃ak,ak=qz m.goals (jH m):=⟨_,rfl⟩;obtain⟨Zc, -,hsv,hvv⟩:=Za (l:=m.h.cells) (jH m) [] hst (by simp) (by intro i hi;cases hi);have hnd:(jH m).foldl (fun ak n=>visitM m.goals (m.goals.length+1) n ak) []=ak:=Zb.symm;rw[hnd]at Zc hsv hvv;have Oq:jY q m=((List.range q).map fun v=>m.query+(v:Nat))++ak.map fun i=>(bV m i).at_:=by rw[Zb];rfl
 obtain⟨roots,hrt⟩:∃roots,roots=jY q m:=⟨_,rfl⟩;have Ti:∀r∈roots,Inb m.h.cells r:=by
  intro r hr;rw[hrt,Oq]at hr;rcases iw.1 hr with hr|hr;·obtain⟨v,hv,rfl⟩:=iZ.1 hr;exact(hq v (mh.1 hv)).1
  ·obtain⟨i,hi,rfl⟩:=iZ.1 hr;cases hvv i hi with|mk _ h1 h2=>exact h2
 have Tj:∀r∈roots,RP m.h roots r:=fun r hr=>by obtain⟨h0,h1⟩:=Ti r hr;obtain⟨k,rfl⟩:=dH h0;exact RP.of (.root hr (by omega))
 have Be:∀v:Nat,v<q->RP m.h roots (m.query+(v:Nat)):=fun v hv=>Tj _ (by rw[hrt,Oq];exact amW _ (iZ.2 ⟨v,mh.2 hv,rfl⟩));have hgr:∀i∈ak,RP m.h roots (bV m i).at_:=fun i hi=>Tj _ (by rw[hrt,Oq];exact List.mem_append_right _ (iZ.2 ⟨i,hi,rfl⟩));have Tk:∀v:Nat,v<q->ahead (marks m.h.cells roots) (m.query+(v:Nat))=ahead (marks m.h.cells roots) m.query+(v:Nat):=fun v hv=>by
  have h0:=(hq 0 (by omega)).1.1;simp only[Ww,adU]at h0;obtain⟨a,ha⟩:=dH h0;rw[ha,xG,show((a:Nat):Int)+(v:Nat)=((a+v:Nat):Int)by omega,xG];have :=ahh (m:=marks m.h.cells roots) (a:=a) v (fun i hi=>by
   have h1:=Be i (by omega);rw[ha]at h1;obtain⟨k,e,hk,hr⟩:=h1.nat S.good.1;have :k=a+i:=by omega
   subst this;exact(vM hk).2 hr);omega
 have Bf:q>0->(((jY q m).map (ahead (marks m.h.cells roots)))[0]?).getD 0=ahead (marks m.h.cells roots) m.query:=fun h=>by rw[Oq];obtain⟨q',rfl⟩:∃q',q=q'+1:=⟨q - 1,by omega⟩;rw[amU];simp
 have hrm:roots.map (ahead (marks m.h.cells roots))=(((List.range q).map fun v=>m.query+(v:Nat))++ak.map fun i=>(bV m i).at_).map (ahead (marks m.h.cells roots)):=congrArg (List.map _) (hrt.trans Oq);have arp:=ahj (eB:=m.choices.reverse.map fun c=>(c.top:Int)) (eD:=m.choices.reverse.map fun c=>(c.trail:Int)) S.good Ti;obtain⟨qn,ahl⟩:∃qn:Int,qn=if q>0 then ahead (marks m.h.cells roots) m.query else m.query:=⟨_,rfl⟩;obtain⟨gs',hgs'⟩:∃gs':List Gm,gs'=m.goals.mapIdx fun i g=>if i∈ak then{g with at_:=ahead (marks m.h.cells roots) g.at_}else g:=⟨_,rfl⟩;obtain⟨cs',hcs'⟩:∃cs':List Cm,cs'=m.choices.map fun x=>{x with top:=cnt (marks m.h.cells roots) x.top,trail:=cnt (aP (marks m.h.cells roots) m.h.trail) x.trail}:=⟨_,rfl⟩;have hres:ze q m={m with h:=jy m.h roots,query:=qn,goals:=gs',choices:=cs'}:=by
  unfold ze;rw[<-hrt,arp];simp only[ne_eq,QS,if_false,Mv.mk.injEq,dx,mP];refine⟨?_,?_,?_⟩
  ·rw[hgs',<-Zb];apply oN (by simp);intro i h1 h2;simp only[adE];by_cases hi:i∈ak;·rw[G hi,G hi];congr 1;have hx:ak.idxOf i<ak.length:=List.idxOf_lt_length_iff.2 hi;rw[hrm,qF,yw (by simp),nR,nR,List.length_range,Nat.add_sub_cancel_left,xg,xg,aJ hx,List.getElem_idxOf hx];simp only[pW,rC,bV];rw[aJ (by simpa using h1)];rfl
   ·rw[O hi,O hi]
  ·rw[hcs'];have e:(m.choices.reverse.mapIdx fun i x=>({x with top:=((((m.choices.reverse.map fun c=>(c.top:Int)).map (ahead (marks m.h.cells roots)))[i]?).getD 0).toNat,trail:=((((m.choices.reverse.map fun c=>(c.trail:Int)).map (ahead (aP (marks m.h.cells roots) m.h.trail)))[i]?).getD 0).toNat}:Cm))=(m.choices.map fun x=>({x with top:=cnt (marks m.h.cells roots) x.top,trail:=cnt (aP (marks m.h.cells roots) m.h.trail) x.trail}:Cm)).reverse:=by
    rw[<-List.map_reverse];apply oN (by simp);intro i h1 h2;have hl:i<m.choices.reverse.length:=by simpa using h1
    simp only[adE,QT,xg,aJ hl,pW,rC,xG,dF]
   rw[e,QO]
  ·rw[ahl];by_cases h:q>0;·rw[G h,G h,hrt];rw[hrt]at Bf;exact Bf h
   ·rw[O h,O h]
 have hqq:∀v:Nat,v<q->qn+(v:Nat)=ahead (marks m.h.cells roots) (m.query+(v:Nat)):=fun v hv=>by rw[Tk v hv,ahl,G (by omega)]
 have hgl:gs'.length=m.goals.length:=by rw[hgs'];simp
 have Tn:∀i,i<m.goals.length->(gs'[i]?).getD default=if i∈ak then{(m.goals[i]?).getD default with at_:=ahead (marks m.h.cells roots) ((m.goals[i]?).getD default).at_}else(m.goals[i]?).getD default:=fun i hi=>by rw[hgs',List.getElem?_mapIdx,aJ hi];rfl
 have hvl:∀i∈ak,i<m.goals.length:=fun i hi=>by cases hvv i hi with|mk _ h1=>exact h1
 have ahm:∀i∈ak,((gs'[i]?).getD default).bar=((m.goals[i]?).getD default).bar/\((gs'[i]?).getD default).next=((m.goals[i]?).getD default).next:=fun i hi=>by rw[Tn i (hvl i hi),G hi];exact⟨rfl,rfl⟩
 have ahn:∀i∈ak,((gs'[i]?).getD default).at_=ahead (marks m.h.cells roots) ((m.goals[i]?).getD default).at_:=fun i hi=>by rw[Tn i (hvl i hi),G hi]
 have aho:∀{l l':List Ce}{T:Int->Prop}{φ1:Int->Int}{E1:Env}(Zd:oq l l' T (ahead (marks m.h.cells roots)))(hall:∀a t,T a->Hr l φ1 E1 (fun _=>True) a t->Hr l' (fun y=>φ1 (JW T (ahead (marks m.h.cells roots)) y)) E1 (fun _=>True) (ahead (marks m.h.cells roots) a) t)(a:Int)(t:Tm),T a->mI s.vars l φ1 E1 a t->mI s.vars l' (fun y=>φ1 (JW T (ahead (marks m.h.cells roots)) y)) E1 (ahead (marks m.h.cells roots) a) t:=by intro l l' T φ1 E1 Zd hall a t hT k;refine⟨(Zd.jW a hT).2,?_,k.goal,k.Bc,hall a t hT k.tells⟩;rw[Zd.cell a hT];unfold xH;rw[O k.kind];exact k.cell
 rw[hres];have hgm:=af3 (roots:=roots) S.good;obtain⟨arq,ahp⟩:=hgm.all (aqo (roots:=roots) S.good) hM;have Kt:(jy m.h roots).cells.length<=m.h.cells.length:=by show(ku _ _ _).length<=_;rw[rH];exact sO _ _
 have aBb:(jy m.h roots).trail.length<=m.h.trail.length:=by show(kS _ _ _).length<=_;rw[vN];exact sO _ _
 refine⟨aej S.good,S.fuel,S.out,by have :=S.tr;simp only;omega,?_,?_,by have :=S.jD;simp only;omega,fun c hc=>?_,by have :=S.ni;simp only;rw[hgl];exact this⟩
 ·refine⟨_,arq,fun v hv=>?_,?_⟩;·simp only;rw[hqq v hv];exact⟨(hgm.jW _ (Be v hv)).2,ahp _ _ (Be v hv) (hq v hv).2⟩
  ·refine pK.gc Zc hgl ahm (fun i hi t k=>?_) gl m.now (fun h0=>hsv _ (by unfold jH;simp) h0) hch;rw[ahn i hi];exact aho hgm ahp _ _ (hgr i hi) k
 ·have hone:∀c d,c∈m.choices->Dc m.h s.env s.vars q m.query m.goals c d->Dc (jy m.h roots) s.env s.vars q qn gs' {c with top:=cnt (marks m.h.cells roots) c.top,trail:=cnt (aP (marks m.h.cells roots) m.h.trail) c.trail} d:=fun c d hc k=>by
   obtain⟨Ze,ars⟩:=af5 (roots:=roots) S.good k.top k.tr k.good;obtain⟨φ1,k1,k2,k3⟩:=k.snap;obtain⟨oM,oH⟩:=Ze.all ars k1;have hol:=CW (h:=m.h) c.top c.trail k.top;refine⟨k.from_,?_,?_,dm (sO _ _) k.YV,k.Bd,aqp S.good k.top k.tr k.good,⟨_,oM,fun v hv=>?_,?_⟩⟩;·show cnt _ c.top<=(ku _ _ _).length;rw[rH];exact Jt k.top
   ·show cnt _ c.trail<=(kS _ _ _).length;rw[vN];exact Jt k.tr
   ·obtain⟨i1,i2⟩:=k2 v hv;have hT:RP m.h roots (m.query+(v:Nat))/\m.query+(v:Nat)<(c.top:Int):=⟨Be v hv,by have :=i1.2;omega⟩;rw[hqq v hv];exact⟨(Ze.jW _ hT).2,oH _ _ hT i2⟩
   ·refine pK.gc Zc hgl ahm (fun i hi t kk=>?_) d.g (c.goal:Int) (fun h0=>hsv _ (by unfold jH;exact amW _ (iZ.2 ⟨c,Wv.2 hc,rfl⟩)) h0) k3;rw[ahn i hi];exact aho Ze oH _ _ ⟨hgr i hi,by have :=kk.jW.2;omega⟩ kk
  simp only;rw[hcs'];have hlist:∀(cs:List Cm)(ds:List jN),(∀c∈cs,c∈m.choices)->l6 m.h s.env s.vars q m.query m.goals cs ds->l6 (jy m.h roots) s.env s.vars q qn gs' (cs.map fun x=>{x with top:=cnt (marks m.h.cells roots) x.top,trail:=cnt (aP (marks m.h.cells roots) m.h.trail) x.trail}) ds:=by intro cs;induction cs with
   |nil=>intro ds _ h;cases ds with|nil=>trivial|cons d ds=>exact h.elim
   |cons c cs ih=>intro ds hm h;cases ds with|nil=>exact h.elim|cons d ds=>refine⟨hone c d (hm c (by simp)) h.1,fun x hx=>?_,ih ds (fun x hx=>hm x (by simp[hx])) h.2.2⟩;obtain⟨y,hy,rfl⟩:=iZ.1 hx;obtain⟨h1,h2⟩:=h.2.1 y hy;exact⟨Jt h1,Jt h2⟩
  exact hlist _ _ (fun _ h=>h) S.bC
 ·rw[hcs']at hc;obtain⟨x,hx,rfl⟩:=iZ.1 hc;have :=S.oD x hx;have :=sO (marks m.h.cells roots) x.top;simp only;omega
end
theorem ahq{P:List Cl}{q:Nat}{s s':Sv}(h:fZ P s)(e:kE q s=(true,s')):fZ P s'/\s'.out.length=s.out.length+1/\s'.out.length<=11/\s'.vars=s.vars:=by
 unfold kE at e;split at e;·simp at e
 ·simp only at e;split at e;·simp at e
  ·rename_i hlt;simp only[gI,dx]at e;subst e;obtain⟨h1,h2,h3,h4,h5,h6,h7,h8⟩:=h;simp only[bB,dZ]at hlt ⊢;exact⟨⟨h1,h2,h3,h4,h5,h6,h7,h8⟩,trivial,by omega,trivial⟩
theorem Tp{P:List Cl}:∀(cs:List Cm)(m:Mv),(lZ P cs m).1≠ .no
 |[],m=>by rw[lZ];simp
 |c::cs,m=>by
  rw[lZ];have ih:=Tp (P:=P) cs;split;·exact ih _
  ·rename_i r hne;generalize gy P c.goal (bV m c.goal) (P.length - c.from_) c.from_ {m with choices:=cs,h:=(rR (rQ m.h (c.trail:Int)).1 (c.top:Int)).1}=r at*;obtain⟨a,b⟩:=r;intro e;simp only at e;subst e;exact hne b rfl
theorem art{P:List Cl}(m:Mv):(mH P m).1≠ .no:=by
 unfold mH;split;·simp
 ·simp only;split
  ·split;·simp
   ·simp
   ·exact Tp _ _
  ·split;·simp
   ·split;·exact Tp _ _
    ·rename_i hne;intro e;exact hne _ (Prod.ext e rfl)
theorem aru{P:List Cl}{q:Nat}(m:Mv):(uU P q m).1≠ .no:=by
 unfold uU;split;·simp
 ·simp only;split;·simp
  ·exact Tp _ _
theorem Zf{P:List Cl}{q:Nat}(hP:fV P)(fuel every:Int):∀(n:Nat)(m:Mv)(s:Sv)(gl:List Gl),uV P q m s gl->(q:Int)<=s.vars->s.out.length<=11->(runM P q fuel every n m).out=(jC P q n gl s).out
 |0,m,s,gl,S,_,_=>by rw[runM,jC];exact S.pM.out
 |n+1,m,s,[],S,dP,hout=>by
  have wG:m.now<0:=by obtain⟨φ, -, -,h⟩:=S.pM.cur;have :m.now= -1:=h;omega
  rw[runM,jC,G wG];have hA:=ahf hP S dP hout;have hok2:=fun s'(e:kE q s=(true,s'))=>ahq S.ok e;have Ku:=aru (P:=P) (q:=q) m;generalize uU P q m=rm at*;obtain⟨ra,m'⟩:=rm;cases ha:kE q s with|mk b s'=>rw[ha]at hA hok2;cases b with
   |false=>simp only at hA ⊢;cases ra with|next=>exact hA.elim|no=>exact hA.elim|off=>exact hA
   |true=>simp only at hA ⊢;obtain⟨a1,a2,a3,a4⟩:=hok2 s' rfl;have hbn:=fun s'' gl(e:eQ P s'.choices s'=(.next gl,s''))=>GJ s'.choices s' s'' gl a1 e;generalize eQ P s'.choices s'=rs at*;obtain⟨rb,s''⟩:=rs;cases ra with
    |next=>cases rb with|next gl=>obtain⟨b1,b2,b3,b4,b5⟩:=hbn s'' gl rfl;exact Zf hP fuel every n m' s'' gl ⟨b1,b2,hA⟩ (by omega) (by rw[b4];exact a3)|no=>exact hA.elim|off=>exact hA.elim
    |no=>cases rb with|next gl=>exact hA.elim|no=>exact absurd rfl Ku|off=>exact hA.elim
    |off=>cases rb with|next gl=>exact hA.elim|no=>exact hA.elim|off=>exact hA
 |n+1,m,s,g::rest,S,dP,hout=>by
  have wG:¬m.now<0:=by obtain⟨φ, -, -,k,h, -⟩:=S.pM.cur;omega
  rw[runM,jC,O wG];have S2:uV P q (if every>0/\(fuel - m.fuel)%every=0 then ze q m else m) s (g::rest):=by
   split;·exact ahk S
   ·exact S
  generalize(if every>0/\(fuel - m.fuel)%every=0 then ze q m else m)=m2 at*;have hA:=ahd hP S2 dP;have hsn:=fun s' gl(e:ig P g rest s=(.next gl,s'))=>RF S.ok S.AB e;have Ku:=art (P:=P) m2;generalize mH P m2=rm at*;generalize ig P g rest s=rs at*;obtain⟨ra,m'⟩:=rm;obtain⟨rb,s'⟩:=rs;cases ra with
   |next=>cases rb with|next gl=>obtain⟨b1,b2,b3,b4,b5⟩:=hsn s' gl rfl;exact Zf hP fuel every n m' s' gl ⟨b1,b2,hA⟩ (by omega) (by rw[b4];exact hout)|no=>exact hA.elim|off=>exact hA.elim
   |no=>cases rb with|next gl=>exact hA.elim|no=>exact absurd rfl Ku|off=>exact hA.elim
   |off=>cases rb with|next gl=>exact hA.elim|no=>exact hA.elim|off=>exact hA
theorem ahr{Q:List Tm}{n:Nat}(hg:iJ Q (n:Int))(F:List Ce)(hF:F=(aK (aD n) Q).1):F.length<=296/\n<=F.length/\iH F/\ER F n/\NF n F/\∀(j:Nat)(hj:j<Q.length),∃a:Nat,(aK (aD n) Q).2[j]?=some (a:Int)/\Laid F id (a:Int) Q[j]/\F[a]?=some ⟨Q[j].kind,(Q[j].args.length:Int),Q[j].s⟩:=by
 obtain⟨v0,v8,l5,lg⟩:=hg;have hnd:=NR Q (fun g hg=>(lg g hg).2.2);have h2:=EL Q (aD n);rw[lY,<-hF]at h2;have wD:∀t∈Q,t.Good (n:Int):=fun t ht=>(lg t ht).2.1;have hva:ER F n:=fun i hi=>by rw[hF,J3 Q _ i (by rw[lY];exact hi)];exact agz n i hi
 obtain⟨n3,n4⟩:=SI n Q (aD n) (fun t ht=>⟨(lg t ht).1,wD t ht⟩) (YP n) (by rw[lY];exact zL _);have hla:=YJ n F hva Q (aD n) wD (by rw[lY];exact zL _) (fun i hi hil=>by rw[hF]);rw[<-hF]at n3 n4;refine⟨by omega,h2.1,?_,hva,n3,fun j hj=>?_⟩
 ·by_cases h0:F.length=0;·intro i hi;omega
  ·have hok:=YL (v:=n) (N:=F.length) h2.1 (by omega) Q (aD n) wD (agy h2.1) (by rw[<-hF];exact zL _);rw[<-hF]at hok;intro i hi;exact hok i _ (aJ hi)
 ·obtain⟨a,e1,e2⟩:=n4 j hj;obtain⟨a',f1,f2⟩:=hla j hj;rw[e1]at f1;obtain rfl:=adM f1;exact⟨a,e1,f2,e2⟩
theorem arv{v:Int}{t:Tm}(h:t.Good v)(hv:v<=8):fG t 0=t:=by
 unfold fG;induction h with
  |var n h0 h1=>simp[Tm.ren,Tm.uE,JD h0 (show n<1099511627776 by omega),JD (show(0:Int)<=0 by omega) (show(0:Int)<1099511627776 by omega)]
  |atom s h=>simp[Tm.ren,Tm.uE]
  |int n h0 h1=>simp[Tm.ren,Tm.uE]
  |comp s l h h1 h2 h3 _ ih=>
   simp only[Tm.ren,Tm.Jl,show ¬((3:Int)=0)by decide,if_false,Tm.mk.injEq,dx];conv=>rhs;rw[<-List.map_id l]
   exact adC fun x hx=>ih x hx
theorem ahs{P:List Cl}{Q:List Tm}{n f:Nat}(hP:fV P)(hQ:iJ Q (n:Int))(hf:f<=150):uV P n (zg Q (n:Int) f) ⟨[],[],(n:Int),f,[]⟩ (Q.map fun t=>⟨t,0⟩):=by
 obtain⟨hok,hgl⟩:=Y4 (f:=f) hP hQ hf;refine⟨hok,hgl,?_⟩;obtain⟨F,hF⟩:∃F,F=(aK (aD n) Q).1:=⟨_,rfl⟩;obtain⟨b1,b2,b3,b4,b5,b6⟩:=ahr hQ F hF;have hcells:(bI Q (n:Int)).cells=F:=by rw[hF];simp[bI]
 have Ie:(bI Q (n:Int)).goals=(aK (aD n) Q).2:=by simp[bI]
 have Tq:Hp.Good ⟨[],[]⟩:=⟨fun i hi=>by simp at hi,fun j hj=>by simp at hj,by simp,by simp⟩;have hld:=SX (h:=⟨[],[]⟩) (F:=F) Tq b3 (by simp only[fT];omega);have hg1:=YM (h:=⟨[],[]⟩) (F:=F) Tq b3 (by simp only[fT];omega);simp only[fT,Ww]at hld hg1;have hM0:Mon 0 [] (fun x=>x) []:=⟨fun x y hx=>by have :=hx.1;unfold Inb at this;simp at this;omega,fun x hx=>by have :=hx.1;unfold Inb at this;simp at this;omega,fun x _=>rfl⟩;have hM1:=YQ hM0 (cu.nil 0) (qI _) b5;rw[Int.zero_add]at hM1;simp only[fT]at hM1;have hφ:∀k:Int,0<=k->k<(n:Int)->mG [] 0 (fun x=>x) (k+0)=0+k:=fun k h0 h1=>by unfold mG;simp only[fT];rw[O (by omega)];omega
 have tell:∀(t:Tm)(a:Int),t.Good (n:Int)->Laid F id a t->Hr ([]++F.map (dn 0)) (mG [] 0 (fun x=>x)) [] (fun _=>True) (0+a) t:=fun t a ht ha=>by have h1:=ags (H:=[]) t a ha;have :=agB (v:=(n:Int)) (φ:=mG [] 0 (fun x=>x)) (cu.nil 0) (qI _) (by omega) hQ.2.1 hφ t _ ht h1;rw[arv ht hQ.2.1,Mi]at this;exact this
 have Tn:∀(j:Nat)(hj:j<Q.length),∃a,(aK (aD n) Q).2[j]?=some a/\mI (n:Int) ([]++F.map (dn 0)) (mG [] 0 (fun x=>x)) [] (0+a) Q[j]:=fun j hj=>by obtain⟨a,e1,e2,e3⟩:=b6 j hj;have hgj:=hQ.2.2.2 _ (bN hj);obtain⟨c1,c2⟩:=y7 e3;obtain⟨d1,d2⟩:=ES (H:=[]) c2;rw[c1,C9 _ (by simpa using ky.ne hgj.1),Mi]at d1;rw[Mi]at d2;exact⟨(a:Int),e1,d2,d1,hgj.1,hgj.2.1,tell _ _ hgj.2.1 e2⟩
 have wD:=yT Q (aD n);obtain⟨p1,p2,p3⟩:=YY (N:=(n:Int)) (base:=0) (bar:=0) (gs0:=[]) (nx:= -1) (rest:=[]) (by show(-1:Int)= -1;rfl) (aK (aD n) Q).2 Q wD Tn;rw[sG]at p1;have hb:zg Q (n:Int) f={h:=⟨[]++F.map (dn 0),[]⟩,goals:=(fe 0 0 (aK (aD n) Q).2 [] (-1)).1,choices:=[],now:=(fe 0 0 (aK (aD n) Q).2 [] (-1)).2,query:=0,fuel:=f,out:=[]}:=by unfold zg;simp only[hcells,Ie,hld]
 rw[hb];refine⟨hg1,rfl,rfl,by simp,⟨_,hM1,fun v hv=>?_,p1⟩,trivial,?_,by simp,?_⟩;·have h1:=b4 v hv;obtain⟨c1,c2⟩:=y7 h1;obtain⟨d1,d2⟩:=ES (H:=[]) c2;simp only[fT,Ww,adU]at d1 d2;rw[c1,dn,G rfl]at d1;simp only[Ww,adU]at d1;rw[Int.zero_add];have hst:ai [] (fK (v:Nat))=fK (v:Nat):=kD (.inr rfl);exact⟨d2,.var (.stop d2 (.inr (by rw[d1]))) (by rw[d1]) trivial (by rw[hst];rfl) (by rw[hst];unfold mG;simp only[fT];rw[O (by omega)];show(v:Int)=_;omega)⟩
 ·simp only[Ap,nR,oC,fT];omega
 ·have h5:Q.length<=5:=hQ.2.2.1;simp only[Oi,wD,fT,Df];omega
noncomputable def lD(P:List Cl)(Q:List Tm)(vars fuel every:Int):List Ev×Int:=haveI :=Classical.propDecidable (fV P/\iJ Q vars);if ¬(fV P/\iJ Q vars)then([],1)else if fuel<0\/fuel>150\/every<0 then([],2)else((runM P vars.toNat fuel every (fuel.toNat+14) (zg Q vars fuel.toNat)).out,0)
theorem Zg(P:List Cl)(Q:List Tm)(vars fuel every:Int)(he:0<=every):lD P Q vars fuel every=jU P Q vars fuel:=by
 unfold lD;rcases Kq P Q vars fuel with⟨hn,e⟩|⟨hg,hf,e⟩|⟨hg,h0,h1,e⟩;·rw[e,G hn]
 ·rw[e,O (dY hg),G (by omega)]
 ·rw[e,O (dY hg),O (by omega)];obtain⟨n,rfl⟩:=dH hg.2.1;obtain⟨f,rfl⟩:=dH h0;rw[dF,dF];have :=Zf hg.1 (f:Int) every (f+14) _ _ _ (ahs (f:=f) hg.1 hg.2 (by omega)) (by simp only;omega) (by simp);rw[this]
noncomputable def Ot(run:List Cl->List Tm->Int->List Ev×Int)(p q:Str):List Str×Int:=if(gF p).2≠0 then([],(gF p).2)else if(dI q).2.2≠0 then([],(dI q).2.2)else if(run (gF p).1 (dI q).1 (dI q).2.1).2≠0 then([],(run (gF p).1 (dI q).1 (dI q).2.1).2)else((run (gF p).1 (dI q).1 (dI q).2.1).1.map qO,0)
noncomputable def Ou(p q:Str)(fuel every:Int):List Str×Int:=Ot (fun P Q v=>lD P Q v fuel every) p q
theorem aht(p q:Str)(fuel every:Int)(h:0<=every):Ou p q fuel every=Ot (fun P Q v=>jU P Q v fuel) p q:=by unfold Ou;congr 1;funext P Q v;exact Zg P Q v fuel every h
theorem ahu(P:List Cl)(Q:List Tm)(v fuel every:Int)(h:every<0):(lD P Q v fuel every).2≠0:=by
 unfold lD;split;·simp
 ·rw[G (by omega)];simp
theorem ahv{P:List Cl}{Q:List Tm}{v fuel:Int}(h:(jU P Q v fuel).2=0):∀e∈(jU P Q v fuel).1,Tm.aC e.terms<=200:=by
 obtain⟨ans,k,he, -, -, -, -,ha⟩:=agZ h;rw[he];intro e hm;rcases iw.1 hm with hm|hm;·obtain⟨l,hl,rfl⟩:=iZ.1 hm;exact(ha l hl).2.2
 ·simp only[iX]at hm;subst hm;simp[Tm.aC]
theorem arw{P:List Cl}{Q:List Tm}{v fuel every:Int}(h:(lD P Q v fuel every).2=0):∀e∈(lD P Q v fuel every).1,Tm.aC e.terms<=200:=by
 by_cases he:0<=every;·rw[Zg _ _ _ _ _ he]at h ⊢;exact ahv h
 ·exact absurd h (ahu _ _ _ _ _ (by omega))
theorem arx{P:List Cl}{Q:List Tm}{v fuel every:Int}(h:(lD P Q v fuel every).2=0):(lD P Q v fuel every).1.length<=13:=by
 by_cases he:0<=every;·rw[Zg _ _ _ _ _ he]at h ⊢;obtain⟨ans,k,he, -, -,h4, -, -⟩:=agZ h;rw[he];simp only[bB,nR,dZ];omega
 ·exact absurd h (ahu _ _ _ _ _ (by omega))
theorem Tu(s:Str):ah (gF s).2/\ah (dI s).2.2/\0<=(dI s).2.1/\(dI s).2.1<=2000:=by
 refine⟨?_,?_,?_⟩;·rcases aox s with h|⟨-,h|h⟩<;>rw[h]<;>unfold ah<;>omega
 ·rcases aeU s with h|⟨-, -,h|h⟩<;>rw[h]<;>unfold ah<;>omega
 ·rcases aeU s with h|⟨-,h, -⟩;·have :=aow h;have h1:=this.1;have h2:=this.2.1;omega
  ·rw[h];omega
open Go.RowKit
def ary(A:Nat->Prop)(w:World)(t:Tm)(e:Ending)(w':World):Prop:=∃v,e= .returned v/\Below w.heap.size w w'/\CE A w' t v
theorem EU{base:Nat}{P:List Cl}{q g mb xb:Nat}{pv tv cv ov:Value}{s:Sv}{N:Int}(t:Tm)(A:Nat->Prop)(w:World)(vs:List Value)(h:aR base P q g mb xb pv tv cv ov s w)(hE:cu N s.env)(ht:t.In N)(hen:GN A w mb s.env)(hv:Tm.rep A w t vs):Calls Tryz.prog 128 #[.pointer (some ⟨g,0,none⟩),.agg vs.toArray] w (ary A w (ai s.env t)):=by
 have HU:=Y h;have HE:=Y hE;have HT:=Y ht;have HV:=Y hv;obtain⟨a,cap,rfl, -⟩:=Tm.dV hv;have hlt:=h.lt;obtain⟨hl1,hl2,hl3⟩:=hlt;have HV':=Y (Tm.ae.2.1 _ (fun b=>A b/\b<w.heap.size) _ _ _ hv fun b hb hA=>⟨hA,hb⟩);obtain⟨L,hM0,hL0⟩:=hen;have Ov:=Y hM0;have vV:=Y (hL0.mono (A':=fun b=>A b/\b<w.heap.size) fun b hb hA=>⟨hA,hb⟩);clear h hE ht hv hM0 hL0;go_enter Tryz.func128,Tryz.ntmps128;go_wp2_with fail;have HB0:=Y (((gQ _ w).alloc (zL _) (.cells #[.int .i64 t.kind,.int .i64 t.n,.string t.s,.slice a t.args.length cap] 34)).alloc (by simp) (.cells #[.int .i64 0,.int .i64 0,.string .empty,.slice none 0 0] 34));have HX0:=Y (mi w (.cells #[.int .i64 t.kind,.int .i64 t.n,.string t.s,.slice a t.args.length cap] 34) (.cells #[.int .i64 0,.int .i64 0,.string .empty,.slice none 0 0] 34));go_loopw[5](fun _ wr=>∃(t':Tm)(a':Option Addr)(cap':Nat),Below w.heap.size w wr/\wr.heap[w.heap.size]?=some (.cells #[.int .i64 t'.kind,.int .i64 t'.n,.string t'.s,.slice a' t'.args.length cap'] 34 (0,0))/\wr.heap[w.heap.size+1]?=some (.cells #[.int .i64 0,.int .i64 0,.string .empty,.slice none 0 0] 34 (0,0))/\Tm.rep (fun b=>A b/\b<w.heap.size) wr t' [.int .i64 t'.kind,.int .i64 t'.n,.string t'.s,.slice a' t'.args.length cap']/\t'.In N/\ai s.env t'=ai s.env t)(fun _ wr=>XP w.heap.size wr);case atStart=>exact⟨t,a,cap,HB0.o,HX0.o.1,HX0.o.2,Tm.ae.1 _ _ _ _ _ HV'.o (J.ob HB0.o),HT.o,rfl⟩
 case round=>
  obtain⟨t',a',cap',hb,hx,hy,hr,hin,hsl⟩:=hrel;have HB:=Y hb;have HX:=Y hx;have HY:=Y hy;have HR:=Y hr;have fD:=Y hin;have nX:=Y hsl;have hz:=ax hy;have hz0:w.heap.size<wr.heap.size:=by omega
  have hzg:g<wr.heap.size:=by omega
  have hU:=HU.o.below hb;obtain⟨x0,x1,x2,x3,xf⟩:=aF hx;obtain⟨y0,y1,y2,y3,yf⟩:=aF hy;obtain⟨b0,b1, -, -, -, -, -, -,bf⟩:=dS hU.box;have hcs:=bF;have qA:=Y hU;clear hb hx hy hr hin hsl hU;by_cases hk:t'.kind=0
  ·rw[hk]at x0;have hnn:=(fD.o.n hk).1;have hM:=Ov.o.keeps (J.ob (A:=fun _=>True) HB.o) trivial;have hL:=vV.o.keeps (J.ob HB.o);have HK:=Y hk;rcases hL.get t'.n with⟨e1,e2⟩|⟨z,zv,e1,e2,hz2⟩
   ·have gq:=Y (nX.o.symm.trans (kD (.inr e1)));have l7:=Y (fun(W:World)(hW:Below wr.drew.heap.size wr.drew W)=>(by have :=aeV (n:=t'.n) RQ (hM.keeps ((J.drew (fun _=>True) wr).trans (J.ob hW)) trivial);rw[e2]at this;exact this:(Instr.lookup 94 (.map (some mb)) (.int .i64 t'.n) true).run Tryz.prog W= .ok (.tuple #[.agg #[.int .i64 0,.int .i64 0,.string .empty,.slice none 0 0],.bool false]) W));clear hk e1 e2 hM hL;go_wp2_with fail;refine jd (F:=fun _ w'=>Below wr.drew.heap.size wr.drew w') (by kernel_rfl) ?_;have HF:Below wr.drew.heap.size wr.drew wr.drew:=Z _ _;refine zT 0 HF ?_;try simp only[U]
    refine zT 1 HF ?_;try simp only[U]
    refine zT 2 HF ?_;try simp only[U]
    refine zY 3 HF ?_ (z:=by intro w' hw;have q1:=(hw.cell (p:=⟨g,1,none⟩) (by simp only[dG];omega)).trans b1;clear hw;go_simp<;>with_reducible rfl);try simp only[U]
    refine zT 4 HF ?_;try simp only[U]
    refine zY 5 HF ?_ (z:=by intro w' hw;have q1:=(hw.cell (p:=⟨w.heap.size,1,none⟩) (by simp only[dG];omega)).trans x1;clear hw;go_simp<;>with_reducible rfl);try simp only[U]
    refine zY (v:= .tuple #[.agg #[.int .i64 0,.int .i64 0,.string .empty,.slice none 0 0],.bool false]) 6 HF ?_ (z:=by intro w' hw;have q1:=l7.o w' hw;clear hw;go_simp);try simp only[U]
    refine zT 7 HF ?_;try simp only[U]
    refine zT 8 HF ?_;try simp only[U]
    refine zT 9 HF ?_;try simp only[U]
    refine zO 10 ?_;go_simp;refine⟨fun _ _ h=>h.alloc (zL _) _,?_⟩;refine zO 11 ?_;go_simp;refine⟨fun _ _ _=>(gQ _ wr.drew).alloc (zL _) _,?_⟩;refine zO 12 ?_;go_simp;refine⟨fun _ _ h=>h,?_⟩;refine zQ ?_;go_wp2_with fail;refine bX (v:= .agg #[.int .i64 0,.int .i64 t'.n,.string t'.s,.slice a' t'.args.length cap']) (by simp[results,Tryz.results128,go_sem,hcs,y0,y1,y2,y3,hz]) rfl ⟨_,rfl,?_,_,rfl,?_⟩;·exact((GQ HB.o (by omega) _ _ _ _).alloc (by simp;omega) _).drew
    ·rw[gq.o];have hr:=HR.o;rw[HK.o]at hr;exact Tm.ae.2.1 _ _ _ _ _ (Tm.ae.1 _ _ _ _ _ hr (((CG _ _ (fun h=>by omega) _ _ _ _).trans (J.alloc _ _ _)).trans (J.drew _ _))) fun b _ h=>h.1
   ·obtain⟨zs,rfl,l8⟩:=hz2;have Zh:=Y l8;obtain⟨za,zc,rfl, -⟩:=Tm.dV l8;have dW:=Y ((Ry HE.o fD.o hk e1).symm.trans nX.o);have Ow:=Y (show z.In N from HE.o.tm _ (M5 e1));have HLS:=Y (show z.kind=0->z.n<t'.n from HE.o.less _ (M5 e1));have l7:=Y (fun(W:World)(hW:Below wr.drew.heap.size wr.drew W)=>(by have :=aeV (n:=t'.n) RQ (hM.keeps ((J.drew (fun _=>True) wr).trans (J.ob hW)) trivial);rw[e2]at this;exact this:(Instr.lookup 94 (.map (some mb)) (.int .i64 t'.n) true).run Tryz.prog W= .ok (.tuple #[.agg #[.int .i64 z.kind,.int .i64 z.n,.string z.s,.slice za z.args.length zc],.bool true]) W));clear hk e1 e2 hM hL l8;go_wp2_with fail;refine jd (F:=fun _ w'=>Below wr.drew.heap.size wr.drew w') (by kernel_rfl) ?_;have HF:Below wr.drew.heap.size wr.drew wr.drew:=Z _ _;refine zT 0 HF ?_;try simp only[U]
    refine zT 1 HF ?_;try simp only[U]
    refine zT 2 HF ?_;try simp only[U]
    refine zY 3 HF ?_ (z:=by intro w' hw;have q1:=(hw.cell (p:=⟨g,1,none⟩) (by simp only[dG];omega)).trans b1;clear hw;go_simp<;>with_reducible rfl);try simp only[U]
    refine zT 4 HF ?_;try simp only[U]
    refine zY 5 HF ?_ (z:=by intro w' hw;have q1:=(hw.cell (p:=⟨w.heap.size,1,none⟩) (by simp only[dG];omega)).trans x1;clear hw;go_simp<;>with_reducible rfl);try simp only[U]
    refine zY (v:= .tuple #[.agg #[.int .i64 z.kind,.int .i64 z.n,.string z.s,.slice za z.args.length zc],.bool true]) 6 HF ?_ (z:=by intro w' hw;have q1:=l7.o w' hw;clear hw;go_simp);try simp only[U]
    refine zT 7 HF ?_;try simp only[U]
    refine zT 8 HF ?_;try simp only[U]
    refine zT 9 HF ?_;try simp only[U]
    refine zO 10 ?_;go_simp;refine⟨fun _ _ h=>h.alloc (zL _) _,?_⟩;refine zO 11 ?_;go_simp;refine⟨fun _ _ _=>(gQ _ wr.drew).alloc (zL _) _,?_⟩;refine zO 12 ?_;go_simp;refine⟨fun _ _ h=>h,?_⟩;refine zQ ?_;go_wp2_with fail;go_roundw;case rel=>refine⟨z,za,zc,((GQ HB.o (zL _) _ _ _ _).alloc (by simp;omega) _).drew,aI (yQ HX.o) _,aI ((AR _ _ _ _ _ _ _ (by omega)).trans HY.o) _,?_,Ow.o,dW.o⟩;exact Tm.ae.1 _ _ _ _ _ Zh.o (((CG _ _ (fun h=>by omega) _ _ _ _).trans (J.alloc _ _ _)).trans (J.drew _ _))
    case measure=>
     have e1:=afm HX.o;rw[HK.o]at e1;have e2:=fun o=>afm (w:=(((((wr.setCell _ _).setCell _ _).setCell _ _).setCell _ _).alloc o).drew) (aI (yQ (v0:= .int .i64 z.kind) (v1:= .int .i64 z.n) (v2:= .string z.s) (v3:= .slice za z.args.length zc) HX.o) o);have h3:=HLS.o;have h4:=Ow.o.n;rw[e1,e2];by_cases e:z.kind=0;·have :=h3 e;have :=h4 e;rw[G e,G rfl];omega
     ·rw[O e,G rfl];omega
  ·have hk':(t'.kind==0)=false:=by simpa using hk
   have gq:=Y (nX.o.symm.trans (kD (.inl hk)));clear hk;go_wp2_with fail;refine bX (v:= .agg #[.int .i64 t'.kind,.int .i64 t'.n,.string t'.s,.slice a' t'.args.length cap']) (by simp[results,Tryz.results128,go_sem,hcs,y0,y1,y2,y3]) rfl ⟨_,rfl,GQ HB.o (by omega) _ _ _ _,_,rfl,?_⟩;rw[gq.o];exact Tm.ae.2.1 _ _ _ _ _ (Tm.ae.1 _ _ _ _ _ HR.o (CG _ _ (fun h=>by omega) _ _ _ _)) fun b _ h=>h.1
def fA(xb:Nat)(k:Int)(w:World):Prop:=w.heap[xb]?=some (.cells #[.int .i64 k] 3 (0,0))
theorem fA.cell{xb:Nat}{k:Int}{w:World}(h:fA xb k w):w.cell? ⟨xb,0,none⟩=some (.int .i64 k)/\(∀o,w.frozen? ⟨xb,o,none⟩=false)/\xb<w.heap.size:=⟨(bY h 0).trans rfl,fun o=>by simp[World.frozen?,show w.heap[xb]?=_ from h],ax h⟩
def arB(xb:Nat)(w:World)(p:Bool×Int)(e:Ending)(w':World):Prop:=e= .returned (.bool p.1)/\Ch (fun b=>b=xb) w w'/\fA xb p.2 w'
def Tv(base:Nat)(P:List Cl)(q g mb xb:Nat)(pv tv cv ov:Value)(s:Sv)(N v:Int)(k:Nat):Prop:=∀(t:Tm)(w:World)(vs:List Value),aR base P q g mb xb pv tv cv ov s w->fA xb k w->t.In N->Tm.rep (SA g mb xb tv cv ov) w t vs->Calls Tryz.prog 153 #[.pointer (some ⟨g,0,none⟩),.int .i64 v,.agg vs.toArray,.pointer (some ⟨xb,0,none⟩)] w (arB xb w (dh s.env v k [t]))
section
variable {base : Nat} {P : List Cl} {q g mb xb : Nat} {pv tv cv ov : Value} {s : Sv} {N : Int}
theorem Kv(xb o:Nat)(w:World)(u:Value):Ch (fun b=>b=xb) w (w.setCell ⟨xb,o,none⟩ u):=Ex xb o w u
theorem fA.set{k k':Int}{w:World}(h:fA xb k w):fA xb k' (w.setCell ⟨xb,0,none⟩ (.int .i64 k')):=(aX h 0 _).trans rfl
theorem arC(v:Int)(hx:xb≠g):Tv base P q g mb xb pv tv cv ov s N v 0:=by
 intro t w vs h hw ht hv;obtain⟨a,cap,rfl, -⟩:=Tm.dV hv;obtain⟨x0,xf,xl⟩:=hw.cell;have HW:=Y hw;have hcs:=bF;rw[show((0:Nat):Int)=0 from rfl]at x0;clear hv ht h hw;go_enter Tryz.func153,Tryz.ntmps153;go_wp2_with fail;go_ret;refine⟨rfl,?_,?_⟩;·exact((Kv _ _ _ _).alloc _)
 ·exact aI (HW.o.set (k':= -1)) _
theorem arD(v:Int)(hv:ah v)(hx:xb≠g)(hE:cu N s.env)(k:Nat)(hk4:k<=400)(ih:∀m,m<=k->Tv base P q g mb xb pv tv cv ov s N v m):Tv base P q g mb xb pv tv cv ov s N v (k+1):=by
 intro t w vs h hw ht hvv;have HU:=Y h;have HE:=Y hE;have HT:=Y ht;have IH:=Y ih;obtain⟨a,cap,rfl, -⟩:=Tm.dV hvv;have HV:=Y hvv;obtain⟨x0,xf,xl⟩:=hw.cell;have HW:=Y hw;have hcs:=bF;obtain⟨hl1,hl2,hl3⟩:=h.lt;have hk0:(0:Int)<=(k:Int):=zN _;have RO:(k:Int)<=400:=by omega
 rw[show((k+1:Nat):Int)=(k:Int)+1 by omega]at x0;have HX:=Y hx;have GX:=Y hv;clear h hE ht ih hvv hw hv;go_enter Tryz.func153,Tryz.ntmps153;go_wp2_with fail;have eX:=Y (show Ch (fun b=>b=xb) w ((w.setCell ⟨xb,0,none⟩ (.int .i64 (k:Int))).alloc (.cells #[.int .i64 t.kind,.int .i64 t.n,.string t.s,.slice a t.args.length cap] 34))from(Kv _ _ _ _).alloc _);have mD:=Y (HU.o.ch HX.o eX.o);have Bg:=Y (Tm.ae.1 _ _ _ _ _ (Tm.ae.2.1 _ (fun b=>SA g mb xb tv cv ov b/\b<w.heap.size) _ _ _ HV.o fun b hb h=>⟨h,hb⟩) (eX.o.keeps (A:=fun b=>SA g mb xb tv cv ov b/\b<w.heap.size) fun b _ hb e=>hb.1.2 e));have Cn:=Y (HU.o.Nk.keeps (eX.o.keeps (A:=fun b=>b≠xb) fun b _ hb e=>hb e) (fun b hb=>hb.1.2) (fun e=>by
  rcases HU.o.nx with h|h;·exact HX.o h
  ·exact h (e▸ .inr (.inl rfl))));refine(EU t _ _ _ mD.o HE.o HT.o Cn.o Bg.o).mono ?_;rintro e w2⟨r,rfl,hb2,us,rfl,hr⟩;have Ox:=Y (oZ HE.o HT.o);have fD:=Y (Gz s.env v k t []);generalize ai s.env t=x at*;obtain⟨xa,xc,rfl, -, -, -,ahw,Oy,ahx,hsl⟩:=Tm.dV hr;have HR:=Y hr;have dJ:=Y (eX.o.tb hb2);have dM:=Y (mD.o.below hb2);have HW2:=Y (show fA xb k w2 from aA (aI (HW.o.set (k':=(k:Int))) _) hb2);have HB2:=Y (aA (show((w.setCell ⟨xb,0,none⟩ (.int .i64 (k:Int))).alloc (.cells #[.int .i64 t.kind,.int .i64 t.n,.string t.s,.slice a t.args.length cap] 34)).heap[w.heap.size]?=_ by have :=bq (w.setCell ⟨xb,0,none⟩ (.int .i64 (k:Int))) (.cells #[.int .i64 t.kind,.int .i64 t.n,.string t.s,.slice a t.args.length cap] 34);simpa using this) hb2);obtain⟨y0,y1,y2,y3,yf⟩:=aF HB2.o;obtain⟨z0,zf,zl⟩:=HW2.o.cell;have hz2:=hb2.size;simp only[bO,oL]at hz2;have nX:=Y hsl;have hne:xb≠w.heap.size:=by omega
 have hne':w.heap.size≠xb:=by omega
 have hzz:w.heap.size<w2.heap.size:=by omega
 clear x0 xf hb2 hr hsl;have hK4:J (fun b=>b≠w.heap.size) w2 (((((w2.setCell ⟨w.heap.size,0,none⟩ (.int .i64 x.kind)).setCell ⟨w.heap.size,1,none⟩ (.int .i64 x.n)).setCell ⟨w.heap.size,2,none⟩ (.string x.s)).setCell ⟨w.heap.size,3,none⟩ (.slice xa x.args.length xc))):=CG _ _ (fun h=>h rfl) _ _ _ _;have eY:=Y (show Ch (fun b=>b=xb) w (((((w2.setCell ⟨w.heap.size,0,none⟩ (.int .i64 x.kind)).setCell ⟨w.heap.size,1,none⟩ (.int .i64 x.n)).setCell ⟨w.heap.size,2,none⟩ (.string x.s)).setCell ⟨w.heap.size,3,none⟩ (.slice xa x.args.length xc)))from(((dJ.o.setCell (p:=⟨w.heap.size,0,none⟩) (.inr (zL _)) _).setCell (p:=⟨w.heap.size,1,none⟩) (.inr (zL _)) _).setCell (p:=⟨w.heap.size,2,none⟩) (.inr (zL _)) _).setCell (p:=⟨w.heap.size,3,none⟩) (.inr (zL _)) _);have HW3:=Y (show fA xb k (((((w2.setCell ⟨w.heap.size,0,none⟩ (.int .i64 x.kind)).setCell ⟨w.heap.size,1,none⟩ (.int .i64 x.n)).setCell ⟨w.heap.size,2,none⟩ (.string x.s)).setCell ⟨w.heap.size,3,none⟩ (.slice xa x.args.length xc)))from bJ HW2.o hK4 hne);have Zi:=Y hK4;have HB3:=Y (yQ (v0:= .int .i64 x.kind) (v1:= .int .i64 x.n) (v2:= .string x.s) (v3:= .slice xa x.args.length xc) HB2.o);clear hK4;by_cases hk:x.kind=0
 ·have HK:=Y hk;have hnx:=(Ox.o.n hk);rw[hk];by_cases hxv:x.n=v
  ·have hr:=Y (show dh s.env v (k+1) [t]=(true,(k:Int))by rw[fD.o,G hk,G hxv]);have hq:(x.n==v)=true:=by simpa using hxv
   rw[hk]at eY HW3;clear hxv hk;go_wp2_with fail;go_ret;rw[hr.out];exact⟨rfl,eY.o,HW3.o⟩
  ·have hr:=Y (show dh s.env v (k+1) [t]=(false,(k:Int))by rw[fD.o,G hk,O hxv,Gy]);have hq:(x.n==v)=false:=by simpa using hxv
   rw[hk]at eY HW3;clear hxv hk;go_wp2_with fail;go_ret;rw[hr.out];exact⟨rfl,eY.o,HW3.o⟩
 ·have hk':(x.kind==0)=false:=by simpa using hk
  have hr:=Y (show dh s.env v (k+1) [t]=dh s.env v k x.args by rw[fD.o,O hk,sG]);clear hk;unfold maxLen at Oy;go_wp2_with fail;have pq:=Y (HU.o.ch HX.o eY.o);obtain⟨_,_,eb,eo,e9, -, -, -,lF,ik⟩:=nX.o.at;simp only[cK,dx]at e9;obtain⟨rfl,rfl⟩:=e9;have wy:=Y (ik.keeps Tm.ae (fun hne=>(lF (adD.2 hne)).2) (Zi.o.mono fun b _ hb=>by have :=hb.2;omega));have Di:=Y lF;clear lF ik;generalize(((((w2.setCell ⟨w.heap.size,0,none⟩ (.int .i64 x.kind)).setCell ⟨w.heap.size,1,none⟩ (.int .i64 x.n)).setCell ⟨w.heap.size,2,none⟩ (.string x.s)).setCell ⟨w.heap.size,3,none⟩ (.slice xa x.args.length xc)))=w3 at*;go_loopw[33](fun i wr=>∃j m:Nat,j<=x.args.length/\i= .int .i64 (j:Int)/\m<=k/\dh s.env v k (x.args.take j)=(false,(m:Int))/\fA xb m wr/\Ch (fun b=>b=xb) w3 wr)(fun i _=>x.args.length - (intOf i).toNat);case atStart=>exact⟨0,k,dA _,rfl,zL _,by rw[nD,Gy],HW3.o,Ch.refl _ _⟩
  case round=>
   obtain⟨j,m,hj,rfl,hm,htk,hw,hch⟩:=hrel;have dD:=Y htk;have EW:=Y hw;have iA:=Y hch;obtain⟨q0,qf,ql⟩:=hw.cell;clear htk hw hch;by_cases hlt:j<x.args.length
   ·obtain⟨rfl,bQ⟩:=Di.o (by omega);obtain⟨sa,sc,c0,c1,c2,c3,hr3⟩:=lJ wy.o bQ (iA.o.keeps fun b _ hb e=>hb.1.2 e) hlt;have Tw:=Y (Tm.ae.2.1 _ (SA g mb xb tv cv ov) _ _ _ hr3 fun b _ h=>h.1);have hsplit:x.args=x.args.take j++([x.args[j]]++x.args.drop (j+1)):=by
     conv=>lhs;rw[<-Aj j x.args,QN hlt]
     rfl
    have dN:=Y (show dh s.env v k x.args=dh s.env v m ([x.args[j]]++x.args.drop (j+1))by
     conv=>lhs;rw[hsplit]
     rw[M7,dD.o,O (by simp)];simp);have dW:=Y (show dh s.env v k (x.args.take (j+1))=dh s.env v m [x.args[j]]by rw[iq hlt,M7,dD.o,O (by simp)];simp);have Tx:=Y (Ox.o.arg (bN hlt));have lQ:=iA.o.size;have sV:=Y (show Ch (fun b=>b=xb) w3 (wr.alloc (.cells #[.int .i64 x.args[j].kind,.int .i64 x.args[j].n,.string x.args[j].s,.slice sa x.args[j].args.length sc] 34))from iA.o.alloc _);clear hsplit hr3;go_wp2_with fail;refine(IH.out m hm x.args[j] _ _ (pq.o.ch HX.o sV.o) (aI EW.o _) Tx.o (Tm.ae.1 _ _ _ _ _ Tw.o (J.alloc _ _ _))).mono ?_;rintro e w5⟨rfl,dw,zk⟩;have fF:=Y (sV.o.trans dw (fun _ h=> .inl h));have zm:=Y zk;obtain⟨r0,rf,rl⟩:=zk.cell;have qP:=Jy s.env v m [x.args[j]];have happ:=M7 s.env v m [x.args[j]] (x.args.drop (j+1));have mE:=M8 s.env v m [x.args[j]];generalize dh s.env v m [x.args[j]]=p at*;obtain⟨pf,pw⟩:=p;simp only at qP happ mE r0;have GM:=Y happ;have yO:=Y mE;clear zk dw happ mE q0 qf c0 c1 c2 c3;obtain⟨hp1,hp2⟩:=qP;cases pf with
     |true=>have hpw:0<=pw:=yO.o rfl;have hres:=Y (show dh s.env v (k+1) [t]=(true,pw)by rw[hr.out,dN.o,GM.o,G (.inl rfl)]);go_wp2_with fail;go_ret;rw[hres.o];exact⟨rfl,eY.o.trans fF.o (fun _ h=> .inl h),zm.o⟩
     |false=>
      by_cases hpw:pw<0;·have hres:=Y (show dh s.env v (k+1) [t]=(false,pw)by rw[hr.out,dN.o,GM.o,G (.inr hpw)]);have XL:=Y (decide_eq_false (show ¬(0:Int)<=pw by omega));go_wp2_with fail;go_ret;rw[hres.o];exact⟨congrArg Ending.returned (congrArg Value.bool XL.out),eY.o.trans fF.o (fun _ h=> .inl h),zm.o⟩
      ·obtain⟨pm,rfl⟩:=dH (show 0<=pw by omega);go_wp2_with fail;go_roundw;case rel=>exact⟨j+1,pm,by omega,by go_num,by omega,dW.o,zm.o,fF.o⟩
       case measure=>simp[intOf];omega
   ·have bZ:j=x.args.length:=by omega
    have hres:=Y (show dh s.env v (k+1) [t]=(false,(m:Int))by have :=dD.o;rw[kg (by omega)]at this;rw[hr.out,this]);clear bZ;go_wp2_with fail;go_ret;rw[hres.o];exact⟨rfl,eY.o.trans iA.o (fun _ h=> .inl h),EW.o⟩
theorem ahy(v:Int)(hv:ah v)(hx:xb≠g)(hE:cu N s.env):∀k,k<=400->Tv base P q g mb xb pv tv cv ov s N v k:=by intro k;induction k using Nat.strongRecOn with|_ k ih=>intro hk;cases k with|zero=>exact arC v hx|succ k=>exact arD v hv hx hE k (by omega) fun m hm=>ih m (by omega) (by omega)
end
