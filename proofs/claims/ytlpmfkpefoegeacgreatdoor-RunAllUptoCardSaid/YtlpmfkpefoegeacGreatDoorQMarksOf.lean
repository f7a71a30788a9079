import Derived.Test.YtlpmfkpefoegeacGreatDoorPMBack
import Derived.Test.YtlpmfkpefoegeacGreatDoorQMach4
import Derived.Test.YtlpmfkpefoegeacGreatDoorQMoved
namespace Go.Proofs.YtlpmfkpefoegeacGreatDoor
set_option maxRecDepth 99999
set_option maxHeartbeats 0
set_option linter.all false
section
variable {N : Int} {l : List Ce} {φ : Int → Int} {E : Env}
theorem FE{a:Int}{t:Tm}(h:kU N l φ E a t)(hne:t.args≠[]):∀(i:Nat)(hi:i<t.args.length),Hr l φ E (fun _=>True) (a+1+(i:Nat)) t.args[i]:=by
 have hk:t.kind=3:=by
  rcases h.goal with hk|hk;·have :=h.zW;cases this with|var=>cases hk|atom=>exact absurd rfl hne|int=>cases hk|comp=>rfl
  ·exact hk
 have hs:ax E t=t:=iA (.inl (by rw[hk];decide));have hl:Looks l a a:= .stop h.jF (.inl h.kind);cases h.tells with|var h1 h2 h3 h4 h5=>rw[hs,hk]at h4;simp at h4|leaf h1 h2 h3 h4 h5 h6 h7=>rw[hs,hk]at h4;exact absurd rfl h4|comp h1 h2 h3 h4 h5 h6 h7=>obtain rfl:=hl.JL h1;simp only[hs]at h7;exact h7
theorem Sq{K:Int->Prop}{a:Int}{t:Tm}(h:Hr l φ E K a t):((cellAt l (look l a)).kind=2↔(ax E t).kind=2)/\((ax E t).kind=2->(cellAt l (look l a)).n=(ax E t).n):=by cases h with|var h1 h2 h3 h4 h5=>rw[iQ h1,h2,h4];exact⟨by decide,fun h=>absurd h (by decide)⟩|leaf h1 h2 h3 h4 h5 h6 h7=>rw[iQ h1,h2];exact⟨Gi,fun _=>h5⟩|comp h1 h2 h3 h4 h5 h6 h7=>rw[iQ h1,h2,h3];exact⟨by decide,fun h=>absurd h (by decide)⟩
end
structure agV (N : Int) (φ : Int → Int) (h : Hp) (E : Env) (u : Hp) (E' : Env) : Prop where
  good : u.Good
  tr : u.trail.length ≤ E'.length
  len : u.cells.length = h.cells.length
  Lx : Mon N u.cells φ E'
  tells : ∀ a x, x.In N → Hr h.cells φ E (fun _ => True) a x → Hr u.cells φ E' (fun _ => True) a x
  cells : ∀ a, Inb h.cells a → (cellAt h.cells a).kind ≠ 0 → cellAt u.cells a = cellAt h.cells a ∧ Inb u.cells a
  old : ∀ top tr, top ≤ h.cells.length → tr ≤ h.trail.length → eu u top tr = eu h top tr
  trl : h.trail.length ≤ u.trail.length
theorem agW{N:Int}{φ:Int->Int}{h:Hp}{E:Env}{a b:Int}{ta tb:Tm}(hg:h.Good)(hE:cz N E)(hN0:0<=N)(hN:N<=40000)(hM:Mon N h.cells φ E)(htr:h.trail.length<=E.length)(ha:Hr h.cells φ E (fun _=>True) a ta)(hb:Hr h.cells φ E (fun _=>True) b tb)(ia:ta.In N)(ib:tb.In N):((bM 400 [(ta,tb)] E).work<0->(gP h a b).2.2≠0)/\(¬(bM 400 [(ta,tb)] E).work<0->(gP h a b).2.2=0/\(gP h a b).2.1=(bM 400 [(ta,tb)] E).ok/\((bM 400 [(ta,tb)] E).ok=false->(gP h a b).1=h)/\((bM 400 [(ta,tb)] E).ok=true->agV N φ h E (gP h a b).1 (bM 400 [(ta,tb)] E).env)):=by
 have hia:Inb h.cells a:=by obtain⟨x,hx⟩:=ha.looks;exact hx.start
 have hib:Inb h.cells b:=by obtain⟨x,hx⟩:=hb.looks;exact hx.start
 have hIs:∀p∈[(ta,tb)],p.1.In N/\p.2.In N:=by intro p hp;simp only[gB]at hp;subst hp;exact⟨ia,ib⟩
 have U:=aeR (N:=N) 400 [(a,b)] [(ta,tb)] h.cells E h.trail hE hM ⟨⟨ha,hb⟩,trivial⟩ hIs;have Il:=AU (N:=N) 400 [(ta,tb)] E hE hIs;have Im:=PV 400 [(a,b)] h.cells h.trail;rw[afi hg hia hib];generalize bD 400 [(a,b)] h.cells h.trail=u at U Im ⊢;generalize bM 400 [(ta,tb)] E=u' at U Il ⊢;refine⟨fun hw=>by rw[ai (show u.work<0 by rw[U.work];exact hw)];simp,fun hw=>?_⟩;rw[ag (show ¬u.work<0 by rw[U.work];exact hw)];by_cases hok:u'.ok=false;·rw[ai (show u.ok=false by rw[U.ok];exact hok),hok];exact⟨rfl,rfl,fun _=>rfl,fun h=>by simp at h⟩
 have hok':u.ok=true:=by rw[U.ok];simpa using hok
 rw[ag (show ¬u.ok=false by rw[hok'];decide)];obtain⟨vs,t1,t2,t3⟩:=U.trail hok';obtain⟨vs',t1',hB, -, -⟩:=Im hok';have hvs:vs'=vs:=List.append_cancel_left (t1'.symm.trans t1);subst hvs;have hel:=afh Il.1 hN0;have htl:u.trail.length<=65536:=by rw[t1,bT];omega
 rw[ag (show ¬65536<u.trail.length by omega)];refine⟨rfl,by simp only;rw[<-U.ok,hok'],fun h=>absurd h hok,fun _=>?_⟩;rw[t1]at htl;simp only[t1];refine⟨afk hg hB (fun x hx=>(t3 x hx).1) htl,by simp only[bT];omega,hB.1,U.Lx hok',U.tells hok',fun x hx hk=>afj hB hx hk,fun top tr h1 h2=>?_,by simp⟩;have hB':qB (h.cells++[]) vs' u.cells:=by rw[tN];exact hB
 exact XK hB' h1 h2
def art(P:List Cl)(q:Nat)(nx:Int)(rest:List Gl):Option Bool×Mv->Option Bool×Sv->Prop|(none,m),(none,s)=>m.out=s.out|(some true,m),(some true,s)=>Ff q {m with now:=nx} s rest|(some false,m),(some false,s)=>gZ P s->LC P q m s m.choices s.choices|_,_=>False
theorem aru{N:Int}{E:Env}(hE:cz N E)(z:Tm)(hz:z.In N)(n:Int):0<=(bM 400 [(z,.mk 2 n .empty [])] E).work:=by
 have h2:ax E (.mk 2 n .empty [])= .mk 2 n .empty []:=iA (.inl (by show(2:Int)≠0;decide));rw[bM];simp only[h2,show(Tm.mk 2 n .empty []).kind=2 from rfl,show((2:Int)=0)=False from by simp,and_false,pz,if_false];split
 ·rename_i hk;have hin:fq E (ax E z).n 399 [.mk 2 n .empty []]=(false,398):=by rw[Ke,h2,ag (by show ¬(2:Int)=0;decide)];show fq E _ 398 ([]++[])=_;rw[tN,Qb];rfl
  rw[hin];simp only[mD,false_or];rw[ag (by omega),AR];simp only;omega
 ·split;·simp only;omega
  ·rename_i h1 h3;have :(ax E z).args.length=0:=(ab7.1 h3).2.2.2;rw[Pn]at this;rw[this];show 0<=(bM 399 ([]++[]) E).work;rw[tN,AR];simp only;omega
section
variable {P : List Cl} {q : Nat} {m : Mv} {s : Sv} {n : Nat} {g : Gl} {rest : List Gl}
theorem agX{φ:Int->Int}{u:Hp}{E':Env}{h:Hp}(C:Fg q m s n g rest)(hlen:h.cells.length<=m.h.cells.length+1)(hle:m.h.cells.length<=h.cells.length)(htr:h.trail=m.h.trail)(hold:∀top tr,top<=m.h.cells.length->tr<=m.h.trail.length->eu h top tr=eu m.h top tr)(hE:∃F,E'=s.env++F)(U:agV s.vars φ h s.env u E')(hq:∀v:Nat,v<q->Inb h.cells (m.query+(v:Nat))/\Hr h.cells φ s.env (fun _=>True) (m.query+(v:Nat)) (fw (v:Nat)))(nx:Int)(hch:nS s.vars h.cells φ s.env m.goals nx rest):Ff q {{m with h:=u}with now:=nx} {s with env:=E'} rest:=by
 obtain⟨F,rfl⟩:=hE;refine⟨U.good,C.fuel,C.out,U.tr,⟨φ,U.Lx,fun v hv=>?_,hch.imp (fun _ _=>rfl) (zL _) fun a t k=>?_⟩,C.cO.imp fun c d hc hd k=>k.move ?_ ?_ ?_ ?_ ?_ (kr _) (fun _ _=>rfl) (zL _),?_,C.mW,by have :=C.lL;simp only;omega⟩;·obtain⟨q1,q2⟩:=hq v hv;refine⟨?_,U.tells _ _ (.var _ (by omega) (by have :=C.qv;omega)) q2⟩;have :=U.len;unfold Inb at q1 ⊢;simp only;omega
 ·obtain⟨k1,k2⟩:=U.cells a k.jF k.kind;exact k.move (kr _) k1 k2 (U.tells _ _ k.zW k.tells)
 ·exact(U.old _ _ (by have :=k.top;omega) (by rw[htr];exact k.tr)).trans (hold _ _ k.top k.tr)
 ·have :=U.len;have :=k.top;simp only;omega
 ·have h1:=U.trl;rw[htr]at h1;have :=k.tr;simp only;omega
 ·rw[abW k.zX]
 ·simp only[bT];have :=k.zX;omega
 ·have :=C.bY;have :=U.len;simp only;omega
theorem agY{E':Env}{h:Hp}(C:Fg q m s n g rest)(hg:h.Good)(hle:m.h.cells.length<=h.cells.length)(htr:h.trail=m.h.trail)(hold:∀top tr,top<=m.h.cells.length->tr<=m.h.trail.length->eu h top tr=eu m.h top tr)(hE:∃F,E'=s.env++F)(hok:gZ P {s with env:=E'}):LC P q {m with h:=h} {s with env:=E'} m.choices s.choices:=by
 obtain⟨F,rfl⟩:=hE;refine⟨hok,hg,C.fuel,C.out,C.cO.imp fun c d hc hd k=>k.move (hold _ _ k.top k.tr) ?_ ?_ ?_ ?_ (kr _) (fun _ _=>rfl) (zL _),C.mW,C.lL⟩;·have :=k.top;simp only;omega
 ·simp only[htr];exact k.tr
 ·rw[abW k.zX]
 ·simp only[bT];have :=k.zX;omega
theorem agZ(C:Fg q m s n g rest)(hk:g.t.gF):art P q (cB m n).next rest (nM (cB m n) m) (zA g s):=by
 obtain⟨φ,hM,hq,kk,e1,hlt,uq,hga,hnx,hch⟩:=C.cur;have e2:kk=n:=by omega
 subst e2;have hgm:cB m kk=(m.goals[kk]?).getD default:=rfl;rw[<-hgm]at uq hga hnx hch;generalize cB m kk=gm at*;have XO:=C.cO.len;unfold nM zA;have hcs:(cellAt m.h.cells gm.at_).s=g.t.s:=by rw[hga.cell]
 simp only[hcs];by_cases n1:g.t.s.toList=[33]
 ·rw[ai n1,ai n1];have he:m.choices.length - min gm.bar m.choices.length=s.choices.length - g.bar:=by rw[uq,<-XO];omega
  rw[he];exact⟨C.good,C.fuel,C.out,C.tr,⟨φ,hM,hq,hch⟩,C.cO.drop _,by have :=C.bY;simp only;omega,fun c hc=>C.mW c (F7 hc),by have :=C.lL;simp only;omega⟩
 rw[ag n1,ag n1];have hon:Ff q {m with now:=gm.next} s rest:=⟨C.good,C.fuel,C.out,C.tr,⟨φ,hM,hq,hch⟩,C.cO,by have :=C.bY;simp only;omega,C.mW,by have :=C.lL;simp only;omega⟩;by_cases n2:g.t.s.toList=[116,114,117,101];·rw[ai n2,ai n2];exact hon
 rw[ag n2,ag n2];have hoff:gZ P s->LC P q m s m.choices s.choices:=fun hok=>⟨hok,C.good,C.fuel,C.out,C.cO,C.mW,C.lL⟩;by_cases n3:g.t.s.toList=[102,97,105,108];·rw[ai n3,ai n3];exact hoff
 rw[ag n3,ag n3];have Zm:∀k:Int,m.out++[(⟨k,[]⟩:Ev)]=s.out++[⟨k,[]⟩]:=fun k=>by rw[C.out]
 by_cases n4:g.t.s.toList=[101,113]
 ·rw[ai n4,ai n4];have h2:g.t.args.length=2:=by
   rcases hk with⟨_,h|h|h⟩|⟨h,_⟩|⟨_,h⟩;·exact absurd h n1
   ·exact absurd h n2
   ·exact absurd h n3
   ·exact h
   ·rw[n4]at h;simp at h
  have hne:g.t.args≠[]:=fun h=>by rw[h]at h2;simp at h2
  have ha:=FE hga hne 0 (by omega);have hb:=FE hga hne 1 (by omega);rw[show gm.at_+1+((0:Nat):Int)=gm.at_+1 by omega]at ha;rw[show gm.at_+1+((1:Nat):Int)=gm.at_+2 by omega]at hb;rw[show(g.t.args[0]?).getD default=g.t.args[0]by rw[aT (by omega)];rfl,show(g.t.args[1]?).getD default=g.t.args[1]by rw[aT (by omega)];rfl];have ia:g.t.args[0].In s.vars:=hga.zW.arg (bO _);have ib:g.t.args[1].In s.vars:=hga.zW.arg (bO _);obtain⟨u1,u2⟩:=agW C.good C.env C.v0 C.v1 hM C.tr ha hb ia ib;obtain⟨-,F,hF, -⟩:=AU (N:=s.vars) 400 [(g.t.args[0],g.t.args[1])] s.env C.env (by intro p hp;simp only[gB]at hp;subst hp;exact⟨ia,ib⟩);generalize bM 400 [(g.t.args[0],g.t.args[1])] s.env=u' at*;generalize gP m.h (gm.at_+1) (gm.at_+2)=u at*;by_cases hw:u'.work<0;·rw[ai (u1 hw),ai hw];exact Zm 4
  ·obtain⟨v1,v2,v3,v4⟩:=u2 hw;rw[ag (dJ v1),ag hw,v2];cases ho:u'.ok with|true=>exact agX C (acC _) (zL _) rfl (fun _ _ _ _=>rfl) ⟨F,hF⟩ (v4 ho) hq _ hch|false=>intro hok;rw[v3 ho];exact agY C C.good (zL _) rfl (fun _ _ _ _=>rfl) ⟨F,hF⟩ hok
 rw[ag n4,ag n4];have h2:2<=g.t.args.length:=by
  rcases hk with⟨_,h|h|h⟩|⟨h,_⟩|⟨h,_⟩;·exact absurd h n1
  ·exact absurd h n2
  ·exact absurd h n3
  ·omega
  ·omega
 have hne:g.t.args≠[]:=fun h=>by rw[h]at h2;simp at h2
 have ha:=FE hga hne 0 (by omega);have hb:=FE hga hne 1 (by omega);rw[show gm.at_+1+((0:Nat):Int)=gm.at_+1 by omega]at ha;rw[show gm.at_+1+((1:Nat):Int)=gm.at_+2 by omega]at hb;rw[show(g.t.args[0]?).getD default=g.t.args[0]by rw[aT (by omega)];rfl,show(g.t.args[1]?).getD default=g.t.args[1]by rw[aT (by omega)];rfl];obtain⟨a1,a2⟩:=Sq ha;obtain⟨b1,b2⟩:=Sq hb;by_cases hn:(ax s.env g.t.args[0]).kind≠2\/(ax s.env g.t.args[1]).kind≠2;·rw[ai (hn.imp (fun h e=>h (a1.1 e)) (fun h e=>h (b1.1 e))),ai hn];exact Zm 5
 have hn':(ax s.env g.t.args[0]).kind=2/\(ax s.env g.t.args[1]).kind=2:=by omega
 rw[ag (fun h=>h.elim (fun h=>h (a1.2 hn'.1)) (fun h=>h (b1.2 hn'.2))),ag hn,a2 hn'.1,b2 hn'.2];by_cases n5:g.t.s.toList=[108,101,115,115];·rw[ai n5,ai n5];cases decide ((ax s.env g.t.args[0]).n<(ax s.env g.t.args[1]).n)with|true=>exact hon|false=>exact hoff
 rw[ag n5,ag n5];by_cases hbig:(ax s.env g.t.args[0]).n+(ax s.env g.t.args[1]).n>1099511627776\/(ax s.env g.t.args[0]).n+(ax s.env g.t.args[1]).n< -1099511627776;·rw[ai hbig,ai hbig];exact Zm 5
 rw[ag hbig,ag hbig];have h3:g.t.args.length=3:=by
  rcases hk with⟨_,h|h|h⟩|⟨_,h|h⟩|⟨h,_⟩;·exact absurd h n1
  ·exact absurd h n2
  ·exact absurd h n3
  ·exact absurd h n4
  ·exact absurd h n5
  ·exact h
 generalize(ax s.env g.t.args[0]).n+(ax s.env g.t.args[1]).n=k at*;have hc:=FE hga hne 2 (by omega);rw[show gm.at_+1+((2:Nat):Int)=gm.at_+3 by omega]at hc;rw[show(g.t.args[2]?).getD default=g.t.args[2]by rw[aT (by omega)];rfl];have ic:g.t.args[2].In s.vars:=hga.zW.arg (bO _);have id_:(Tm.mk 2 k .empty []).In s.vars:= .int _ (by omega) (by omega);have hFg:gU [(⟨2,k,.empty⟩:Ce)]:=fun i hi=>by
  simp only[jr]at hi;have :i=0:=by omega
  subst this;exact .inr (.inr (.inl ⟨rfl,Ii⟩))
 have MK:NF 0 [(⟨2,k,.empty⟩:Ce)]:=fun i x hx _ hk=>by cases i with|zero=>simp only[uO,dm]at hx;subst hx;simp at hk|succ i=>simp at hx
 have hlen:m.h.cells.length+[(⟨2,k,.empty⟩:Ce)].length<=65536:=by have :=C.bY;simp only[jr];omega
 rw[Rp C.good hFg hlen];simp only[ne_eq,Pz,if_false];have hg1:=XD C.good hFg hlen;have hM1:=XH hM C.env C.v0 MK;rw[show s.vars+((0:Nat):Int)=s.vars by omega]at hM1;have hcl:∀a t,Inb m.h.cells a->Hr m.h.cells φ s.env (fun _=>True) a t->Hr (m.h.cells++[(⟨2,k,.empty⟩:Ce)].map (dA m.h.cells.length)) (kT m.h.cells s.vars φ) s.env (fun _=>True) a t:=fun a t hi h=>Rn C.good.1 hi h;have hci:Inb m.h.cells (gm.at_+3):=by obtain⟨x,hx⟩:=hc.looks;exact hx.start
 have hI0:Inb [(⟨2,k,.empty⟩:Ce)] 0:=⟨by omega,by simp⟩;obtain⟨c1,c2⟩:=Dj (H:=m.h.cells) hI0;rw[show(0:Int)+(m.h.cells.length:Int)=(m.h.cells.length:Int)by omega,show cellAt [(⟨2,k,.empty⟩:Ce)] 0=⟨2,k,.empty⟩from rfl,Bn _ (by simp)]at c1;rw[show(0:Int)+(m.h.cells.length:Int)=(m.h.cells.length:Int)by omega]at c2;have hst:ax s.env (.mk 2 k .empty [])= .mk 2 k .empty []:=iA (.inl (by simp[Tm.kind]));have hd:Hr (m.h.cells++[(⟨2,k,.empty⟩:Ce)].map (dA m.h.cells.length)) (kT m.h.cells s.vars φ) s.env (fun _=>True) (m.h.cells.length:Int) (.mk 2 k .empty []):= .leaf (.stop c2 (.inl (by rw[c1];simp))) (by rw[c1,hst];rfl) (by rw[hst];simp[Tm.kind]) (by rw[hst];simp[Tm.kind]) (by rw[c1,hst];rfl) (by rw[c1,hst];rfl) (by rw[hst];rfl);obtain⟨u1,u2⟩:=agW (h:=⟨m.h.cells++[(⟨2,k,.empty⟩:Ce)].map (dA m.h.cells.length),m.h.trail⟩) hg1 C.env C.v0 C.v1 hM1 C.tr (hcl _ _ hci hc) hd ic id_;obtain⟨-,F,hF, -⟩:=AU (N:=s.vars) 400 [(g.t.args[2],.mk 2 k .empty [])] s.env C.env (by intro p hp;simp only[gB]at hp;subst hp;exact⟨ic,id_⟩);have hwk:=aru C.env g.t.args[2] ic k;generalize bM 400 [(g.t.args[2],Tm.mk 2 k .empty [])] s.env=u' at*;generalize hu:gP ⟨m.h.cells++[(⟨2,k,.empty⟩:Ce)].map (dA m.h.cells.length),m.h.trail⟩ (gm.at_+3) (m.h.cells.length:Int)=u at*;obtain⟨v1,v2,v3,v4⟩:=u2 (by omega);rw[ag (dJ v1),v2];have hold:∀top tr,top<=m.h.cells.length->tr<=m.h.trail.length->eu ⟨m.h.cells++[(⟨2,k,.empty⟩:Ce)].map (dA m.h.cells.length),m.h.trail⟩ top tr=eu m.h top tr:=fun top tr h1 h2=>by have :=XK (qB.refl (m.h.cells++[(⟨2,k,.empty⟩:Ce)].map (dA m.h.cells.length))) h1 h2;rw[tN]at this;exact this
 cases ho:u'.ok with
  |true=>
   refine agX (h:=⟨m.h.cells++[(⟨2,k,.empty⟩:Ce)].map (dA m.h.cells.length),m.h.trail⟩) C (by simp) (by simp) rfl hold ⟨F,hF⟩ (v4 ho) (fun v hv=>?_) _ (hch.imp (fun _ _=>rfl) (zL _) fun a t Sr=>?_);·obtain⟨q1,q2⟩:=hq v hv;exact⟨(Fb q1).2,hcl _ _ q1 q2⟩
   ·have hl:=Fb (F:=[(⟨2,k,.empty⟩:Ce)]) Sr.jF;exact Sr.move (kr _) hl.1 hl.2 (hcl _ _ Sr.jF Sr.tells)
  |false=>intro hok;rw[v3 ho];have iE:=agY (h:=⟨m.h.cells++[(⟨2,k,.empty⟩:Ce)].map (dA m.h.cells.length),m.h.trail⟩) C hg1 (by simp) rfl hold ⟨F,hF⟩ hok;exact iE
end
theorem ag1{P:List Cl}{t:Tm}:∀(n k:Nat),n=P.length - k->k<=P.length->(kP P t n k=P.length↔∀(i:Nat)(h:i<P.length),k<=i->¬iJ (P[i]).head t)
 |0,k,hn,hk=>by rw[kP];exact⟨fun _ i h hi=>by omega,fun _=>by omega⟩
 |n+1,k,hn,hk=>by
  have hlt:k<P.length:=by omega
  have ih:=ag1 (P:=P) (t:=t) n (k+1) (by omega) (by omega);rw[kP,aT hlt];simp only;by_cases h:iJ (P[k]).head t;·rw[ai h];exact⟨fun e=>by omega,fun h2=>absurd h (h2 k hlt (zL _))⟩
  ·rw[ag h,ih];refine⟨fun h2 i hi hki=>?_,fun h2 i hi hki=>h2 i hi (by omega)⟩;by_cases e:i=k;·subst e;exact h
   ·exact h2 i hi (by omega)
theorem ag2{N:Int}{l:List Ce}{φ:Int->Int}{E:Env}{a:Int}{t:Tm}(h:kU N l φ E a t):yx (cellAt l a)↔t.gF:=by unfold yx Tm.gF;rw[h.cell];simp[Tm.args,Tm.s]
section
variable {P : List Cl} {q : Nat} {m : Mv} {s : Sv} {g : Gl} {rest : List Gl}
theorem ag3(hP:dW P)(S:uy P q m s (g::rest))(dB:(q:Int)<=s.vars):Both q (kQ P m) (uY P g rest s):=by
 obtain⟨hok,BI,S⟩:=S;unfold kQ uY;rw[S.fuel];by_cases hf:s.fuel=0;·rw[ai hf,ai hf];show m.out++_=s.out++_;rw[S.out]
 rw[ag hf,ag hf];obtain⟨φ,hM,hq,kk,e1,hlt,uq,hga,hnx,hch⟩:=S.cur;obtain rfl:kk=m.now.toNat:=by omega
 have hp:=QH s.fuel s.choices hf;have hs1:gZ P {s with fuel:=s.fuel - 1}:=by obtain⟨h1,h2,h3,h4,h5,h6,h7,h8⟩:=hok;rw[hp]at h6 h7;exact⟨h1,h2,h3,h4,h5,by simp only;omega,by simp only;omega,by simp only;omega⟩
 have hpV:=hok.KW;have uk:=hok.Wq;rw[hp]at uk;have hsl:∀c:Nat,c+mV m.fuel m.out<=60000->c+300+mV (s.fuel - 1) m.out<=60000:=fun c h=>by unfold mV at h ⊢;rw[S.fuel]at h;omega
 have hsl2:∀c:Nat,c+300+mV m.fuel m.out<=60000->c+300+mV (s.fuel - 1) m.out<=60000:=fun c h=>by unfold mV at h ⊢;rw[S.fuel]at h;omega
 have Zn:m.goals.length+5+Br (s.fuel - 1) m.out<=5000:=by have h:=S.lL;unfold Br at h ⊢;rw[S.fuel]at h;omega
 have C:Fg q {m with fuel:=s.fuel - 1} {s with fuel:=s.fuel - 1} m.now.toNat g rest:={good:=S.good,env:=hok.env,v0:=hok.He,v1:=by simp only;omega,qv:=dB,gt:=(BI g (by simp)).1,fuel:=rfl,out:=S.out,tr:=S.tr,cur:=⟨φ,hM,hq,m.now.toNat,rfl,hlt,uq,hga,by rw[<-e1];exact hnx,hch⟩,cO:=S.cO,bY:=hsl _ S.bY,mW:=fun c hc=>hsl2 _ (S.mW c hc),lL:=Zn};have hB:LC P q {m with fuel:=s.fuel - 1} {s with fuel:=s.fuel - 1} m.choices s.choices:=⟨hs1,S.good,rfl,S.out,S.cO,C.mW,C.lL⟩;simp only;have ze:kU s.vars m.h.cells φ s.env (cB {m with fuel:=s.fuel - 1} m.now.toNat).at_ g.t:=hga;have hkc:=ag2 ze;by_cases hk:g.t.gF;·rw[ai (hkc.2 hk),ai hk];have hks:=agZ (P:=P) C hk;have iE:=fun(r:Option Bool)(s':Sv)(e:zA g {s with fuel:=s.fuel - 1}=(r,s'))(hr:r≠none)=>K3 hs1 (BI g (by simp)).1 hk (by simp only;omega) e hr;generalize nM (cB {m with fuel:=s.fuel - 1} m.now.toNat) {m with fuel:=s.fuel - 1}=rm at*;generalize zA g {s with fuel:=s.fuel - 1}=rs at*;obtain⟨ra,m'⟩:=rm;obtain⟨rb,s'⟩:=rs;match ra,rb,hks,iE with|none,none,hks,_=>exact hks|some true,some true,hks,_=>exact hks|some false,some false,hks,iE=>obtain⟨a1,a2,a3,a4⟩:=iE (some false) s' rfl (by simp);exact RU hP _ _ _ _ (hks a1) (by rw[a4];exact dB)|none,some b,hks,_=>cases b<;>exact hks.elim|some b,none,hks,_=>cases b<;>exact hks.elim|some true,some false,hks,_=>exact hks.elim|some false,some true,hks,_=>exact hks.elim
 ·rw[ag (fun h=>hk (hkc.1 h)),ag hk];have hnext:cZ P (cellAt m.h.cells (cB {m with fuel:=s.fuel - 1} m.now.toNat).at_) P.length 0=kP P g.t P.length 0:=XL ze P _ _;rw[hnext];have hall:=ag1 (P:=P) (t:=g.t) P.length 0 (by omega) (dn _);by_cases hn:∀c∈P,¬iJ c.head g.t;·rw[ai (hall.2 fun i h _=>hn _ (bO h)),ai hn];show m.out++_=s.out++_;rw[S.out]
  ·rw[ag (fun h=>hn fun c hc=>by obtain⟨i,hi,rfl⟩:=ng.1 hc;exact hall.1 h i hi (dn _)),ag hn];have hcall:=XN hP C P.length 0 (by omega);have hno:=IE (P:=P) (n:=m.now.toNat) (g:=cB {m with fuel:=s.fuel - 1} m.now.toNat) P.length 0 {m with fuel:=s.fuel - 1};have YG:=KX (P:=P) (g:=g) (rest:=rest) P.length 0 {s with fuel:=s.fuel - 1};generalize fI P m.now.toNat (cB {m with fuel:=s.fuel - 1} m.now.toNat) P.length 0 {m with fuel:=s.fuel - 1}=rm at*;generalize lG P g rest P.length 0 {s with fuel:=s.fuel - 1}=rs at*;obtain⟨ra,m'⟩:=rm;obtain⟨rb,s'⟩:=rs;cases ra with
   |next=>cases rb with|next gl=>exact hcall|no=>exact hcall.elim|off=>exact hcall.elim
   |off=>cases rb with|next gl=>exact hcall.elim|no=>exact hcall.elim|off=>exact hcall
   |no=>cases rb with|next gl=>exact hcall.elim|off=>exact hcall.elim|no=>obtain rfl:=hno m' rfl;obtain rfl:=YG s' rfl;exact RU hP _ _ _ _ hB dB
def arw(l:List Ce)(φ:Int->Int):Option (List Tm×Int)->Option (List Tm×Nat)->Prop|none,none=>True|some (xs,left),some (ys,w)=>left=(w:Int)/\w<=200/\ys=xs.map (Tm.ren φ)/\∀x∈xs,x.Vars (gV l)|_,_=>False
theorem ag4{h:Hp}{φ:Int->Int}{E:Env}{N:Int}{query:Int}(hg:h.Good)(hE:cz N E)(hqN:(q:Int)<=N)(hq:∀v:Nat,v<q->Inb h.cells (query+(v:Nat))/\Hr h.cells φ E (fun _=>True) (query+(v:Nat)) (fw (v:Nat))):∀v:Nat,v<=q->arw h.cells φ (oI h query v) (bL E 200 ((List.range v).map fun i=>fw (i:Nat)))
 |0,_=>by rw[oI];simp only[List.range_zero,AA,xW];exact⟨rfl,zL _,rfl,by simp⟩
 |v+1,hv=>by
  have ih:=ag4 hg hE hqN hq v (by omega);rw[oI,ach,ru,XI];revert ih;cases oI h query v with
   |none=>cases bL E 200 ((List.range v).map fun i=>fw (i:Nat))with|none=>intro _;trivial|some p=>intro h;exact h.elim
   |some p=>
    obtain⟨xs,left⟩:=p;cases bL E 200 ((List.range v).map fun i=>fw (i:Nat))with
     |none=>intro h;exact h.elim
     |some p=>
      obtain⟨ys,w⟩:=p;rintro⟨rfl,hw,e2,e3⟩;simp only;obtain⟨q1,q2⟩:=hq v (by omega);have hl:leftOf (w:Int)=(w:Int):=by unfold leftOf;omega
      have hA:=apo (l:=h.cells) (φ:=φ) hE w [query+(v:Nat)] [fw (v:Nat)] ⟨q2,trivial⟩ (by intro t ht;simp only[gB]at ht;subst ht;exact .var _ (by omega) (by omega));have ht:dU h (query+(v:Nat)) (w:Int)=zH (w:Int) (jD h.cells w (query+(v:Nat))):=by rw[dU,ag (dJ hg),ag (dJ q1),hl,dG]
      rw[ht];unfold jD;simp only[qp,AA];have hle:=GG h.cells w [query+(v:Nat)];revert hA hle;cases eG h.cells w [query+(v:Nat)]with
       |none=>cases bL E w [fw (v:Nat)]with|none=>intro _ _;simp only[zH];trivial|some p=>intro h;exact h.elim
       |some p=>
        obtain⟨zs,w1⟩:=p;cases bL E w [fw (v:Nat)]with
         |none=>intro h;exact h.elim
         |some p=>
          obtain⟨us,w2⟩:=p;rintro⟨rfl,d2,d3⟩hle;obtain⟨h1,h2⟩:=hle zs w1 rfl;match zs,h2,d2,d3 with
           |[z],_,d2,d3=>
            simp only[zH,ne_eq,Pz,if_false];refine⟨by omega,by omega,by rw[e2,d2,ru],fun x hx=>?_⟩;rcases fE.1 hx with hx|hx;·exact e3 x hx
            ·exact d3 x hx
theorem ag5(hP:dW P)(S:uy P q m s [])(dB:(q:Int)<=s.vars)(hout:s.out.length<=11):Both q (ui P q m) (match rJ q s with|(false,s')=>(.off,s')|(true,s')=>iK P s'.choices s'):=by
 obtain⟨hok,BI,S⟩:=S;obtain⟨φ,hM,hq,hch⟩:=S.cur;have ht:=ag4 S.good hok.env dB hq q (zL _);unfold ui rJ;revert ht;cases oI m.h m.query q with
  |none=>cases bL s.env 200 ((List.range q).map fun i=>fw (i:Nat))with|none=>intro _;show m.out++_=s.out++_;rw[S.out]|some p=>intro h;exact h.elim
  |some p=>
   obtain⟨xs,left⟩:=p;cases bL s.env 200 ((List.range q).map fun i=>fw (i:Nat))with
    |none=>intro h;exact h.elim
    |some p=>
     obtain⟨ys,w⟩:=p;rintro⟨-, -,e2,e3⟩;simp only;rw[apq hM e2 e3,S.out];by_cases h12:(s.out++[(⟨1,tidy xs⟩:Ev)]).length≥12;·rw[ai h12,ai h12];show _++_=_++_;rfl
     ·rw[ag h12,ag h12];simp only;refine RU hP _ _ _ _ ⟨?_,S.good,S.fuel,rfl,S.cO,fun c hc=>?_,?_⟩ dB;·obtain⟨h1,h2,h3,h4,h5,h6,h7,h8⟩:=hok;exact⟨h1,h2,h3,h4,h5,h6,h7,h8⟩
      ·have :=S.mW c hc;rw[S.out]at this;unfold mV at this ⊢;simp only[bT,jr]at h12 ⊢;omega
      ·have :=S.lL;rw[S.out]at this;unfold Br at this ⊢;simp only[bT,jr]at h12 ⊢;omega
end
inductive qd (gs : List Gm) (l : List Ce) : Nat → Prop where
  | mk (i : Nat) : i < gs.length → Inb l ((gs[i]?).getD default).at_ → ((gs[i]?).getD default).next < i → (0 ≤ ((gs[i]?).getD default).next → qd gs l ((gs[i]?).getD default).next.toNat) → qd gs l i
theorem ML{N:Int}{l l':List Ce}{φ:Int->Int}{E:Env}{gs:List Gm}(hl:∀a,Inb l' a->Inb l a):∀(gl:List Gl)(n:Int),nS N l' φ E gs n gl->0<=n->qd gs l n.toNat|[],n,h,h0=>by have :n= -1:=h;omega|g::r,n,⟨k,h1,h2,h3,h4,h5,h6⟩,h0=>by subst h1;rw[dG];exact .mk k h2 (hl _ h4.jF) (by omega) fun h=>ML hl r _ h6 h
def Su(gs:List Gm)(aC:List Nat):Prop:=∀i∈aC,((gs[i]?).getD default).next<0\/((gs[i]?).getD default).next.toNat∈aC
section
variable {gs : List Gm} {l : List Ce}
theorem ag6:∀(k:Nat)(n:Int)(aC:List Nat),(0<=n->n.toNat<k)->(0<=n->qd gs l n.toNat)->(∀i∈aC,qd gs l i)->(∀i∈aC,((gs[i]?).getD default).next<0\/((gs[i]?).getD default).next.toNat∈aC\/((gs[i]?).getD default).next=n)->Su gs (visitM gs k n aC)/\(∀i∈aC,i∈visitM gs k n aC)/\(0<=n->n.toNat∈visitM gs k n aC)/\∀i∈visitM gs k n aC,qd gs l i
 |0,n,aC,hk,hn,hv,hc=>by
  rw[visitM];refine⟨fun i hi=>?_,fun i hi=>hi,fun h=>absurd (hk h) (Az _),hv⟩;rcases hc i hi with h|h|h;·exact .inl h
  ·exact .inr h
  ·have :¬0<=n:=fun h0=>absurd (hk h0) (Az _);exact .inl (by omega)
 |k+1,n,aC,hk,hn,hv,hc=>by
  rw[visitM];by_cases h:n<0\/n.toNat∈aC
  ·rw[ai h];refine⟨fun i hi=>?_,fun i hi=>hi,fun h0=>h.elim (fun h=>by omega) id,hv⟩;rcases hc i hi with h1|h1|h1;·exact .inl h1
   ·exact .inr h1
   ·rcases h with h|h;·exact .inl (by omega)
    ·exact .inr (by rw[h1];exact h)
  ·rw[ag h];have h0:0<=n:=by omega
   have Sw:=hn h0;have hlt:=hk h0;cases Sw with
    |mk _ v1 v2 v3 v4=>
     obtain⟨c1,c2,c3,c4⟩:=ag6 k ((gs[n.toNat]?).getD default).next (aC++[n.toNat]) (fun h=>by omega) v4 (fun i hi=>by
      rcases fE.1 hi with hi|hi;·exact hv i hi
      ·simp only[gB]at hi;subst hi;exact .mk _ v1 v2 v3 v4) (fun i hi=>by
      rcases fE.1 hi with hi|hi
      ·rcases hc i hi with h1|h1|h1;·exact .inl h1
       ·exact .inr (.inl (by simp[h1]))
       ·exact .inr (.inl (by simp[h1]))
      ·simp only[gB]at hi;subst hi;exact .inr (.inr rfl));exact⟨c1,fun i hi=>c2 i (by simp[hi]),fun _=>c2 _ (by simp),c4⟩
theorem Zo:∀(ns:List Int)(aC:List Nat),(∀n∈ns,0<=n->qd gs l n.toNat)->(∀i∈aC,qd gs l i)->Su gs aC->Su gs (ns.foldl (fun aC n=>visitM gs (gs.length+1) n aC) aC)/\(∀i∈aC,i∈ns.foldl (fun aC n=>visitM gs (gs.length+1) n aC) aC)/\(∀n∈ns,0<=n->n.toNat∈ns.foldl (fun aC n=>visitM gs (gs.length+1) n aC) aC)/\∀i∈ns.foldl (fun aC n=>visitM gs (gs.length+1) n aC) aC,qd gs l i
 |[],aC,_,hv,hc=>⟨hc,fun _ h=>h,by simp,hv⟩
 |n::ns,aC,hn,hv,hc=>by
  have Sw:=hn n (by simp);obtain⟨c1,c2,c3,c4⟩:=ag6 (gs.length+1) n aC (fun h0=>by cases Sw h0 with|mk _ h=>omega) Sw hv (fun i hi=>(hc i hi).imp id .inl);obtain⟨d1,d2,d3,d4⟩:=Zo ns (visitM gs (gs.length+1) n aC) (fun x hx=>hn x (by simp[hx])) c4 c1;rw[List.foldl_cons];refine⟨d1,fun i hi=>d2 i (c2 i hi),fun x hx h0=>?_,d4⟩;rcases gK.1 hx with rfl|hx;·exact d2 _ (c3 h0)
  ·exact d3 x hx h0
end
theorem nS.gc{N:Int}{l l':List Ce}{φ φ':Int->Int}{E E':Env}{gs gs':List Gm}{aC:List Nat}(hc:Su gs aC)(hlen:gs'.length=gs.length)(hgs:∀i∈aC,((gs'[i]?).getD default).bar=((gs[i]?).getD default).bar/\((gs'[i]?).getD default).next=((gs[i]?).getD default).next)(hG:∀i∈aC,∀t,kU N l φ E ((gs[i]?).getD default).at_ t->kU N l' φ' E' ((gs'[i]?).getD default).at_ t):∀(gl:List Gl)(n:Int),(0<=n->n.toNat∈aC)->nS N l φ E gs n gl->nS N l' φ' E' gs' n gl
 |[],n,_,h=>h
 |g::r,n,hv,⟨k,h1,h2,h3,h4,h5,h6⟩=>by
  subst h1;have hk:k∈aC:=by have :=hv (zN _);rwa[dG]at this
  obtain⟨a1,a2⟩:=hgs k hk;refine⟨k,rfl,by omega,by rw[a1];exact h3,hG k hk _ h4,by rw[a2];exact h5,?_⟩;rw[a2];exact nS.gc hc hlen hgs hG r _ (fun h0=>(hc k hk).elim (fun h=>by omega) id) h6
theorem ag7{m:List Bool}{a:Nat}:∀(v:Nat),(∀i,i<v->m[a+i]?=some true)->cnt m (a+v)=cnt m a+v|0,_=>rfl|v+1,h=>by have ih:=ag7 (m:=m) (a:=a) v (fun i hi=>h i (by omega));rw[<-PI,cnt,ai (h v (by omega)),ih];omega
theorem ag8{m:List Bool}:∀k,cnt m k<=k:=rD m
section
variable {P : List Cl} {q : Nat} {m : Mv} {s : Sv} {gl : List Gl}
theorem ag9{h:Hp}{roots dZ ed:List Int}(hg:h.Good)(hr:∀r∈roots,Inb h.cells r):mQ h roots dZ ed=⟨iR h roots,roots.map (ahead (marks h.cells roots)),dZ.map (ahead (marks h.cells roots)),ed.map (ahead (bu (marks h.cells roots) h.trail)),0⟩:=by rw[mQ,ag (dJ hg),ag (dJ hr)]
theorem aha(S:uy P q m s gl):uy P q (yz q m) s gl:=by
 obtain⟨hok,BI,S⟩:=S;refine⟨hok,BI,?_⟩;obtain⟨φ,hM,hq,hch⟩:=S.cur;have hst:∀n∈iX m,0<=n->qd m.goals m.h.cells n.toNat:=by
  intro n hn h0;unfold iX at hn;rcases fE.1 hn with hn|hn;·obtain⟨c,hc,rfl⟩:=fZ.1 hn;obtain⟨d,hd,k⟩:=S.cO.mem c (Gc.1 hc);obtain⟨φ', -, -,k3⟩:=k.snap;refine ML (fun a ha=>?_) _ _ k3 h0;have :=Bl (h:=m.h) c.top c.trail k.top;have :=k.top;unfold Inb at ha ⊢;omega
  ·simp only[gB]at hn;subst hn;exact ML (fun _ h=>h) _ _ hch h0
 obtain⟨aC,Zp⟩:∃aC,aC=oJ m.goals (iX m):=⟨_,rfl⟩;obtain⟨Zq, -,hsv,hvv⟩:=Zo (l:=m.h.cells) (iX m) [] hst (by simp) (by intro i hi;cases hi);have hnd:(iX m).foldl (fun aC n=>visitM m.goals (m.goals.length+1) n aC) []=aC:=Zp.symm;rw[hnd]at Zq hsv hvv;have MP:jE q m=((List.range q).map fun v=>m.query+(v:Nat))++aC.map fun i=>(cB m i).at_:=by rw[Zp];rfl
 obtain⟨roots,hrt⟩:∃roots,roots=jE q m:=⟨_,rfl⟩;have Sy:∀r∈roots,Inb m.h.cells r:=by
  intro r hr;rw[hrt,MP]at hr;rcases fE.1 hr with hr|hr;·obtain⟨v,hv,rfl⟩:=fZ.1 hr;exact(hq v (ko.1 hv)).1
  ·obtain⟨i,hi,rfl⟩:=fZ.1 hr;cases hvv i hi with|mk _ h1 h2=>exact h2
 have hrp:∀r∈roots,RP m.h roots r:=fun r hr=>by obtain⟨h0,h1⟩:=Sy r hr;obtain⟨k,rfl⟩:=dQ h0;exact RP.of (.root hr (by omega))
 have uG:∀v:Nat,v<q->RP m.h roots (m.query+(v:Nat)):=fun v hv=>hrp _ (by rw[hrt,MP];exact alT _ (fZ.2 ⟨v,ko.2 hv,rfl⟩));have hgr:∀i∈aC,RP m.h roots (cB m i).at_:=fun i hi=>hrp _ (by rw[hrt,MP];exact alR _ (fZ.2 ⟨i,hi,rfl⟩));have Sz:∀v:Nat,v<q->ahead (marks m.h.cells roots) (m.query+(v:Nat))=ahead (marks m.h.cells roots) m.query+(v:Nat):=fun v hv=>by
  have h0:=(hq 0 (by omega)).1.1;simp only[Vn,acy]at h0;obtain⟨a,ha⟩:=dQ h0;rw[ha,xg,show((a:Nat):Int)+(v:Nat)=((a+v:Nat):Int)by omega,xg];have :=ag7 (m:=marks m.h.cells roots) (a:=a) v (fun i hi=>by
   have h1:=uG i (by omega);rw[ha]at h1;obtain⟨k,e,hk,hr⟩:=h1.nat S.good.1;have :k=a+i:=by omega
   subst this;exact(uU hk).2 hr);omega
 have FH:q>0->(((jE q m).map (ahead (marks m.h.cells roots)))[0]?).getD 0=ahead (marks m.h.cells roots) m.query:=fun h=>by rw[MP];obtain⟨q',rfl⟩:∃q',q=q'+1:=⟨q - 1,by omega⟩;rw[alO];simp
 have hrm:roots.map (ahead (marks m.h.cells roots))=(((List.range q).map fun v=>m.query+(v:Nat))++aC.map fun i=>(cB m i).at_).map (ahead (marks m.h.cells roots)):=congrArg (List.map _) (hrt.trans MP);have ary:=ag9 (dZ:=m.choices.reverse.map fun c=>(c.top:Int)) (ed:=m.choices.reverse.map fun c=>(c.trail:Int)) S.good Sy;obtain⟨qn,ahc⟩:∃qn:Int,qn=if q>0 then ahead (marks m.h.cells roots) m.query else m.query:=⟨_,rfl⟩;obtain⟨gs',hgs'⟩:∃gs':List Gm,gs'=m.goals.mapIdx fun i g=>if i∈aC then{g with at_:=ahead (marks m.h.cells roots) g.at_}else g:=⟨_,rfl⟩;obtain⟨cs',hcs'⟩:∃cs':List Cm,cs'=m.choices.map fun x=>{x with top:=cnt (marks m.h.cells roots) x.top,trail:=cnt (bu (marks m.h.cells roots) m.h.trail) x.trail}:=⟨_,rfl⟩;have hres:yz q m={m with h:=iR m.h roots,query:=qn,goals:=gs',choices:=cs'}:=by
  unfold yz;rw[<-hrt,ary];simp only[ne_eq,Pz,if_false,Mv.mk.injEq,dL,lF];refine⟨?_,?_,?_⟩
  ·rw[hgs',<-Zp];apply nu (by simp);intro i h1 h2;simp only[ab1];by_cases hi:i∈aC;·rw[ai hi,ai hi];congr 1;have hx:aC.idxOf i<aC.length:=List.idxOf_lt_length_iff.2 hi;rw[hrm,ru,uN (by simp),ny,ny,PD,Nat.add_sub_cancel_left,Aw,Aw,aT hx,List.getElem_idxOf hx];simp only[pq,nW,cB];rw[aT (by simpa using h1)];rfl
   ·rw[ag hi,ag hi]
  ·rw[hcs'];have e:(m.choices.reverse.mapIdx fun i x=>({x with top:=((((m.choices.reverse.map fun c=>(c.top:Int)).map (ahead (marks m.h.cells roots)))[i]?).getD 0).toNat,trail:=((((m.choices.reverse.map fun c=>(c.trail:Int)).map (ahead (bu (marks m.h.cells roots) m.h.trail)))[i]?).getD 0).toNat}:Cm))=(m.choices.map fun x=>({x with top:=cnt (marks m.h.cells roots) x.top,trail:=cnt (bu (marks m.h.cells roots) m.h.trail) x.trail}:Cm)).reverse:=by
    rw[<-List.map_reverse];apply nu (by simp);intro i h1 h2;have hl:i<m.choices.reverse.length:=by simpa using h1
    simp only[ab1,PH,Aw,aT hl,pq,nW,xg,dG]
   rw[e,Ps]
  ·rw[ahc];by_cases h:q>0;·rw[ai h,ai h,hrt];rw[hrt]at FH;exact FH h
   ·rw[ag h,ag h]
 have hqq:∀v:Nat,v<q->qn+(v:Nat)=ahead (marks m.h.cells roots) (m.query+(v:Nat)):=fun v hv=>by rw[Sz v hv,ahc,ai (by omega)]
 have hgl:gs'.length=m.goals.length:=by rw[hgs'];simp
 have SB:∀i,i<m.goals.length->(gs'[i]?).getD default=if i∈aC then{(m.goals[i]?).getD default with at_:=ahead (marks m.h.cells roots) ((m.goals[i]?).getD default).at_}else(m.goals[i]?).getD default:=fun i hi=>by rw[hgs',List.getElem?_mapIdx,aT hi];rfl
 have hvl:∀i∈aC,i<m.goals.length:=fun i hi=>by cases hvv i hi with|mk _ h1=>exact h1
 have ahd:∀i∈aC,((gs'[i]?).getD default).bar=((m.goals[i]?).getD default).bar/\((gs'[i]?).getD default).next=((m.goals[i]?).getD default).next:=fun i hi=>by rw[SB i (hvl i hi),ai hi];exact⟨rfl,rfl⟩
 have ahe:∀i∈aC,((gs'[i]?).getD default).at_=ahead (marks m.h.cells roots) ((m.goals[i]?).getD default).at_:=fun i hi=>by rw[SB i (hvl i hi),ai hi]
 have ahf:∀{l l':List Ce}{T:Int->Prop}{φ1:Int->Int}{E1:Env}(Zr:mU l l' T (ahead (marks m.h.cells roots)))(hall:∀a t,T a->Hr l φ1 E1 (fun _=>True) a t->Hr l' (fun y=>φ1 (Ic T (ahead (marks m.h.cells roots)) y)) E1 (fun _=>True) (ahead (marks m.h.cells roots) a) t)(a:Int)(t:Tm),T a->kU s.vars l φ1 E1 a t->kU s.vars l' (fun y=>φ1 (Ic T (ahead (marks m.h.cells roots)) y)) E1 (ahead (marks m.h.cells roots) a) t:=by intro l l' T φ1 E1 Zr hall a t hT k;refine⟨(Zr.jF a hT).2,?_,k.goal,k.zW,hall a t hT k.tells⟩;rw[Zr.cell a hT];unfold xh;rw[ag k.kind];exact k.cell
 rw[hres];have hgm:=aeT (roots:=roots) S.good;obtain⟨arz,ahg⟩:=hgm.all (apg (roots:=roots) S.good) hM;have IP:(iR m.h roots).cells.length<=m.h.cells.length:=by show(jK _ _ _).length<=_;rw[qC];exact rD _ _
 have azi:(iR m.h roots).trail.length<=m.h.trail.length:=by show(jU _ _ _).length<=_;rw[uV];exact rD _ _
 refine⟨ac0 S.good,S.fuel,S.out,by have :=S.tr;simp only;omega,?_,?_,by have :=S.bY;simp only;omega,fun c hc=>?_,by have :=S.lL;simp only;rw[hgl];exact this⟩
 ·refine⟨_,arz,fun v hv=>?_,?_⟩;·simp only;rw[hqq v hv];exact⟨(hgm.jF _ (uG v hv)).2,ahg _ _ (uG v hv) (hq v hv).2⟩
  ·refine nS.gc Zq hgl ahd (fun i hi t k=>?_) gl m.now (fun h0=>hsv _ (by unfold iX;simp) h0) hch;rw[ahe i hi];exact ahf hgm ahg _ _ (hgr i hi) k
 ·have hone:∀c d,c∈m.choices->Bp m.h s.env s.vars q m.query m.goals c d->Bp (iR m.h roots) s.env s.vars q qn gs' {c with top:=cnt (marks m.h.cells roots) c.top,trail:=cnt (bu (marks m.h.cells roots) m.h.trail) c.trail} d:=fun c d hc k=>by
   obtain⟨Zt,arA⟩:=aeV (roots:=roots) S.good k.top k.tr k.good;obtain⟨φ1,k1,k2,k3⟩:=k.snap;obtain⟨oM,oH⟩:=Zt.all arA k1;have hol:=Bl (h:=m.h) c.top c.trail k.top;refine⟨k.from_,?_,?_,fM (rD _ _) k.XJ,k.zX,aph S.good k.top k.tr k.good,⟨_,oM,fun v hv=>?_,?_⟩⟩;·show cnt _ c.top<=(jK _ _ _).length;rw[qC];exact GH k.top
   ·show cnt _ c.trail<=(jU _ _ _).length;rw[uV];exact GH k.tr
   ·obtain⟨i1,i2⟩:=k2 v hv;have hT:RP m.h roots (m.query+(v:Nat))/\m.query+(v:Nat)<(c.top:Int):=⟨uG v hv,by have :=i1.2;omega⟩;rw[hqq v hv];exact⟨(Zt.jF _ hT).2,oH _ _ hT i2⟩
   ·refine nS.gc Zq hgl ahd (fun i hi t kk=>?_) d.g (c.goal:Int) (fun h0=>hsv _ (by unfold iX;exact alT _ (fZ.2 ⟨c,Gc.2 hc,rfl⟩)) h0) k3;rw[ahe i hi];exact ahf Zt oH _ _ ⟨hgr i hi,by have :=kk.jF.2;omega⟩ kk
  simp only;rw[hcs'];have hlist:∀(cs:List Cm)(ds:List jO),(∀c∈cs,c∈m.choices)->kG m.h s.env s.vars q m.query m.goals cs ds->kG (iR m.h roots) s.env s.vars q qn gs' (cs.map fun x=>{x with top:=cnt (marks m.h.cells roots) x.top,trail:=cnt (bu (marks m.h.cells roots) m.h.trail) x.trail}) ds:=by intro cs;induction cs with
   |nil=>intro ds _ h;cases ds with|nil=>trivial|cons d ds=>exact h.elim
   |cons c cs ih=>intro ds hm h;cases ds with|nil=>exact h.elim|cons d ds=>refine⟨hone c d (hm c (by simp)) h.1,fun x hx=>?_,ih ds (fun x hx=>hm x (by simp[hx])) h.2.2⟩;obtain⟨y,hy,rfl⟩:=fZ.1 hx;obtain⟨h1,h2⟩:=h.2.1 y hy;exact⟨GH h1,GH h2⟩
  exact hlist _ _ (fun _ h=>h) S.cO
 ·rw[hcs']at hc;obtain⟨x,hx,rfl⟩:=fZ.1 hc;have :=S.mW x hx;have :=rD (marks m.h.cells roots) x.top;simp only;omega
end
def uH(n:Nat)(aC:List Nat):List Bool:=(List.range n).map fun i=>decide (i∈aC)
theorem IQ(n:Nat)(aC:List Nat):(uH n aC).length=n:=by simp[uH]
theorem MQ{n:Nat}{aC:List Nat}{i:Nat}(h:i<(uH n aC).length):(uH n aC)[i]=decide (i∈aC):=by simp[uH]
theorem ahh(n:Nat):uH n []=List.replicate n false:=by apply nu (by simp[uH]);intro i h1 h2;rw[MQ,List.getElem_replicate];simp
theorem ahi{n:Nat}{aC:List Nat}{i:Nat}:(uH n aC).set i true=uH n (aC++[i]):=by
 apply nu (by simp[uH]);intro j h1 h2;rw[Ee,MQ,MQ];by_cases h:i=j;·subst h;simp
 ·rw[ag h];congr 1;simp;intro e;exact absurd e.symm h
theorem Zu:∀(n:Nat)(l:List Nat),l.Nodup->(∀i∈l,i<n)->l.length<=n
 |0,l,_,h=>by cases l with|nil=>simp|cons a r=>exact absurd (h a (by simp)) (by omega)
 |n+1,l,hn,h=>by
  have h1:=Zu n (l.erase n) (hn.erase n) (fun i hi=>by
   have h2:=h i (List.mem_of_mem_erase hi);have h3:i≠n:=fun e=>by rw[e]at hi;exact hn.not_mem_erase hi
   omega);rw[List.length_erase]at h1;split at h1<;>omega
structure Under (gs : List Gm) (l : List Ce) (T : List Nat) (n : Int) (aC : List Nat) : Prop where
  eq : ∃ k, visitM gs k n aC = T ∧ (0 ≤ n → n.toNat < k)
  lt : ∀ i ∈ aC, i < gs.length
  nd : aC.Nodup
  aC : 0 ≤ n → qd gs l n.toNat
section
variable {gs : List Gm} {l : List Ce} {T aC : List Nat} {n : Int}
theorem qd.lt{i:Nat}(h:qd gs l i):i<gs.length:=by cases h;assumption
theorem Zv:∀(k:Nat)(n:Int)(aC:List Nat),aC <+: visitM gs k n aC
 |0,_,aC=>by rw[visitM];exact al7 _
 |k+1,n,aC=>by
  rw[visitM];split;·exact al7 _
  ·exact(List.prefix_append aC _).trans (Zv k _ _)
theorem ahj:∀(ns:List Int)(aC:List Nat),aC <+: ns.foldl (fun aC n=>visitM gs (gs.length+1) n aC) aC|[],aC=>al7 _|n::ns,aC=>(Zv _ n aC).trans (ahj ns _)
theorem Under.start(hl:∀i∈aC,i<gs.length)(hnd:aC.Nodup)(hv:0<=n->qd gs l n.toNat):Under gs l (visitM gs (gs.length+1) n aC) n aC:=⟨⟨_,rfl,fun h=>by have :=(hv h).lt;omega⟩,hl,hnd,hv⟩
theorem ahk{i:Nat}(h:aC.Nodup)(hm:i∉aC):(aC++[i]).Nodup:=by rw[al4];exact⟨h,by simp,fun a ha b hb e=>by simp only[gB]at hb;subst hb;subst e;exact hm ha⟩
theorem ahl:∀(k:Nat)(n:Int)(aC:List Nat),aC.Nodup->(visitM gs k n aC).Nodup
 |0,_,aC,h=>h
 |k+1,n,aC,h=>by
  rw[visitM];split;·exact h
  ·rename_i h0;exact ahl k _ _ (ahk h (fun hm=>h0 (.inr hm)))
theorem Under.neg(h:Under gs l T n aC)(hn:n<0):T=aC:=by obtain⟨k,rfl, -⟩:=h.eq;cases k with|zero=>rfl|succ k=>rw[visitM,ai (.inl hn)]
theorem Under.seen(h:Under gs l T n aC)(hn:0<=n)(hm:n.toNat∈aC):T=aC:=by obtain⟨k,rfl, -⟩:=h.eq;cases k with|zero=>rfl|succ k=>rw[visitM,ai (.inr hm)]
theorem Under.next(h:Under gs l T n aC)(hn:0<=n)(hm:n.toNat∉aC):Under gs l T ((gs[n.toNat]?).getD default).next (aC++[n.toNat]):=by
 obtain⟨⟨k,rfl,hk⟩,hl,hnd,hv⟩:=h;have hk0:=hk hn;cases k with
  |zero=>omega
  |succ k=>
   cases hv hn with
    |mk _ h1 h2 h3 h4=>
     refine⟨⟨k,?_,fun h=>by omega⟩,fun i hi=>?_,ahk hnd hm,h4⟩;·rw[visitM,ag (not_or.2 ⟨by omega,hm⟩)]
     ·rcases fE.1 hi with hi|hi;·exact hl i hi
      ·simp only[gB]at hi;omega
theorem Under.down(h:Under gs l T n aC)(hn:0<=n):n.toNat<gs.length/\((gs[n.toNat]?).getD default).next<n:=by cases h.aC hn with|mk _ h1 h2 h3 h4=>exact⟨h1,by omega⟩
theorem Under.few(h:Under gs l T n aC):aC.length<=gs.length:=Zu _ _ h.nd h.lt
theorem Under.pre(h:Under gs l T n aC):aC <+: T:=by obtain⟨k,rfl, -⟩:=h.eq;exact Zv _ _ _
theorem Under.tlt(h:Under gs l T n aC):∀i∈T,i<gs.length:=by
 obtain⟨⟨k,rfl,hk⟩,hl,hnd,hv⟩:=h;clear hk hnd;induction k generalizing n aC with
  |zero=>exact hl
  |succ k ih=>
   rw[visitM];split;·exact hl
   ·rename_i h0;have hn:0<=n:=by have :=fun h=>h0 (.inl h);omega
    cases hv hn with
     |mk _ h1 h2 h3 h4=>
      refine ih (fun i hi=>?_) h4;rcases fE.1 hi with hi|hi;·exact hl i hi
      ·simp only[gB]at hi;omega
def ik(gs:List Gm)(ns:List Int)(j:Nat):List Nat:=oJ gs (ns.take j)
theorem ahm(gs:List Gm)(ns:List Int):ik gs ns 0=[]:=rfl
theorem SC{ns:List Int}{j:Nat}(hj:j<ns.length):ik gs ns (j+1)=visitM gs (gs.length+1) ns[j] (ik gs ns j):=by unfold ik oJ;rw[dX hj,ab6];rfl
theorem arC(gs:List Gm)(ns:List Int)(j:Nat):ik gs ns j <+: oJ gs ns:=by
 unfold ik oJ;conv=>rhs;rw[<-Ju j ns,ab6]
 exact ahj _ _
theorem SE{ns:List Int}{j:Nat}(hj:ns.length<=j):ik gs ns j=oJ gs ns:=by unfold ik;rw[iZ hj]
theorem IU(ns:List Int):∀j,(ik gs ns j).Nodup
 |0=>by rw[ahm];exact List.nodup_nil
 |j+1=>by
  by_cases hj:j<ns.length;·rw[SC hj];exact ahl _ _ _ (IU ns j)
  ·have e:ik gs ns (j+1)=ik gs ns j:=by unfold ik;rw[iZ (by omega),iZ (by omega)]
   rw[e];exact IU ns j
theorem MR{ns:List Int}(hv:∀n∈ns,0<=n->qd gs l n.toNat):∀j,∀i∈ik gs ns j,i<gs.length
 |0,i,hi=>by simp[ik,oJ]at hi
 |j+1,i,hi=>by
  by_cases hj:j<ns.length;·rw[SC hj]at hi;exact(Under.start (l:=l) (MR hv j) (IU ns j) (hv _ (bO hj))).tlt i hi
  ·have e:ik gs ns (j+1)=ik gs ns j:=by unfold ik;rw[iZ (by omega),iZ (by omega)]
   rw[e]at hi;exact MR hv j i hi
def uI(q:Nat)(query:Int)(gs:List Gm)(aC:List Nat):List Int:=((List.range q).map fun v=>query+(v:Nat))++aC.map fun i=>((gs[i]?).getD default).at_
theorem Zw(q:Nat)(query:Int)(gs:List Gm)(aC:List Nat):(uI q query gs aC).length=q+aC.length:=by simp[uI]
theorem arD(q:Nat)(query:Int)(gs:List Gm)(aC:List Nat)(i:Nat):uI q query gs (aC++[i])=uI q query gs aC++[((gs[i]?).getD default).at_]:=by simp[uI]
def kH(R:List Int)(q:Nat)(aC:List Nat)(gs:List Gm):List Gm:=gs.mapIdx fun i g=>if i∈aC then{g with at_:=(R[q+aC.idxOf i]?).getD 0}else g
theorem vP(R:List Int)(q:Nat)(aC:List Nat)(gs:List Gm):(kH R q aC gs).length=gs.length:=by simp[kH]
theorem arE(R:List Int)(q:Nat)(gs:List Gm):kH R q [] gs=gs:=by apply nu (by simp[kH]);intro i h1 h2;simp[kH]
theorem MS{R:List Int}{q:Nat}{aC:List Nat}{gs:List Gm}{i:Nat}(h:i<(kH R q aC gs).length):(kH R q aC gs)[i]=if i∈aC then{gs[i]'(by rwa[vP]at h)with at_:=(R[q+aC.idxOf i]?).getD 0}else gs[i]'(by rwa[vP]at h):=by simp[kH]
theorem arF{R:List Int}{q:Nat}{aC:List Nat}{gs:List Gm}{i:Nat}(h:i<gs.length):((kH R q aC gs)[i]'(by rw[vP];exact h)).next=((gs[i]?).getD default).next:=by rw[MS,aT h];split<;>rfl
theorem ahn{R:List Int}{q:Nat}{aC:List Nat}{gs:List Gm}{i:Nat}(h:i<gs.length)(hm:i∉aC):(kH R q aC gs)[i]'(by rw[vP];exact h)=gs[i]:=by rw[MS,ag hm]
theorem arG{R:List Int}{q:Nat}{aC:List Nat}{gs:List Gm}{i:Nat}(h:i<gs.length)(hm:i∉aC):(kH R q aC gs).set i ⟨(R[q+aC.length]?).getD 0,gs[i].bar,gs[i].next⟩=kH R q (aC++[i]) gs:=by
 apply nu (by simp[kH]);intro j h1 h2;rw[Ee];by_cases e:i=j
 ·subst e;rw[ai rfl,MS,ai (by simp)];have :(aC++[i]).idxOf i=aC.length:=by rw[al5,ag hm];simp[al9]
  rw[this]
 ·rw[ag e,MS,MS];by_cases e2:j∈aC;·rw[ai e2,ai (by simp[e2]),al5,ai e2]
  ·rw[ag e2,ag (by simp[e2];intro h;exact e h.symm)]
def mo(dZ ed:List Int)(j:Nat)(cs:List Cm):List Cm:=cs.mapIdx fun i x=>if i<j then{x with top:=((dZ[i]?).getD 0).toNat,trail:=((ed[i]?).getD 0).toNat}else x
theorem SF(dZ ed:List Int)(j:Nat)(cs:List Cm):(mo dZ ed j cs).length=cs.length:=by simp[mo]
theorem arH(dZ ed:List Int)(cs:List Cm):mo dZ ed 0 cs=cs:=by apply nu (by simp[mo]);intro i h1 h2;simp[mo]
theorem arI(dZ ed:List Int)(cs:List Cm):mo dZ ed cs.length cs=cs.mapIdx fun i x=>{x with top:=((dZ[i]?).getD 0).toNat,trail:=((ed[i]?).getD 0).toNat}:=by apply nu (by simp[mo]);intro i h1 h2;simp only[mo,ab1];rw[ai (by simpa[mo]using h1)]
theorem arJ{dZ ed:List Int}{j:Nat}{cs:List Cm}(h:j<cs.length):(mo dZ ed j cs)[j]'(by rw[SF];exact h)=cs[j]:=by simp[mo]
theorem arK{dZ ed:List Int}{j:Nat}{cs:List Cm}(h:j<cs.length):(mo dZ ed j cs).set j {cs[j]with top:=((dZ[j]?).getD 0).toNat,trail:=((ed[j]?).getD 0).toNat}=mo dZ ed (j+1) cs:=by
 apply nu (by simp[mo]);intro i h1 h2;rw[Ee];simp only[mo,ab1];by_cases e:j=i;·subst e;rw[ai rfl,ai (by omega)]
 ·rw[ag e];by_cases e2:i<j;·rw[ai e2,ai (by omega)]
  ·rw[ag e2,ag (by omega)]
end
open Go.RowKit
def arL(A:Nat->Prop)(x:adW)(r:Value)(w':World):Prop:=∃us a b c,r= .tuple #[.agg us.toArray,a,b,c,.int .i64 x.err]/\Hp.rep A w' x.heap us/\gD A w' x.roots a/\gD A w' x.dZ b/\gD A w' x.ed c
def fV(m:List Bool)(n j:Nat):List Int:=(List.range (n+1)).map fun i=>if i<=j then(cnt m i:Int)else 0
theorem xB(m:List Bool)(n j:Nat):(fV m n j).length=n+1:=by simp[fV]
theorem BJ(m:List Bool)(n j i:Nat)(h:i<(fV m n j).length):(fV m n j)[i]=if i<=j then(cnt m i:Int)else 0:=by simp[fV]
theorem aho(m:List Bool)(n:Nat):fV m n 0=List.replicate (n+1) 0:=by
 apply nu (by simp[fV]);intro i h1 h2;rw[BJ,List.getElem_replicate];split;·rename_i h;rw[show i=0 by omega];rfl
 ·rfl
theorem arM(m:List Bool){j:Nat}(h:j<m.length):cnt m (j+1)=cnt m j+(if m[j]=true then 1 else 0):=by rw[cnt,aT h];cases m[j]<;>simp
theorem ahp(m:List Bool)(n j:Nat)(h:j<n):fV m n (j+1)=(fV m n j).set (j+1) (cnt m (j+1):Int):=by
 apply nu (by simp[fV]);intro i h1 h2;rw[BJ,Ee];by_cases e:j+1=i;·subst e;rw[ai (zL _),ai rfl]
 ·rw[ag e,BJ];by_cases e2:i<=j;·rw[ai (by omega),ai e2]
  ·rw[ag (by omega),ag e2]
theorem ahq(m:List Bool)(n:Nat)(hm:m.length=n)(x:Int):jR (fV m n n) x=ahead m x:=by
 unfold jR ahead;rw[xB];have h1:(max 0 (min x (((n+1:Nat):Int) - 1))).toNat=min x.toNat n:=by omega
 rw[h1,aT (by rw[xB];omega),nW,BJ,ai (by omega),<-hm,amJ]
theorem dK.fresh(w:World)(n:Nat)(hn:n<=maxLen):dK (w.alloc (.cells (Array.replicate n (.int .i64 0)) 3)) w.heap.size (List.replicate n 0) (.slice (some ⟨w.heap.size,0,none⟩) n n):=by
 refine⟨⟨by rw[Qi dY],?_⟩,fun x hx=>by rw[List.eq_of_mem_replicate hx];unfold aA;omega⟩;rw[Au];by_cases h0:n=0;·subst h0;exact .inl ⟨rfl,_,rfl⟩
 ·refine .inr ⟨w.heap.size,n,_,rfl,by omega,zL _,bJ _ _,zL _,hn,by simp,?_⟩;rw[Vr,alQ,iZ (by simp)];clear h0 hn;induction n with|zero=>rfl|succ n ih=>rw[abZ,abZ,Ay,<-ih];rfl
theorem dK.cell{w:World}{base g n cap:Nat}{l:List Int}(h:dK w base l (.slice (some ⟨g,0,none⟩) n cap)){i:Nat}(hi:i<l.length):w.cell? ⟨g,i,none⟩=some (.int .i64 l[i])/\aA l[i]/\(∀o,w.frozen? ⟨g,o,none⟩=false)/\ownB (.slice (some ⟨g,0,none⟩) n cap)=some g/\base<=g/\g<w.heap.size:=by obtain⟨g',cap',e,h0,h1,h2,h3,h4,h5,h6,hc⟩:=ah.at dY h (by omega);simp only[dC,dm,uR,lF]at e;obtain⟨rfl,rfl,rfl⟩:=e;exact⟨by simpa using hc i hi 0 _ rfl,h.2 _ (bO hi),h4,h3,h6,h5⟩
theorem arN(h:Hp)(roots dZ ed:List Int)(A:Nat->Prop)(w:World)(vs:List Value)(v1 v2 v3:Value)(hh:Hp.rep A w h vs)(hv1:gD A w roots v1)(hv2:gD A w dZ v2)(hv3:gD A w ed v3):Calls Tryz.prog 67 #[.agg vs.toArray,v1,v2,v3] w (Pure w (arL (fun b=>A b\/New w b) (mQ h roots dZ ed))):=by
 obtain⟨va,cap,vb,aR,rfl,hc1,hc2,hc3,ht1,ht2,ht3,hc,ht⟩:=Hp.mG hh;obtain⟨_,_,cb,qD,e, -, -, -,j3,hce⟩:=hc.at;simp only[dC,dL]at e;obtain⟨rfl,rfl⟩:=e;obtain⟨_,_,tb,El,e, -, -, -,mP,hte⟩:=ht.at;simp only[dC,dL]at e;obtain⟨rfl,rfl⟩:=e;obtain⟨r1a,r1c,r1b,r1o,rfl,azl,azm,azn,ahr,ahs⟩:=hv1.at;obtain⟨r2a,r2c, -, -,rfl, -, -,arS, -⟩:=hv2.at;obtain⟨r3a,r3c, -, -,rfl, -, -,arV, -⟩:=hv3.at;have HH:=zh hh;have HL2:=zh arS;have WK:=zh arV;have Dx:=zh hv1;have zZ:=zh hv2;have Ag:=zh hv3;have sF:=zh j3;have vC:=zh hce;have Eu:=zh mP;have Sk:=zh hte;have MU:=zh ahr;have MV:=zh ahs;clear hh hv1 hv2 hv3 j3 hce mP hte hc ht ahr ahs;go_enter Tryz.func67,Tryz.ntmps67;go_wp2_with fail;refine(aox h roots A _ [_,_] _ (Hp.rep.keeps HH.o ((af.alloc _ _ _).trans (af.alloc _ _ _))) (au.keeps aW Dx.o ((af.alloc _ _ _).trans (af.alloc _ _ _)))).mono ?_;rintro e w1⟨v,rfl,hb1,mv,rfl,hmk⟩;have h2:=je w (.cells #[.slice va h.cells.length cap,.slice vb h.trail.length aR] 59) (.cells #[.slice none 0 0,.slice none 0 0] 59);have eO:=zh (aL h2.1 hb1);have dI:=zh (aL h2.2 hb1);have HB:=zh (show Below w.heap.size w w1 from eB (eB (hb1.mono (by simp))));have hz:w.heap.size+2<=w1.heap.size:=by have :=hb1.size;simp at this;omega
 have hz':w.heap.size<w1.heap.size:=by omega
 have hz1:w.heap.size+1<w1.heap.size:=by omega
 have jQ:=zh (show gG w1 (w.heap.size+2) (CR h roots).1 mv by simpa using hmk);have hcs:=dH;clear h2 hb1 hmk;obtain⟨x0,x1,xf⟩:=dO eO.o;obtain⟨y0,y1,yf⟩:=dO dI.o;by_cases hg:h.Good;case neg=>have HG:=zh hg;rw[show(CR h roots).2=1 by rw[CR,ag hg]];clear hg;go_wp2_with fail;refine dD (v:= .tuple #[.agg #[.slice va h.cells.length cap,.slice vb h.trail.length aR],.slice none 0 0,.slice none 0 0,.slice none 0 0,.int .i64 1]) (by simp[results,Tryz.results67,go_sem,hcs,x0,x1,y0,y1]) rfl ?_;have hb:Below w.heap.size w ((w1.setCell ⟨w.heap.size+1,0,none⟩ (.slice va h.cells.length cap)).setCell ⟨w.heap.size+1,1,none⟩ (.slice vb h.trail.length aR)):=bK (bK HB.o (by simp) _) (by simp) _;rw[mQ,ai HG.o];exact Pure.mk hb ⟨_,_,_,_,rfl,Hp.rep.mono (Hp.rep.keeps HH.o (af.ob hb)) (fun _ _ h=> .inl h),au.nil ..,au.nil ..,au.nil ..⟩
 case pos=>
  have HG:=zh hg;have hL1:h.cells.length<=65536:=hg.2.2.1;have hL2:h.trail.length<=65536:=hg.2.2.2;have em:CR h roots=(marks h.cells roots,0):=by rw[CR,ai hg]
  rw[em]at jQ ⊢;obtain⟨m,hm⟩:∃m,m=marks h.cells roots:=⟨_,rfl⟩;rw[<-hm]at jQ;have HM:=zh hm;have rW:m.length=h.cells.length:=by rw[hm,VG]
  clear hg em hm;go_wp2_with fail;go_loopw[38](fun i wr=>∃j:Nat,j<=roots.length/\i= .int .i64 (j:Int)/\wr=w1/\∀q(hq:q<roots.length),q<j->Inb h.cells roots[q])(fun i _=>roots.length - (intOf i).toNat);case atStart=>exact⟨0,dn _,rfl,rfl,fun q _ hq=>absurd hq (Az _)⟩
  case round=>
   obtain⟨j,hj,rfl,hwe,hin⟩:=hrel;subst hwe;have dM:=zh hin;clear hin;by_cases hlt:j<roots.length
   ·obtain⟨rfl,hAr⟩:=MU.o (by omega);obtain⟨c0,ci⟩:=Cr MV.o hAr (af.ob HB.o) hlt;have hlt':(j:Int)<(roots.length:Int):=by omega
    have ky:=zh hlt;obtain⟨q,hq⟩:∃q:Int,q=roots[j]'hlt:=⟨_,rfl⟩;rw[<-hq]at c0 ci;have HQ:=zh hq;clear hq;by_cases hq1:0<=q/\q<(h.cells.length:Int)
    ·have qg:=zh hq1;obtain⟨k1,k2⟩:=hq1;go_wp2_with fail;go_roundw;case rel=>
      refine⟨j+1,by omega,by go_num,(by first|rfl|trivial),fun i hi hij=>?_⟩;by_cases e:i=j;·subst e;rw[<-HQ.o];exact qg.o
      ·exact dM.o i hi (by omega)
     case measure=>first|(simp[intOf];done)|(simp[intOf];omega)
    ·have HNE:=zh (show ¬(∀r∈roots,Inb h.cells r)from fun hall=>hq1 (by have :=hall (roots[j]'ky.o) (bO _);rw[<-HQ.o]at this;exact this));have azo:¬(0<=q/\q<(h.cells.length:Int)):=hq1;clear hq1;by_cases hq0:q<0;all_goals go_wp2_with fail;all_goals first|(exfalso;omega)|(refine dD (v:= .tuple #[.agg #[.slice va h.cells.length cap,.slice vb h.trail.length aR],.slice none 0 0,.slice none 0 0,.slice none 0 0,.int .i64 4]) (by simp[results,Tryz.results67,go_sem,hcs,x0,x1,y0,y1]) rfl ?_;have hb:Below w.heap.size w ((wr.setCell ⟨w.heap.size+1,0,none⟩ (.slice va h.cells.length cap)).setCell ⟨w.heap.size+1,1,none⟩ (.slice vb h.trail.length aR)):=bK (bK HB.o (by simp) _) (by simp) _;rw[mQ,ag (dJ HG.o),ai HNE.o];exact Pure.mk hb ⟨_,_,_,_,rfl,Hp.rep.mono (Hp.rep.keeps HH.o (af.ob hb)) (fun _ _ h=> .inl h),au.nil ..,au.nil ..,au.nil ..⟩)|go_ways
   ·have zx:=zh (show ∀r∈roots,Inb h.cells r from fun r hr=>by obtain⟨i,hi,rfl⟩:=ng.1 hr;exact dM.o i hi (by omega));have hlt':¬(j:Int)<(roots.length:Int):=by omega
    clear hlt;have qM:∀W:World,(Instr.makeSlice 57 (.int .i64 ((h.cells.length:Int)+1)) (.int .i64 ((h.cells.length:Int)+1))).run Tryz.prog W= .ok (.slice (some ⟨W.heap.size,0,none⟩) (h.cells.length+1) (h.cells.length+1)) (W.alloc (.cells (Array.replicate (h.cells.length+1) (.int .i64 0)) 3)):=fun W=>by have :=Lf (bytes:=8) (z:= .int .i64 0) W Tryz.underlying57 (by kernel_rfl) rfl (h.cells.length+1) (by omega) (by omega);simpa using this
    have qT:∀W:World,(Instr.makeSlice 57 (.int .i64 ((h.trail.length:Int)+1)) (.int .i64 ((h.trail.length:Int)+1))).run Tryz.prog W= .ok (.slice (some ⟨W.heap.size,0,none⟩) (h.trail.length+1) (h.trail.length+1)) (W.alloc (.cells (Array.replicate (h.trail.length+1) (.int .i64 0)) 3)):=fun W=>by have :=Lf (bytes:=8) (z:= .int .i64 0) W Tryz.underlying57 (by kernel_rfl) rfl (h.trail.length+1) (by omega) (by omega);simpa using this
    obtain⟨ma,mc,rfl,DI,hmc⟩:=ah.val jQ.o;rw[rW]at DI;rw[rW]at jQ;rw[rW];have HT0:=zh (dK.fresh wr (h.cells.length+1) (by simp[maxLen];omega));rw[<-aho m]at HT0;obtain⟨ga,hga⟩:∃g,g=wr.heap.size:=⟨_,rfl⟩;have zU:=zh hga;rw[<-hga]at HT0;have azp:w.heap.size+2<=ga:=by omega
    have HB2:=zh (HB.o.alloc (by omega) (.cells (Array.replicate (h.cells.length+1) (.int .i64 0)) 3));have kS:=zh (aX eO.o (.cells (Array.replicate (h.cells.length+1) (.int .i64 0)) 3));have wV:=zh (aX dI.o (.cells (Array.replicate (h.cells.length+1) (.int .i64 0)) 3));have gX:=zh (ah.below jQ.o ((zB _ _).alloc (zL _) (.cells (Array.replicate (h.cells.length+1) (.int .i64 0)) 3)));have hs2:(wr.alloc (.cells (Array.replicate (h.cells.length+1) (.int .i64 0)) 3)).heap.size=ga+1:=by rw[hga];simp
    go_wp2_with fail;rw[<-zU.o];clear hga x0 x1 xf y0 y1 yf;go_loopw[60](fun i wr=>∃j:Nat,j<=h.cells.length/\i= .int .i64 (j:Int)/\Below w.heap.size w wr/\wr.heap[w.heap.size]?=some (.cells #[.slice va h.cells.length cap,.slice vb h.trail.length aR] 59 (0,0))/\wr.heap[w.heap.size+1]?=some (.cells #[.slice none 0 0,.slice none 0 0] 59 (0,0))/\gG wr (w.heap.size+2) m (.slice ma h.cells.length mc)/\dK wr ga (fV m h.cells.length j) (.slice (some ⟨ga,0,none⟩) (h.cells.length+1) (h.cells.length+1))/\ga+1<=wr.heap.size)(fun i _=>h.cells.length - (intOf i).toNat);case atStart=>exact⟨0,dn _,rfl,HB2.o,kS.o,wV.o,gX.o,HT0.o,by omega⟩
    case round=>
     obtain⟨j,hj,rfl,jb,j1,j2,jm,jt,jz⟩:=hrel;have JB:=zh jb;have J1:=zh j1;have J2:=zh j2;have JM:=zh jm;have JT:=zh jt;have aoz:=aJ j1;have azq:=aJ j2;by_cases hlt:j<h.cells.length
     ·obtain⟨gb,iO,e, -, -, -,hgb, -,oG, -,hcell⟩:=ah.at AX jm (by omega);simp only[dC]at e;obtain⟨rfl, -,rfl⟩:=e;have hjm:j<m.length:=by omega
      have b0:wr.cell? ⟨gb,j,none⟩=some (.bool m[j]):=by simpa using hcell j hjm 0 _ rfl
      have htl:=xB m h.cells.length j;obtain⟨t0, -,tf,hot, -, -⟩:=dK.cell jt (i:=j) (by omega);obtain⟨t1, -, -, -, -, -⟩:=dK.cell jt (i:=j+1) (by omega);rw[BJ,ai (zL _)]at t0;have yT:=zh hot;have hcnt:=rD m j;have arY:¬ga=gb:=fun e=>rU (by decide) jm jt gb hgb (hot.trans (congrArg some e));have hlt':(j:Int)<(h.cells.length:Int):=by omega
      have hj0:(0:Int)<=(j:Int):=zN _;have hc0:(0:Int)<=(cnt m j:Int):=zN _;have HW1:=zh (bK JB.out (p:=⟨ga,j+1,none⟩) (by simp only;omega) (.int .i64 (cnt m j:Int)));have HW2:=zh (bK HW1.o (p:=⟨ga,j+1,none⟩) (by simp only;omega) (.int .i64 ((cnt m j:Int)+1)));have eT:=zh (show dK (wr.setCell ⟨ga,j+1,none⟩ (.int .i64 (cnt m j:Int))) ga ((fV m h.cells.length j).set (j+1) (cnt m j:Int)) (.slice (some ⟨ga,0,none⟩) (h.cells.length+1) (h.cells.length+1))by have :=ah.set (y:=(cnt m j:Int)) (u:= .int .i64 (cnt m j:Int)) dY JT.out yT.o (i:=j+1) (j:=0) (by omega) (by omega) rfl (by unfold aA;omega);simpa using this);have bA:=zh (show dK ((wr.setCell ⟨ga,j+1,none⟩ (.int .i64 (cnt m j:Int))).setCell ⟨ga,j+1,none⟩ (.int .i64 ((cnt m j:Int)+1))) ga ((fV m h.cells.length j).set (j+1) ((cnt m j:Int)+1)) (.slice (some ⟨ga,0,none⟩) (h.cells.length+1) (h.cells.length+1))by have :=ah.set (y:=(cnt m j:Int)+1) (u:= .int .i64 ((cnt m j:Int)+1)) dY eT.o yT.o (i:=j+1) (j:=0) (by rw[xL];omega) (by omega) rfl (by unfold aA;omega);rw[acw]at this;simpa using this);have fe:=zh (ah.kept JM.out (w':=wr.setCell ⟨ga,j+1,none⟩ (.int .i64 (cnt m j:Int))) (fun b hb=>bH _ _ _ _ (fun e=>by have :=zI (hgb.symm.trans hb);simp only at e;omega)));have arZ:=zh (ah.kept fe.o (w':=(wr.setCell ⟨ga,j+1,none⟩ (.int .i64 (cnt m j:Int))).setCell ⟨ga,j+1,none⟩ (.int .i64 ((cnt m j:Int)+1))) (fun b hb=>bH _ _ _ _ (fun e=>by have :=zI (hgb.symm.trans hb);simp only at e;omega)));have ji:=zh (ahp m h.cells.length j hlt);have hcs1:=arM m hjm;cases MW:m[j]with
       |false=>
        rw[MW]at b0 hcs1;have BK:=zh (show cnt m (j+1)=cnt m j by simpa using hcs1);clear jb j1 j2 jm jt hcell hcs1 hgb hot;go_wp2_with fail;go_roundw;case rel=>
         refine⟨j+1,by omega,by go_num,HW1.o,?_,?_,fe.o,by rw[ji.o,BK.o];exact eT.o,by simp;omega⟩;·rw[bH _ _ _ _ (by simp;omega)];exact J1.out
         ·rw[bH _ _ _ _ (by simp;omega)];exact J2.out
        case measure=>first|(simp[intOf];done)|(simp[intOf];omega)
       |true=>
        rw[MW]at b0 hcs1;have BK:=zh (show((cnt m (j+1):Nat):Int)=(cnt m j:Int)+1 by rw[hcs1];simp);clear jb j1 j2 jm jt hcell hcs1 hgb hot;go_wp2_with fail;go_roundw;case rel=>
         refine⟨j+1,by omega,by go_num,HW2.o,?_,?_,arZ.o,by rw[ji.o,BK.o];exact bA.o,by simp;omega⟩;·rw[bH _ _ _ _ (by simp;omega),bH _ _ _ _ (by simp;omega)];exact J1.out
         ·rw[bH _ _ _ _ (by simp;omega),bH _ _ _ _ (by simp;omega)];exact J2.out
        case measure=>first|(simp[intOf];done)|(simp[intOf];omega)
     ·have eH:j=h.cells.length:=by omega
      subst eH;obtain⟨x0,x1,xf⟩:=dO j1;obtain⟨y0,y1,yf⟩:=dO j2;have hlt':¬((h.cells.length:Int)<(h.cells.length:Int)):=by omega
      clear jb j1 j2 jm jt hlt;obtain⟨go,hgo⟩:∃g,g=wr.heap.size:=⟨_,rfl⟩;have Sd:=zh hgo;have azr:ga+1<=go:=by omega
      have KB0:=zh (JB.out.alloc (by have :=JB.out.size;omega) (.cells #[.slice none 0 0,.slice none 0 0] 59));have K10:=zh (aX J1.out (.cells #[.slice none 0 0,.slice none 0 0] 59));have K20:=zh (aX J2.out (.cells #[.slice none 0 0,.slice none 0 0] 59));have KM0:=zh (ah.below JM.out ((zB _ _).alloc (zL _) (.cells #[.slice none 0 0,.slice none 0 0] 59)));have KT0:=zh (ah.below JT.out ((zB _ _).alloc (zL _) (.cells #[.slice none 0 0,.slice none 0 0] 59)));have KG0:=zh (bJ wr (.cells #[.slice none 0 0,.slice none 0 0] 59));rw[<-hgo]at KG0;have hs3:(wr.alloc (.cells #[.slice none 0 0,.slice none 0 0] 59)).heap.size=go+1:=by rw[hgo];simp
      go_wp2_with fail;rw[<-Sd.o];clear hgo x0 x1 xf y0 y1 yf;go_loopw[85](fun i wr=>∃(j:Nat)(cv:Value),j<=h.cells.length/\i= .int .i64 (j:Int)/\Below w.heap.size w wr/\wr.heap[w.heap.size]?=some (.cells #[.slice va h.cells.length cap,.slice vb h.trail.length aR] 59 (0,0))/\wr.heap[w.heap.size+1]?=some (.cells #[.slice none 0 0,.slice none 0 0] 59 (0,0))/\gG wr (w.heap.size+2) m (.slice ma h.cells.length mc)/\dK wr ga (fV m h.cells.length h.cells.length) (.slice (some ⟨ga,0,none⟩) (h.cells.length+1) (h.cells.length+1))/\wr.heap[go]?=some (.cells #[cv,.slice none 0 0] 59 (0,0))/\jh wr ga (jK h.cells m j) cv/\go+1<=wr.heap.size)(fun i _=>h.cells.length - (intOf i).toNat);case atStart=>exact⟨0,_,dn _,rfl,KB0.out,K10.out,K20.out,KM0.out,KT0.out,KG0.out,ah.nil,by omega⟩
      case round=>
       obtain⟨j,cv,hj,rfl,jb,j1,j2,jm,jt,jg,jo,jz⟩:=hrel;have KB:=zh jb;have K1:=zh j1;have K2:=zh j2;have KM:=zh jm;have KT:=zh jt;have KG:=zh jg;have ar5:=aJ j1;have ar6:=aJ j2;have ar7:=aJ jg;obtain⟨ya,yc,rfl,hyl,hym⟩:=ah.val jo;rw[qC]at hyl jo jg KG;have KO:=zh jo;obtain⟨x0,x1,xf⟩:=dO j1;obtain⟨g0,g1,gf⟩:=dO jg;have ar8:=rD m j;by_cases hlt:j<h.cells.length
       ·obtain⟨rfl,bC⟩:=sF.o (by omega);obtain⟨c0,c1,c2,i0,i1,i2⟩:=xO vC.o bC (af.ob jb) hlt;have hok:=HG.o.1 j hlt;obtain⟨c,hc⟩:∃c:Ce,c=h.cells[j]'hlt:=⟨_,rfl⟩;rw[<-hc]at c0 c1 c2 i0 i1 i2 hok;have ar9:=zh (show cellAt h.cells (j:Int)=c by rw[hc];exact jv hlt);have ahu:=zh (show c.Ok from⟨i0,i1,i2⟩);obtain⟨gb,iO,e, -, -, -,hgb, -,oG, -,hcell⟩:=ah.at AX jm (by omega);simp only[dC]at e;obtain⟨rfl, -,rfl⟩:=e;have hjm:j<m.length:=by omega
        have b0:wr.cell? ⟨gb,j,none⟩=some (.bool m[j]):=by simpa using hcell j hjm 0 _ rfl
        have yV:cb<wr.heap.size:=fK wr _ c0;have hlt':(j:Int)<(h.cells.length:Int):=by omega
        have hj0:(0:Int)<=(j:Int):=zN _;have xy:m[j]?=some m[j]:=aT hjm;cases MW:m[j]with
         |false=>
          rw[MW]at b0 xy;have MX:=zh (show jK h.cells m (j+1)=jK h.cells m j by rw[jK,ag (by rw[xy];simp)]);have KM2:=zh (ah.below KM.out ((zB _ _).alloc (zL _) (.cells #[.int .i64 c.kind,.int .i64 c.n,.string c.s] 112)));have KT2:=zh (ah.below KT.out ((zB _ _).alloc (zL _) (.cells #[.int .i64 c.kind,.int .i64 c.n,.string c.s] 112)));have KO2:=zh (ah.below KO.out ((zB _ _).alloc (zL _) (.cells #[.int .i64 c.kind,.int .i64 c.n,.string c.s] 112)));clear jb j1 j2 jm jt jg jo hcell hgb hok xy i0 i1 i2 hc;go_wp2_with fail;go_roundw;case rel=>exact⟨j+1,_,by omega,by go_num,KB.out.alloc KB.out.size _,aX K1.out _,aX K2.out _,KM2.out,KT2.out,aX KG.out _,(by rw[MX.o];exact KO2.out),by simp;omega⟩
          case measure=>first|(simp[intOf];done)|(simp[intOf];omega)
         |true=>
          rw[MW]at b0 xy;have MX:=zh (show jK h.cells m (j+1)=jK h.cells m j++[ow m c]by rw[jK,ai xy,ar9.o]);have dP:=zh (ah.gN Ce.kC (ah.below (ah.below KO.out ((zB _ _).alloc (zL _) (.cells #[.int .i64 (ow m c).kind,.int .i64 (ow m c).n,.string c.s] 112))) (zB _ _)) (fun _=>True));have arY:¬gb=go:=fun e=>ah.eD jm jg (by decide) (hgb.trans (congrArg some e));clear jb j1 j2 jm jo hcell hgb xy i0 i1 i2 hc;by_cases hk:c.kind=0;case' _=>
           have hn:∃n:Nat,c.n=(n:Int)/\n<h.cells.length:=by unfold Ce.fF at hok;obtain⟨n,hn⟩:=dQ (show 0<=c.n by omega);exact⟨n,hn,by omega⟩
           obtain⟨n,hn,hnl⟩:=hn;have IV:ow m c=⟨0,(cnt m n:Int),c.s⟩:=by rw[ow,ai hk,hn,ahead,dG,hk]
           obtain⟨t0, -, -,hot, -,htz⟩:=dK.cell jt (i:=n) (by rw[xB];omega);rw[BJ,ai (by omega)]at t0;have hcn:=rD m n;have hn0:(0:Int)<=(n:Int):=zN _;have hn1:(n:Int)<(h.cells.length:Int)+1:=by omega
           have IW:=zh (show Ce.rep (fun b=>True/\ownB (.slice ya (cnt m j) yc)≠some b) (wr.alloc (.cells #[.int .i64 (ow m c).kind,.int .i64 (ow m c).n,.string c.s] 112)) (ow m c) [.int .i64 (0:Int),.int .i64 (cnt m n:Int),.string c.s]from by rw[IV];exact⟨⟨by unfold aA;simp only;omega,by unfold aA;simp only;omega,ahu.o.2.2⟩,rfl⟩);rw[IV]at dP IW;simp only at dP IW;rw[hk]at c0;rw[hn]at c1;have ahv:=zh IV;clear jt jg hok hk hn hot;go_wp2_with(at_builtin;go_must(refine jf rfl (.tmp 105) (.tmp 107) 56 rfl ga 112 3 32 CG Ce.aj (A:=fun _=>True) (.slice ya (cnt m j) yc) (jK h.cells m j) rfl dP.o (⟨0,(cnt m n:Int),c.s⟩) [.int .i64 (0),.int .i64 ((cnt m n:Int)),.string c.s] (by simp only[bQ];rfl) rfl IW.o ⟨by rw[qC];omega,by simp;omega⟩ ?_);go_must(intro v2 w4 hown2 aB;have hno:(∀b,b<ga->ownB (.slice ya (cnt m j) yc)≠some b):=(fun b hb e=>by have :=(KO.out.lt b e).1;omega);have hka:=((af.alloc (fun b=>ownB (.slice ya (cnt m j) yc)≠some b) _ _).trans (af.alloc _ _ _)).trans (aB.keeps (A:=fun b=>ownB (.slice ya (cnt m j) yc)≠some b) (fun _ h=>h));have iB:=zh (ah.fG hown2);have l6:=aB.size;simp only[bQ]at l6;have L1:=zh (bB K1.out hka (hno _ (by omega)));have L2:=zh (bB K2.out hka (hno _ (by omega)));have LM:=zh (ah.kept KM.out (w':=w4) (fun b hb=>hka.block b (KM.out.lt b hb).2 (fun e=>rU (by decide) KO.out KM.out b e hb)));have LT:=zh (ah.kept KT.out (w':=w4) (fun b hb=>hka.block b (KT.out.lt b hb).2 (fun e=>rU (by decide) KO.out KT.out b e hb)));have LG:=zh (bB KG.out hka (ah.eD KO.out KG.out (by decide)));have LB:=zh (aB.below ((KB.out.alloc (by have :=KB.out.size;omega) _).alloc (by have :=KB.out.size;simp;omega) _) (by simp;omega) (fun b hb=>by have :=(KO.out.lt b hb).1;omega));obtain⟨g0,g1,gf⟩:=dO LG.out;have hgl:=aJ LG.out;obtain⟨QW,QX,hv4, -, -⟩:=ah.val iB.o;rw[bT,qC,jr]at hv4;subst hv4;clear aB hown2 hka))
          rotate_left;case' _=>
           have IV:ow m c=c:=by rw[ow,ag hk]
           have hk':(c.kind==0)=false:=by simpa using hk
           have IW:=zh (show Ce.rep (fun b=>True/\ownB (.slice ya (cnt m j) yc)≠some b) (wr.alloc (.cells #[.int .i64 (ow m c).kind,.int .i64 (ow m c).n,.string c.s] 112)) c [.int .i64 c.kind,.int .i64 c.n,.string c.s]from⟨ahu.o,rfl⟩);rw[IV]at dP IW;have ahv:=zh IV;clear jt jg hok hk;go_wp2_with(at_builtin;go_must(refine jf rfl (.tmp 105) (.tmp 107) 56 rfl ga 112 3 32 CG Ce.aj (A:=fun _=>True) (.slice ya (cnt m j) yc) (jK h.cells m j) rfl dP.o c [.int .i64 c.kind,.int .i64 c.n,.string c.s] (by simp only[bQ];rfl) rfl IW.o ⟨by rw[qC];omega,by simp;omega⟩ ?_);go_must(intro v2 w4 hown2 aB;have hno:(∀b,b<ga->ownB (.slice ya (cnt m j) yc)≠some b):=(fun b hb e=>by have :=(KO.out.lt b e).1;omega);have hka:=((af.alloc (fun b=>ownB (.slice ya (cnt m j) yc)≠some b) _ _).trans (af.alloc _ _ _)).trans (aB.keeps (A:=fun b=>ownB (.slice ya (cnt m j) yc)≠some b) (fun _ h=>h));have iB:=zh (ah.fG hown2);have l6:=aB.size;simp only[bQ]at l6;have L1:=zh (bB K1.out hka (hno _ (by omega)));have L2:=zh (bB K2.out hka (hno _ (by omega)));have LM:=zh (ah.kept KM.out (w':=w4) (fun b hb=>hka.block b (KM.out.lt b hb).2 (fun e=>rU (by decide) KO.out KM.out b e hb)));have LT:=zh (ah.kept KT.out (w':=w4) (fun b hb=>hka.block b (KT.out.lt b hb).2 (fun e=>rU (by decide) KO.out KT.out b e hb)));have LG:=zh (bB KG.out hka (ah.eD KO.out KG.out (by decide)));have LB:=zh (aB.below ((KB.out.alloc (by have :=KB.out.size;omega) _).alloc (by have :=KB.out.size;simp;omega) _) (by simp;omega) (fun b hb=>by have :=(KO.out.lt b hb).1;omega));obtain⟨g0,g1,gf⟩:=dO LG.out;have hgl:=aJ LG.out;obtain⟨QW,QX,hv4, -, -⟩:=ah.val iB.o;rw[bT,qC,jr]at hv4;subst hv4;clear aB hown2 hka))
          rotate_left;all_goals
           have vF:ownB (.slice QW (cnt m j+1) QX)≠some go:=ah.eD iB.o LG.out (by decide);go_roundw;case rel=>
            refine⟨j+1,_,by omega,by go_num,LB.out.setCell (by simp only;omega) _,?_,?_,?_,?_,(bG LG.out 0 _).trans rfl,?_,by simp;omega⟩;·rw[bH _ _ _ _ (by simp only;omega)];exact L1.out
            ·rw[bH _ _ _ _ (by simp only;omega)];exact L2.out
            ·exact ah.kept LM.out (fun b hb=>bH _ _ _ _ (fun e=>ah.eD LM.out LG.out (by decide) (hb.trans (congrArg some e))))
            ·exact ah.kept LT.out (fun b hb=>bH _ _ _ _ (fun e=>ah.eD LT.out LG.out (by decide) (hb.trans (congrArg some e))))
            ·rw[MX.o,ahv.o];exact ah.kept iB.o (fun b hb=>bH _ ⟨go,0,none⟩ _ _ (fun e=>vF (hb.trans (congrArg some e))))
           case measure=>first|(simp[intOf];done)|(simp[intOf];omega)
       ·have eH:j=h.cells.length:=by omega
        subst eH;have YL:=zh (show(bu m h.trail).length=h.trail.length by simp[bu]);have HT0:=zh (dK.fresh wr (h.trail.length+1) (by simp[maxLen];omega));rw[<-aho (bu m h.trail)]at HT0;obtain⟨gk,l9⟩:∃g,g=wr.heap.size:=⟨_,rfl⟩;have yQ:=zh l9;rw[<-l9]at HT0;have azs:go+1<=gk:=by omega
        have LB0:=zh (KB.out.alloc KB.out.size (.cells (Array.replicate (h.trail.length+1) (.int .i64 0)) 3));have L10:=zh (aX K1.out (.cells (Array.replicate (h.trail.length+1) (.int .i64 0)) 3));have L20:=zh (aX K2.out (.cells (Array.replicate (h.trail.length+1) (.int .i64 0)) 3));have LM0:=zh (ah.below KM.out ((zB _ _).alloc (zL _) (.cells (Array.replicate (h.trail.length+1) (.int .i64 0)) 3)));have LT0:=zh (ah.below KT.out ((zB _ _).alloc (zL _) (.cells (Array.replicate (h.trail.length+1) (.int .i64 0)) 3)));have LO0:=zh (ah.below KO.out ((zB _ _).alloc (zL _) (.cells (Array.replicate (h.trail.length+1) (.int .i64 0)) 3)));have LG0:=zh (aX KG.out (.cells (Array.replicate (h.trail.length+1) (.int .i64 0)) 3));have Ai:=zh (fun b(hb:ownB (.slice ya (cnt m h.cells.length) yc)=some b)=>(KO.out.lt b hb).2);have DJ:=zh (fun b(hb:ownB (.slice ma h.cells.length mc)=some b)=>(KM.out.lt b hb).2);rw[<-l9]at Ai DJ;have hs4:(wr.alloc (.cells (Array.replicate (h.trail.length+1) (.int .i64 0)) 3)).heap.size=gk+1:=by rw[l9];simp
        clear jb j1 j2 jm jt jg jo;go_wp2_with fail;rw[<-yQ.o];clear l9 x0 x1 xf g0 g1 gf;go_loopw[119](fun i wr=>∃(j:Nat)(tv:Value),j<=h.trail.length/\i= .int .i64 (j:Int)/\Below w.heap.size w wr/\wr.heap[w.heap.size]?=some (.cells #[.slice va h.cells.length cap,.slice vb h.trail.length aR] 59 (0,0))/\wr.heap[w.heap.size+1]?=some (.cells #[.slice none 0 0,.slice none 0 0] 59 (0,0))/\gG wr (w.heap.size+2) m (.slice ma h.cells.length mc)/\dK wr ga (fV m h.cells.length h.cells.length) (.slice (some ⟨ga,0,none⟩) (h.cells.length+1) (h.cells.length+1))/\dK wr gk (fV (bu m h.trail) h.trail.length j) (.slice (some ⟨gk,0,none⟩) (h.trail.length+1) (h.trail.length+1))/\wr.heap[go]?=some (.cells #[.slice ya (cnt m h.cells.length) yc,tv] 59 (0,0))/\jh wr ga (jK h.cells m h.cells.length) (.slice ya (cnt m h.cells.length) yc)/\dK wr (gk+1) (jU m h.trail j) tv/\gk+1<=wr.heap.size)(fun i _=>h.trail.length - (intOf i).toNat);case atStart=>exact⟨0,_,dn _,rfl,LB0.out,L10.out,L20.out,LM0.out,LT0.out,HT0.o,LG0.out,LO0.out,ah.nil,by omega⟩
        case round=>
         obtain⟨j,tv,hj,rfl,jb,j1,j2,jm,jt,jk,jg,jo,jn,jz⟩:=hrel;have KB:=zh jb;have K1:=zh j1;have K2:=zh j2;have KM:=zh jm;have KT:=zh jt;have KK:=zh jk;have KG:=zh jg;have KO:=zh jo;have ar5:=aJ j1;have ar6:=aJ j2;have ar7:=aJ jg;obtain⟨za,zc,rfl,hzl,Zx⟩:=ah.val jn;rw[uV]at hzl jn jg KG;have KN:=zh jn;obtain⟨x0,x1,xf⟩:=dO j1;obtain⟨g0,g1,gf⟩:=dO jg;have ar8:=rD (bu m h.trail) j;by_cases hlt:j<h.trail.length
         ·obtain⟨rfl,hAt⟩:=Eu.o (by omega);obtain⟨c0,ci⟩:=Cr Sk.o hAt (af.ob jb) hlt;obtain⟨v,hv,hvl,hvk⟩:=HG.o.2.1 j hlt;have wI:v<m.length:=by omega
          have Db:=zh (show(bu m h.trail)[j]?=some m[v]by rw[bu,Aw,aT hlt,hv];simp[aT wI]);rw[hv]at c0;obtain⟨gb,iO,e, -, -, -,hgb, -,oG, -,hcell⟩:=ah.at AX jm (by omega);simp only[dC]at e;obtain⟨rfl, -,rfl⟩:=e;have b0:wr.cell? ⟨gb,v,none⟩=some (.bool m[v]):=by simpa using hcell v wI 0 _ rfl
          have htl:=xB (bu m h.trail) h.trail.length j;obtain⟨t0, -,tf,hot, -, -⟩:=dK.cell jk (i:=j) (by omega);obtain⟨t1, -, -, -, -, -⟩:=dK.cell jk (i:=j+1) (by omega);rw[BJ,ai (zL _)]at t0;obtain⟨a0, -, -,hoa, -,haz⟩:=dK.cell jt (i:=v) (by rw[xB];omega);rw[BJ,ai (by omega)]at a0;have yT:=zh hot;have HVV:=zh hv;have asn:¬gk=gb:=fun e=>rU (by decide) jm jk gb hgb (hot.trans (congrArg some e));have azu:¬gb=gk:=fun e=>asn e.symm;have azv:gb<wr.heap.size:=oG;have hcv:=rD m v;have hlt':(j:Int)<(h.trail.length:Int):=by omega
          have hj0:(0:Int)<=(j:Int):=zN _;have hv0:(0:Int)<=(v:Int):=zN _;have hv1:(v:Int)<(h.cells.length:Int):=by omega
          have hv2:(v:Int)<(h.cells.length:Int)+1:=by omega
          have hc0:(0:Int)<=(cnt (bu m h.trail) j:Int):=zN _;have HW1:=zh (bK KB.out (p:=⟨gk,j+1,none⟩) (by simp only;omega) (.int .i64 (cnt (bu m h.trail) j:Int)));have qE:=zh (show dK (wr.setCell ⟨gk,j+1,none⟩ (.int .i64 (cnt (bu m h.trail) j:Int))) gk ((fV (bu m h.trail) h.trail.length j).set (j+1) (cnt (bu m h.trail) j:Int)) (.slice (some ⟨gk,0,none⟩) (h.trail.length+1) (h.trail.length+1))by have :=ah.set (y:=(cnt (bu m h.trail) j:Int)) (u:= .int .i64 (cnt (bu m h.trail) j:Int)) dY KK.out yT.o (i:=j+1) (j:=0) (by omega) (by omega) rfl (by unfold aA;omega);simpa using this);have hkp:∀b,b≠gk->(wr.setCell ⟨gk,j+1,none⟩ (.int .i64 (cnt (bu m h.trail) j:Int))).heap[b]?=wr.heap[b]?:=fun b hb=>bH _ _ _ _ hb;have M1:=zh ((hkp _ (by omega)).trans j1);have M2:=zh ((hkp _ (by omega)).trans j2);have MG:=zh ((hkp _ (by omega)).trans jg);have MM:=zh (ah.kept KM.out (w':=wr.setCell ⟨gk,j+1,none⟩ (.int .i64 (cnt (bu m h.trail) j:Int))) (fun b hb=>hkp b (by have :=DJ.o b hb;omega)));have MT:=zh (ah.kept KT.out (w':=wr.setCell ⟨gk,j+1,none⟩ (.int .i64 (cnt (bu m h.trail) j:Int))) (fun b hb=>hkp b (fun e=>by have :=zI (hoa.symm.trans hb);omega)));have MO:=zh (ah.kept KO.out (w':=wr.setCell ⟨gk,j+1,none⟩ (.int .i64 (cnt (bu m h.trail) j:Int))) (fun b hb=>hkp b (by have :=Ai.o b hb;omega)));have MN:=zh (ah.kept KN.out (w':=wr.setCell ⟨gk,j+1,none⟩ (.int .i64 (cnt (bu m h.trail) j:Int))) (fun b hb=>hkp b (by have :=(KN.out.lt b hb).1;omega)));have ji:=zh (ahp (bu m h.trail) h.trail.length j hlt);have Ll:=zh (show((h.trail[j]?).getD 0)=(v:Int)by rw[aT hlt];exact hv);have hws:(wr.setCell ⟨gk,j+1,none⟩ (.int .i64 (cnt (bu m h.trail) j:Int))).heap.size=wr.heap.size:=by simp
          cases hmv:m[v]with
           |false=>
            rw[hmv]at b0 Db;have BK:=zh (show cnt (bu m h.trail) (j+1)=cnt (bu m h.trail) j by rw[cnt,ag (by rw[Db.o];simp)]);have DK:=zh (show jU m h.trail (j+1)=jU m h.trail j by rw[jU,ag (by rw[Db.o];simp)]);clear jb j1 j2 jm jt jk jg jo jn hcell hgb hot hoa hkp hv;go_wp2_with fail;go_roundw;case rel=>exact⟨j+1,_,by omega,by go_num,HW1.o,M1.out,M2.out,MM.out,MT.out,(by rw[ji.o,BK.o];exact qE.o),MG.out,MO.out,(by rw[DK.o];exact MN.out),by omega⟩
            case measure=>first|(simp[intOf];done)|(simp[intOf];omega)
           |true=>
            rw[hmv]at b0 Db;have BK:=zh (show((cnt (bu m h.trail) (j+1):Nat):Int)=(cnt (bu m h.trail) j:Int)+1 by rw[cnt,ai Db.o];simp);have DK:=zh (show jU m h.trail (j+1)=jU m h.trail j++[(cnt m v:Int)]by rw[jU,ai Db.o,Ll.o,ahead,dG]);clear jb j1 j2 jm jt jk jg jo jn hcell hgb hot hkp hv;go_wp2_with fail;generalize hWS:wr.setCell ⟨gk,j+1,none⟩ (.int .i64 (cnt (bu m h.trail) j:Int))=WS at HW1 qE M1 M2 MG MM MT MO MN hws ⊢;obtain⟨a9, -, -, -, -, -⟩:=dK.cell MT.out (i:=v) (by rw[xB];omega);rw[BJ,ai (by omega)]at a9;obtain⟨u0,u1,uf⟩:=dO MG.out;have hW1:WS.drew.cell? ⟨go,1,none⟩=some (.slice za (cnt (bu m h.trail) j) zc):=(af.drew (fun _=>True) WS).cell trivial u1;have hW2:WS.drew.cell? ⟨ga,v,none⟩=some (.int .i64 (cnt m v:Int)):=(af.drew (fun _=>True) WS).cell trivial a9;have dP:=zh (ah.gN dY (ah.below MN.out (zB _ _).drew) (fun _=>True));have azw:gk+1<=WS.heap.size:=by omega
            clear hws;refine iG (F:=fun k w'=>(k=1\/k=5)->w'.cell? ⟨go,1,none⟩=some (.slice za (cnt (bu m h.trail) j) zc)/\w'.cell? ⟨ga,v,none⟩=some (.int .i64 (cnt m v:Int))) (by kernel_rfl) ?_;refine aD (i:=0) (v:=?_) rfl (Or.inl ⟨by rfl,?_⟩) (fun _=>⟨hW1,hW2⟩) ?_;rotate_left;·(intro w' hw;clear hw;go_simp<;>with_reducible rfl)
            simp only[zP];refine aD (i:=1) (v:=?_) rfl (Or.inl ⟨by rfl,?_⟩) (fun _=>⟨hW1,hW2⟩) ?_;rotate_left;·(intro w' hw;obtain⟨q0,q1⟩:=hw (by omega);go_simp<;>with_reducible rfl)
            simp only[zP];refine aD (i:=2) (v:=?_) rfl (Or.inl ⟨by rfl,?_⟩) (fun _=>⟨hW1,hW2⟩) ?_;rotate_left;·(intro w' hw;clear hw;go_simp<;>with_reducible rfl)
            simp only[zP];refine aD (i:=3) (v:=?_) rfl (Or.inl ⟨by rfl,?_⟩) (fun _=>⟨hW1,hW2⟩) ?_;rotate_left;·(intro w' hw;clear hw;go_simp<;>with_reducible rfl)
            simp only[zP];refine aD (i:=4) (v:=?_) rfl (Or.inl ⟨by rfl,?_⟩) (fun _=>⟨hW1,hW2⟩) ?_;rotate_left;·(intro w' hw;clear hw;go_simp<;>with_reducible rfl)
            simp only[zP];refine aD (i:=5) (v:=?_) rfl (Or.inl ⟨by rfl,?_⟩) (fun _=>⟨hW1,hW2⟩) ?_;rotate_left;·(intro w' hw;obtain⟨q0,q1⟩:=hw (by omega);go_simp<;>with_reducible rfl)
            simp only[zP];refine aM (i:=6) (by kernel_rfl) (aF rfl (by rfl) ?_);go_simp;have hF1:(WS.drew.alloc (.cells #[(.int .i64 (cnt m v:Int))] 3)).cell? ⟨go,1,none⟩=some (.slice za (cnt (bu m h.trail) j) zc)/\(WS.drew.alloc (.cells #[(.int .i64 (cnt m v:Int))] 3)).cell? ⟨ga,v,none⟩=some (.int .i64 (cnt m v:Int)):=⟨(af.alloc (fun _=>True) WS.drew _).cell trivial hW1,(af.alloc (fun _=>True) WS.drew _).cell trivial hW2⟩;refine⟨fun _ _ _ _=>hF1,?_⟩;refine aM (i:=7) (by kernel_rfl) (aF rfl (by rfl) ?_);refine oh (.tmp 137) (.tmp 142) 57 rfl (gk+1) 3 1 8 jP aW (.slice za (cnt (bu m h.trail) j) zc) (jU m h.trail j) rfl dP.o (cnt m v:Int) [(.int .i64 (cnt m v:Int))] rfl rfl ⟨by unfold aA;omega,rfl⟩ ⟨by rw[uV];omega,by first|omega|(simp only[eZ];omega)|(show gk+1<=WS.heap.size;omega)⟩ ?_;intro v2 w4 hown2 aB;have hno:∀b,b<gk+1->ownB (.slice za (cnt (bu m h.trail) j) zc)≠some b:=fun b hb e=>by have :=(MN.out.lt b e).1;omega
            have hka:=((af.drew (fun b=>ownB (.slice za (cnt (bu m h.trail) j) zc)≠some b) WS).trans (af.alloc _ _ _)).trans (aB.keeps (A:=fun b=>ownB (.slice za (cnt (bu m h.trail) j) zc)≠some b) (fun _ h=>h));have iB:=zh (ah.fG hown2);have l6:=aB.size;simp only[bQ,eZ]at l6;have N1:=zh (bB M1.out hka (hno _ (by omega)));have N2:=zh (bB M2.out hka (hno _ (by omega)));have NG:=zh (bB MG.out hka (hno _ (by omega)));have NM:=zh (ah.kept MM.out (w':=w4) (fun b hb=>hka.block b (MM.out.lt b hb).2 (hno _ (by have :=DJ.o b hb;omega))));have NT:=zh (ah.kept MT.out (w':=w4) (fun b hb=>hka.block b (MT.out.lt b hb).2 (hno _ (by have :=zI (hoa.symm.trans hb);omega))));have NK:=zh (ah.kept qE.o (w':=w4) (fun b hb=>hka.block b (qE.o.lt b hb).2 (hno _ (by have :=zI (yT.o.symm.trans hb);omega))));have NO:=zh (ah.kept MO.out (w':=w4) (fun b hb=>hka.block b (MO.out.lt b hb).2 (hno _ (by have :=Ai.o b hb;omega))));have NB:=zh (aB.below ((HW1.o.drew).alloc (by have :=HW1.o.size;simp only[eZ];omega) _) (by simp;omega) (fun b hb=>by have :=(MN.out.lt b hb).1;omega));have hF2:w4.cell? ⟨go,1,none⟩=some (.slice za (cnt (bu m h.trail) j) zc)/\w4.cell? ⟨ga,v,none⟩=some (.int .i64 (cnt m v:Int)):=⟨(aB.keeps (A:=fun b=>ownB (.slice za (cnt (bu m h.trail) j) zc)≠some b) (fun _ h=>h)).cell (hno _ (by omega)) hF1.1,(aB.keeps (A:=fun b=>ownB (.slice za (cnt (bu m h.trail) j) zc)≠some b) (fun _ h=>h)).cell (hno _ (by omega)) hF1.2⟩;obtain⟨aY,aZ,hv2, -, -⟩:=ah.val iB.o;rw[bT,uV,jr]at hv2;subst hv2;obtain⟨y0',y1',yf'⟩:=dO NG.out;have ahw:=aJ NG.out;obtain⟨k0, -,kf, -, -,hkz⟩:=dK.cell NK.out (i:=j+1) (by rw[xL];omega);rw[Ee,ai rfl]at k0;refine⟨fun _ _ _ _=>hF2,?_⟩;clear hown2 hka aB u0 u1 uf;simp only[zP];refine aD (i:=8) (v:=?_) rfl (Or.inl ⟨by rfl,?_⟩) (fun h=>by omega) ?_;rotate_left;·(intro w' hw;clear hw;go_simp<;>with_reducible rfl)
            simp only[zP];refine aM (i:=9) (by kernel_rfl) (aF rfl (by rfl) ?_);go_simp;refine⟨fun k0 hk0 _ h12=>?_,fO (by kernel_rfl) ?_ _⟩
            ·rcases h12 with rfl|rfl;·exact absurd (show waits _ 9 1=true by kernel_rfl) (by rw[hk0];decide)
             ·exact absurd (show waits _ 9 5=true by kernel_rfl) (by rw[hk0];decide)
            have hgg:¬go=gk:=by omega
            have azy:¬gk=go:=by omega
            have NK2:=zh (ah.kept NK.out (w':=w4.setCell ⟨go,1,none⟩ (.slice aY (cnt (bu m h.trail) j+1) aZ)) (fun b hb=>bH _ ⟨go,1,none⟩ _ _ (fun e=>by have :=zI (yT.o.symm.trans hb);simp only at e;omega)));have NK3:=zh (show dK ((w4.setCell ⟨go,1,none⟩ (.slice aY (cnt (bu m h.trail) j+1) aZ)).setCell ⟨gk,j+1,none⟩ (.int .i64 ((cnt (bu m h.trail) j:Int)+1))) gk ((fV (bu m h.trail) h.trail.length j).set (j+1) ((cnt (bu m h.trail) j:Int)+1)) (.slice (some ⟨gk,0,none⟩) (h.trail.length+1) (h.trail.length+1))by have :=ah.set (y:=(cnt (bu m h.trail) j:Int)+1) (u:= .int .i64 ((cnt (bu m h.trail) j:Int)+1)) dY NK2.out yT.o (i:=j+1) (j:=0) (by rw[xL];omega) (by omega) rfl (by unfold aA;omega);rw[acw]at this;simpa using this);have hk2:∀b,b≠go->b≠gk->((w4.setCell ⟨go,1,none⟩ (.slice aY (cnt (bu m h.trail) j+1) aZ)).setCell ⟨gk,j+1,none⟩ (.int .i64 ((cnt (bu m h.trail) j:Int)+1))).heap[b]?=w4.heap[b]?:=fun b h1 h2=>by rw[bH _ _ _ _ h2,bH _ _ _ _ h1]
            have NGF:=zh (show((w4.setCell ⟨go,1,none⟩ (.slice aY (cnt (bu m h.trail) j+1) aZ)).setCell ⟨gk,j+1,none⟩ (.int .i64 ((cnt (bu m h.trail) j:Int)+1))).heap[go]?=some (.cells #[.slice ya (cnt m h.cells.length) yc,.slice aY (cnt (bu m h.trail) j+1) aZ] 59 (0,0))from(bH _ ⟨gk,j+1,none⟩ _ _ hgg).trans ((bG NG.out 1 _).trans rfl));go_wp2_with fail;go_roundw;case rel=>
             refine⟨j+1,_,by omega,by go_num,(NB.out.setCell (by simp only;omega) _).setCell (by simp only;omega) _,?_,?_,?_,?_,(by rw[ji.o,BK.o];exact NK3.out),NGF.out,?_,?_,by simp;omega⟩;·exact(hk2 _ (by omega) (by omega)).trans N1.out
             ·exact(hk2 _ (by omega) (by omega)).trans N2.out
             ·exact ah.kept NM.out (fun b hb=>hk2 b (fun e=>ah.eD NM.out NG.out (by decide) (hb.trans (congrArg some e))) (by have :=DJ.o b hb;omega))
             ·exact ah.kept NT.out (fun b hb=>by have :=zI (hoa.symm.trans hb);exact hk2 b (by omega) (by omega))
             ·exact ah.kept NO.out (fun b hb=>hk2 b (fun e=>ah.eD NO.out NG.out (by decide) (hb.trans (congrArg some e))) (by have :=Ai.o b hb;omega))
             ·rw[DK.o];exact ah.kept iB.o (fun b hb=>by have :=(iB.o.lt b hb).1;exact hk2 b (by omega) (by omega))
            case measure=>first|(simp[intOf];done)|(simp[intOf];omega)
         ·have eH:j=h.trail.length:=by omega
          subst eH;obtain⟨x0,x1,xf⟩:=dO j1;have NV1:=zh (au.keeps aW (au.mono (A':=fun b=>b≠w.heap.size+1) aW (by omega) Dx.o (fun b hb _=>by omega)) (af.ob KB.out));have NV2:=zh (au.keeps aW (au.mono (A':=fun b=>b≠w.heap.size+1) aW (by omega) zZ.o (fun b hb _=>by omega)) (af.ob KB.out));have NV3:=zh (au.keeps aW (au.mono (A':=fun b=>b≠w.heap.size+1) aW (by omega) Ag.o (fun b hb _=>by omega)) (af.ob KB.out));have NT1:=zh (ah.sl (A:=fun b=>b≠w.heap.size+1) dY zC KT.out (by rw[xB];omega) (fun b hb=>by have :=(KT.out.lt b hb).1;omega));have NK1:=zh (ah.sl (A:=fun b=>b≠w.heap.size+1) dY zC KK.out (by rw[xB];omega) (fun b hb=>by have :=(KK.out.lt b hb).1;omega));have dV:Hd (∀w',(Ch (fun b=>b=w.heap.size+1) wr w'/\∃z0 z1,w'.heap[w.heap.size+1]?=some (.cells #[z0,z1] 59 (0,0)))->w'.cell? ⟨go,0,none⟩=some (.slice ya (cnt m h.cells.length) yc)/\w'.cell? ⟨go,1,none⟩=some (.slice za (cnt (bu m h.trail) h.trail.length) zc)):=zh fun w' hi=>by obtain⟨z0,z1, -⟩:=dO ((hi.1.block go (aJ KG.out) (by omega)).trans KG.out);exact⟨z0,z1⟩
          have hlt':¬((h.trail.length:Int)<(h.trail.length:Int)):=by omega
          clear jb j1 j2 jm jt jk jg jo jn x0 x1 xf g0 g1 gf hlt;go_wp2_with fail;refine adn (Inv:=fun w'=>Ch (fun b=>b=w.heap.size+1) wr w'/\∃z0 z1,w'.heap[w.heap.size+1]?=some (.cells #[z0,z1] 59 (0,0))) (Po:=posts [aQ (.agg #[.slice ya (cnt m h.cells.length) yc,.slice za (cnt (bu m h.trail) h.trail.length) zc]),aQ (.slice (some ⟨ga,0,none⟩) (h.cells.length+1) (h.cells.length+1)),aQ (.slice r1a roots.length r1c),rR wr.heap.size (roots.map (jR (fV m h.cells.length h.cells.length))),aQ (.slice (some ⟨ga,0,none⟩) (h.cells.length+1) (h.cells.length+1)),aQ (.slice r2a dZ.length r2c),rR wr.heap.size (dZ.map (jR (fV m h.cells.length h.cells.length))),aQ (.slice (some ⟨gk,0,none⟩) (h.trail.length+1) (h.trail.length+1)),aQ (.slice r3a ed.length r3c),rR wr.heap.size (ed.map (jR (fV (bu m h.trail) h.trail.length h.trail.length))),(fun _ w2=>w2.heap[w.heap.size+1]?=some (.cells #[.slice ya (cnt m h.cells.length) yc,.slice za (cnt (bu m h.trail) h.trail.length) zc] 59 (0,0))),rR wr.heap.size (roots.map (jR (fV m h.cells.length h.cells.length))),rR wr.heap.size (dZ.map (jR (fV m h.cells.length h.cells.length))),rR wr.heap.size (ed.map (jR (fV (bu m h.trail) h.trail.length h.trail.length))),aQ (.int .i64 0)]) (Rl:=fun j w1 w2=>(j=10/\Ch (fun b=>b=w.heap.size+1) w1 w2/\∃z0 z1,w2.heap[w.heap.size+1]?=some (.cells #[z0,z1] 59 (0,0)))\/(j≠10/\Below w1.heap.size w1 w2)) (by kernel_rfl) (by kernel_rfl) (by kernel_rfl) ⟨(Ch.refl _ _).drew,_,_,K2.out⟩ ?_ ?_ ?_ ?_
          ·intro i q u w1 w2 hij hwt hp hr;rcases hr with⟨rfl,hc, -⟩|⟨-,hb⟩;·match i,hij,hp with|0,_,hp=>exact hp|1,_,hp=>exact hp|2,_,hp=>exact hp|3,_,hp=>exact ah.kept hp (fun b hb=>hc.block b (ah.lt hp b hb).2 (fun e=>by have :=(ah.lt hp b hb).1;omega))|4,_,hp=>exact hp|5,_,hp=>exact hp|6,_,hp=>exact ah.kept hp (fun b hb=>hc.block b (ah.lt hp b hb).2 (fun e=>by have :=(ah.lt hp b hb).1;omega))|7,_,hp=>exact hp|8,_,hp=>exact hp|9,_,hp=>exact ah.kept hp (fun b hb=>hc.block b (ah.lt hp b hb).2 (fun e=>by have :=(ah.lt hp b hb).1;omega))|10,hij,_=>exact absurd rfl hij|11,_,hp=>exact ah.kept hp (fun b hb=>hc.block b (ah.lt hp b hb).2 (fun e=>by have :=(ah.lt hp b hb).1;omega))|12,_,hp=>exact ah.kept hp (fun b hb=>hc.block b (ah.lt hp b hb).2 (fun e=>by have :=(ah.lt hp b hb).1;omega))|13,_,hp=>exact ah.kept hp (fun b hb=>hc.block b (ah.lt hp b hb).2 (fun e=>by have :=(ah.lt hp b hb).1;omega))|14,_,hp=>exact hp|i+15,_,hp=>exact trivial
           ·refine wK (fun R hR=>?_) i u w1 w2 hp hb;simp only[gK,uQ,pz]at hR;rcases hR with rfl|rfl|rfl|rfl|rfl|rfl|rfl|rfl|rfl|rfl|rfl|rfl|rfl|rfl|rfl<;>first|exact wJ _|exact A7 _ _|exact fun v w w' h hb=>aL h hb
          ·intro j w1 w2 hi hr;rcases hr with⟨rfl,hc,hz⟩|⟨-,hb⟩;·exact⟨hi.1.trans hc (fun _ h=> .inl h),hz⟩
           ·obtain⟨hi1,z0,z1,hz⟩:=hi;exact⟨hi1.tb hb,z0,z1,aL hz hb⟩
          ·intro i o ho f ac ww hinv hpo hdst hold;match i,ho with|0,ho=>obtain rfl:_=o:=zI ho;have t20:=hold 20 (by kernel_rfl);refine Or.inl ⟨aK rfl,?_⟩;clear hdst hpo hold ho;obtain⟨q0,q1⟩:=dV.o ww hinv;unfold aI;go_simp;exact⟨rfl,zB _ _⟩|1,ho=>obtain rfl:_=o:=zI ho;have t17:=hold 17 (by kernel_rfl);refine Or.inl ⟨aK rfl,?_⟩;clear hdst hpo hold ho hinv;unfold aI;go_simp;exact⟨rfl,zB _ _⟩|2,ho=>obtain rfl:_=o:=zI ho;have t1:=hold 1 (by kernel_rfl);refine Or.inl ⟨aK rfl,?_⟩;clear hdst hpo hold ho hinv;unfold aI;go_simp;exact⟨rfl,zB _ _⟩|3,ho=>obtain rfl:_=o:=zI ho;have t154:=hdst 1 154 (by kernel_rfl) (by kernel_rfl);have p1:=hpo 1 (by kernel_rfl);have t155:=hdst 2 155 (by kernel_rfl) (by kernel_rfl);have p2:=hpo 2 (by kernel_rfl);refine Or.inl ⟨aK rfl,?_⟩;clear hdst hpo hold ho;rw[show f 1=_ from p1]at t154;rw[show f 2=_ from p2]at t155;unfold aI;go_simp;have hkp:=hinv.1.keeps (A:=fun b=>b≠w.heap.size+1) (fun b _ hb e=>hb e);refine(Xh (fV m h.cells.length h.cells.length) roots (by rw[xB];omega) (fun b=>b≠w.heap.size+1) ww _ _ (au.keeps aW NT1.out hkp) (au.keeps aW NV1.out hkp)).mono ?_;rintro e w1⟨r,rfl,hb,hown⟩;exact⟨_,rfl,ah.rQ hown (fun k hk=>by have :=(hown.lt k hk).1;have :=hinv.1.size;omega),hb⟩|4,ho=>obtain rfl:_=o:=zI ho;have t17:=hold 17 (by kernel_rfl);refine Or.inl ⟨aK rfl,?_⟩;clear hdst hpo hold ho hinv;unfold aI;go_simp;exact⟨rfl,zB _ _⟩|5,ho=>obtain rfl:_=o:=zI ho;have t2:=hold 2 (by kernel_rfl);refine Or.inl ⟨aK rfl,?_⟩;clear hdst hpo hold ho hinv;unfold aI;go_simp;exact⟨rfl,zB _ _⟩|6,ho=>obtain rfl:_=o:=zI ho;have t157:=hdst 4 157 (by kernel_rfl) (by kernel_rfl);have p4:=hpo 4 (by kernel_rfl);have t158:=hdst 5 158 (by kernel_rfl) (by kernel_rfl);have p5:=hpo 5 (by kernel_rfl);refine Or.inl ⟨aK rfl,?_⟩;clear hdst hpo hold ho;rw[show f 4=_ from p4]at t157;rw[show f 5=_ from p5]at t158;unfold aI;go_simp;have hkp:=hinv.1.keeps (A:=fun b=>b≠w.heap.size+1) (fun b _ hb e=>hb e);refine(Xh (fV m h.cells.length h.cells.length) dZ (by rw[xB];omega) (fun b=>b≠w.heap.size+1) ww _ _ (au.keeps aW NT1.out hkp) (au.keeps aW NV2.out hkp)).mono ?_;rintro e w1⟨r,rfl,hb,hown⟩;exact⟨_,rfl,ah.rQ hown (fun k hk=>by have :=(hown.lt k hk).1;have :=hinv.1.size;omega),hb⟩|7,ho=>obtain rfl:_=o:=zI ho;have t23:=hold 23 (by kernel_rfl);refine Or.inl ⟨aK rfl,?_⟩;clear hdst hpo hold ho hinv;unfold aI;go_simp;exact⟨rfl,zB _ _⟩|8,ho=>obtain rfl:_=o:=zI ho;have t3:=hold 3 (by kernel_rfl);refine Or.inl ⟨aK rfl,?_⟩;clear hdst hpo hold ho hinv;unfold aI;go_simp;exact⟨rfl,zB _ _⟩|9,ho=>obtain rfl:_=o:=zI ho;have t160:=hdst 7 160 (by kernel_rfl) (by kernel_rfl);have p7:=hpo 7 (by kernel_rfl);have t161:=hdst 8 161 (by kernel_rfl) (by kernel_rfl);have p8:=hpo 8 (by kernel_rfl);refine Or.inl ⟨aK rfl,?_⟩;clear hdst hpo hold ho;rw[show f 7=_ from p7]at t160;rw[show f 8=_ from p8]at t161;unfold aI;go_simp;have hkp:=hinv.1.keeps (A:=fun b=>b≠w.heap.size+1) (fun b _ hb e=>hb e);refine(Xh (fV (bu m h.trail) h.trail.length h.trail.length) ed (by rw[xB];omega) (fun b=>b≠w.heap.size+1) ww _ _ (au.keeps aW NK1.out hkp) (au.keeps aW NV3.out hkp)).mono ?_;rintro e w1⟨r,rfl,hb,hown⟩;exact⟨_,rfl,ah.rQ hown (fun k hk=>by have :=(hown.lt k hk).1;have :=hinv.1.size;omega),hb⟩|10,ho=>obtain rfl:_=o:=zI ho;have t153:=hdst 0 153 (by kernel_rfl) (by kernel_rfl);have p0:=hpo 0 (by kernel_rfl);have t8:=hold 8 (by kernel_rfl);refine Or.inl ⟨aK rfl,?_⟩;clear hdst hpo hold ho;rw[show f 0=_ from p0]at t153;obtain⟨hch,z0,z1,hz⟩:=hinv;obtain⟨y0,y1,yf⟩:=dO hz;unfold aI;go_simp;exact⟨(bG (bG hz 0 _) 1 _).trans rfl,(CK _ _ _ _).Qn _ _,_,_,(bG (bG hz 0 _) 1 _).trans rfl⟩|11,ho=>obtain rfl:_=o:=zI ho;have t156:=hdst 3 156 (by kernel_rfl) (by kernel_rfl);have p3:(rR wr.heap.size (roots.map (jR (fV m h.cells.length h.cells.length)))) (f 3) ww:=hpo 3 (by kernel_rfl);refine Or.inl ⟨aK rfl,?_⟩;clear hdst hpo hold ho hinv;unfold aI;go_simp;exact⟨p3,zB _ _⟩|12,ho=>obtain rfl:_=o:=zI ho;have t159:=hdst 6 159 (by kernel_rfl) (by kernel_rfl);have p6:(rR wr.heap.size (dZ.map (jR (fV m h.cells.length h.cells.length)))) (f 6) ww:=hpo 6 (by kernel_rfl);refine Or.inl ⟨aK rfl,?_⟩;clear hdst hpo hold ho hinv;unfold aI;go_simp;exact⟨p6,zB _ _⟩|13,ho=>obtain rfl:_=o:=zI ho;have t162:=hdst 9 162 (by kernel_rfl) (by kernel_rfl);have p9:(rR wr.heap.size (ed.map (jR (fV (bu m h.trail) h.trail.length h.trail.length)))) (f 9) ww:=hpo 9 (by kernel_rfl);refine Or.inl ⟨aK rfl,?_⟩;clear hdst hpo hold ho hinv;unfold aI;go_simp;exact⟨p9,zB _ _⟩|14,ho=>obtain rfl:_=o:=zI ho;refine Or.inl ⟨aK rfl,?_⟩;clear hdst hpo hold ho hinv;unfold aI;go_simp;exact⟨rfl,zB _ _⟩|i+15,ho=>simp at ho
          ·intro f ww hinv hpo;have pR:=hpo 10 (by decide);have su:(rR wr.heap.size (roots.map (jR (fV m h.cells.length h.cells.length)))) (f 11) ww:=hpo 11 (by decide);have zK:(rR wr.heap.size (dZ.map (jR (fV m h.cells.length h.cells.length)))) (f 12) ww:=hpo 12 (by decide);have EP:(rR wr.heap.size (ed.map (jR (fV (bu m h.trail) h.trail.length h.trail.length)))) (f 13) ww:=hpo 13 (by decide);have p14:(aQ (.int .i64 0)) (f 14) ww:=hpo 14 (by decide);have P10:Hd (ww.heap[w.heap.size+1]?=some (.cells #[.slice ya (cnt m h.cells.length) yc,.slice za (cnt (bu m h.trail) h.trail.length) zc] 59 (0,0))):=zh pR;have P11:=zh su;have P12:=zh zK;have P13:=zh EP;have bU:=zh hinv.1;simp only[gY,xI,wC,xK];rw[show f 14=_ from p14];obtain⟨y0,y1,yf⟩:=dO P10.out;clear hinv hpo pR su zK EP p14;go_wp2_with fail;refine dD (v:= .tuple #[.agg #[.slice ya (cnt m h.cells.length) yc,.slice za (cnt (bu m h.trail) h.trail.length) zc],f 11,f 12,f 13,.int .i64 0]) (by simp[results,Tryz.results67,go_sem,hcs,y0,y1]) rfl ?_;have EE:Below w.heap.size w ww:=(Ch.trans (Ch.of_below (M:=fun b=>b=w.heap.size+1) KB.out) bU.o (fun _ h=> .inl h)).below (fun k hk e=>by omega);have hkF:=bU.o.keeps (A:=fun b=>b≠w.heap.size+1) (fun b _ hb e=>hb e);have e1:∀l:List Int,l.map (jR (fV m h.cells.length h.cells.length))=l.map (ahead m):=fun l=>ab0 (fun x _=>ahq m _ rW x);have e2:∀l:List Int,l.map (jR (fV (bu m h.trail) h.trail.length h.trail.length))=l.map (ahead (bu m h.trail)):=fun l=>ab0 (fun x _=>ahq (bu m h.trail) _ YL.o x);have q11:=P11.out;have q12:=P12.out;have q13:=P13.out;rw[e1]at q11 q12;rw[e2]at q13;have hsz:=bU.o.size;rw[mQ,ag (dJ HG.o),ag (dJ zx.o),<-HM.o];have n1:∀(l:List Int)(v:Value)(f:Int->Int)(n:Nat),dK ww wr.heap.size (l.map f) v->l.length<=1048576->gD (fun b=>A b\/New w b) ww (l.map f) v:=fun l v f n ho hl=>ah.sl dY zC ho (by rw[ny];exact hl) (fun b hb=> .inr (by have :=(ho.lt b hb).1;have :=KB.out.size;unfold New;omega));refine Pure.mk EE ⟨_,_,_,_,rfl,⟨_,_,rfl,?_,?_⟩,n1 _ _ _ 0 q11 (by omega),n1 _ _ _ 0 q12 HL2.o,n1 _ _ _ 0 q13 WK.o⟩;·show rC _ ww (jK h.cells (marks h.cells roots) h.cells.length) _;rw[<-HM.o];have hcl:=rD m h.cells.length;exact ah.sl Ce.kC Ce.AV (ah.kept KO.out (fun b hb=>bU.o.block b (KO.out.lt b hb).2 (fun e=>by have :=(KO.out.lt b hb).1;omega))) (by rw[qC];omega) (fun b hb=> .inr (by have :=(KO.out.lt b hb).1;unfold New;omega))
           ·show gD _ ww (jU (marks h.cells roots) h.trail h.trail.length) _;rw[<-HM.o];have hcl:=rD (bu m h.trail) h.trail.length;exact ah.sl dY zC (ah.kept KN.out (fun b hb=>bU.o.block b (KN.out.lt b hb).2 (fun e=>by have :=(KN.out.lt b hb).1;omega))) (by rw[uV];omega) (fun b hb=> .inr (by have :=(KN.out.lt b hb).1;unfold New;omega))
structure azA (l : List Ce) (roots : List Int) (m : List Bool) : Prop where
  len : m.length = l.length
  sound : ∀ i, m[i]? = some true → Reach l roots i
section
variable {l : List Ce} {roots : List Int} {m : List Bool}
end
theorem gG.mark{w:World}{B g n cap:Nat}{m:List Bool}(h:gG w B m (.slice (some ⟨g,0,none⟩) n cap)){k:Nat}(hk:k<m.length):gG (w.setCell ⟨g,k,none⟩ (.bool true)) B (m.set k true) (.slice (some ⟨g,0,none⟩) n cap)/\(∀o,w.frozen? ⟨g,o,none⟩=false)/\ownB (.slice (some ⟨g,0,none⟩) n cap)=some g/\B<=g/\g<w.heap.size:=by obtain⟨g',cap',e,h0,h1,h2,h3,h4,h5,h6,hc⟩:=ah.at AX h (by omega);simp only[dC,dm,uR,lF]at e;obtain⟨rfl,rfl,rfl⟩:=e;refine⟨?_,h4,h3,h6,h5⟩;have :=ah.set (y:=true) (u:= .bool true) AX h h3 (i:=k) (j:=0) hk (by omega) rfl trivial;simpa using this
