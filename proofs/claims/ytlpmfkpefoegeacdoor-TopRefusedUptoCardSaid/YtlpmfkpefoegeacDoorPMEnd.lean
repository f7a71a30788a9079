import Derived.Test.YtlpmfkpefoegeacDoorPMCall
import Derived.Test.YtlpmfkpefoegeacDoorPProve2
namespace Go.Proofs.YtlpmfkpefoegeacDoor
set_option maxRecDepth 100000
set_option maxHeartbeats 16000000
set_option linter.all false
theorem Zma{h:Hp}(hg:h.Good)(tr:Nat):Hp.Good ⟨ZbG h.cells (h.trail.drop tr),h.trail.take tr⟩:=by
 obtain⟨g1,g2,g3,g4⟩:=hg;refine⟨fun i hi=>?_,fun j hj=>?_,by rw[Zbj];exact g3,by simp only[List.length_take];omega⟩
 ·have hi':i<h.cells.length:=by rw[Zbj]at hi;exact hi
  have e:Ce.OkAt (ZbG h.cells (h.trail.drop tr)).length=Ce.OkAt h.cells.length:=by rw[Zbj]
  show Ce.OkAt (ZbG h.cells (h.trail.drop tr)).length i _;rw[e,Zdj];have h1:=g1 i hi';split
  ·rename_i hm;obtain⟨j,hj,e⟩:=List.mem_iff_getElem.1 (List.mem_of_mem_drop hm);obtain⟨v,e2,hv,hk⟩:=g2 j hj;have hvi:(v:Int)=i:=e2.symm.trans e;have :v=i:=by omega
   subst this;left;rcases h1 with⟨a1,a2,a3,a4⟩|⟨a1,_⟩|⟨a1,_⟩|⟨a1,_⟩;·exact⟨a1,by simp only;omega,by simp only;omega,a4⟩
   all_goals(rw[hk]at a1;simp at a1)
  ·exact h1
 ·simp only[List.length_take]at hj;obtain⟨v,e,hv,hk⟩:=g2 j (by omega);refine⟨v,by simp only[List.getElem_take];exact e,by rw[Zbj];exact hv,?_⟩;simp only;rw[Zdj];split<;>exact hk
theorem Zkc{h:Hp}(hg:h.Good){top tr:Nat}(htop:top<=h.cells.length)(htr:tr<=h.trail.length)(ho:(ZcG h top tr).Good):(ZiI (Zd7 h (tr:Int)).1 (top:Int)).1=ZcG h top tr:=by
 have hu:=Zma hg tr;have e1:(Zd7 h (tr:Int)).1=⟨ZbG h.cells (h.trail.drop tr),h.trail.take tr⟩:=by rw[Zd7,if_neg (not_not_intro hg),if_neg (not_not_intro ⟨zN _,by omega⟩),Int.toNat_natCast]
 rw[e1,ZiI,if_neg (not_not_intro hu),if_neg (not_not_intro ⟨zN _,by simp only[Zbj];omega⟩),if_neg (not_not_intro ?_)];·simp only[Int.toNat_natCast];rfl
 ·simp only[Int.toNat_natCast];exact ho
theorem Zd2{P:List Cl}{n:Nat}{g:Gm}:∀(j k:Nat)(m m':Mv),Zbs P n g j k m=(.no,m')->m'=m
 |0,k,m,m',h=>by simp[Zbs]at h;exact h.symm
 |j+1,k,m,m',h=>by
  rw[Zbs]at h;have ih:=Zd2 (P:=P) (n:=n) (g:=g) j (k+1) m m';split at h;·simpa using h.symm
  ·split at h;·exact ih h
   ·simp only at h;split at h;·simp at h
    ·split at h;·simp at h
     ·split at h;·exact ih h
      ·simp at h
theorem ZfL{P:List Cl}{q:Nat}(hP:GoodP P):∀(cs:List Cm)(ds:List Chc)(m:Mv)(s:Sv),Bak P q m s cs ds->(q:Int)<=s.vars->Both q (Zcs P cs m) (ZcB P ds s)
 |[],[],m,s,B,_=>by rw[Zcs,ZcB];show m.out++_=s.out++_;rw[B.out]
 |[],_::_,m,s,B,_=>B.chc.elim
 |_::_,[],m,s,B,_=>B.chc.elim
 |c::cs,d::ds,m,s,B,hqv=>by
  obtain⟨k,hle,hrest⟩:=B.chc;have hdo:=B.ok.chc d (by simp);have hpop:=B.ok.pop;have hpw:=(List.pairwise_cons.1 B.ok.trails).1;have hv1:=B.ok.potV;simp only at hdo hpop hpw hv1;rw[Zcs,ZcB,Zkc B.good k.top k.tr k.good];cases hg:d.g with
   |nil=>exact absurd hg hdo.ne
   |cons g rest=>
    simp only;have hlen:=Zcp (h:=m.h) c.top c.trail k.top;have hchs:ChsR (ZcG m.h c.top c.trail) (s.env.take d.trail) s.vars q m.query m.goals cs ds:=hrest.imp fun x y hx hy r=>by
     obtain⟨h1,h2⟩:=hle x hx;refine r.move (Zl4 h1 h2) (by rw[hlen];exact h1) ?_ ?_ ?_ (Int.le_refl _) (fun _ _=>rfl) (zL _);·show x.trail<=(m.h.trail.take c.trail).length;rw[List.length_take];have :=k.tr;omega
     ·rw[List.take_take,Nat.min_eq_left (hpw y hy)]
     ·rw[List.length_take];have :=hpw y hy;have :=r.dtr;omega
    have hsnap:=k.snap;rw[hg]at hsnap;have C:CallOk q {m with choices:=cs,h:=ZcG m.h c.top c.trail} {s with choices:=ds,env:=s.env.take d.trail} c.goal g rest:={good:=k.good,env:=hpop.env,v0:=hpop.vars0,v1:=by simp only;omega,qv:=hqv,gt:=(hdo.gls g (by rw[hg];simp)).1,fuel:=B.fuel,out:=B.out,tr:=by show(m.h.trail.take c.trail).length<=(s.env.take d.trail).length;rw[List.length_take,List.length_take];have :=k.tre;have :=k.dtr;omega,cur:=hsnap,chc:=hchs,pot:=by show(ZcG m.h c.top c.trail).cells.length+300+ZbO m.fuel m.out<=60000;rw[hlen];exact B.pots c (by simp),pots:=fun x hx=>B.pots x (by simp[hx]),gcnt:=B.gcnt};have hcall:=Zhy hP C (P.length - d.at_) d.at_ rfl;rw[k.from_];have hno:=Zd2 (P:=P) (n:=c.goal) (g:=ZaP m c.goal) (P.length - d.at_) d.at_ {m with choices:=cs,h:=ZcG m.h c.top c.trail};have hnoF:=Zc5 (P:=P) (g:=g) (rest:=rest) (P.length - d.at_) d.at_ {s with choices:=ds,env:=s.env.take d.trail};have e1:ZaP {m with choices:=cs,h:=ZcG m.h c.top c.trail} c.goal=ZaP m c.goal:=rfl;rw[e1]at hcall;generalize Zbs P c.goal (ZaP m c.goal) (P.length - d.at_) d.at_ {m with choices:=cs,h:=ZcG m.h c.top c.trail}=rm at*;generalize ZcM P g rest (P.length - d.at_) d.at_ {s with choices:=ds,env:=s.env.take d.trail}=rs at*;obtain⟨ra,m'⟩:=rm;obtain⟨rb,s'⟩:=rs;cases ra with
     |next=>cases rb with|next gl=>exact hcall|no=>exact hcall.elim|off=>exact hcall.elim
     |off=>cases rb with|next gl=>exact hcall.elim|no=>exact hcall.elim|off=>exact hcall
     |no=>cases rb with|next gl=>exact hcall.elim|off=>exact hcall.elim|no=>obtain rfl:=hno m' rfl;obtain rfl:=hnoF s' rfl;simp only;exact ZfL hP cs ds _ _ ⟨hpop,k.good,B.fuel,B.out,hchs,fun x hx=>B.pots x (by simp[hx]),B.gcnt⟩ hqv
section
variable {N : Int} {l : List Ce} {φ : Int → Int} {E : Env}
theorem ZcD{a:Int}{t:Tm}(h:GoalAt N l φ E a t)(hne:t.args≠[]):∀(i:Nat)(hi:i<t.args.length),Hr l φ E (fun _=>True) (a+1+(i:Nat)) t.args[i]:=by
 have hk:t.kind=3:=by
  rcases h.goal with hk|hk;·have :=h.tin;cases this with|var=>cases hk|atom=>exact absurd rfl hne|int=>cases hk|comp=>rfl
  ·exact hk
 have hs:slook E t=t:=ZaG (.inl (by rw[hk];decide));have hl:Looks l a a:= .stop h.inb (.inl h.kind);cases h.tells with|var h1 h2 h3 h4 h5=>rw[hs,hk]at h4;simp at h4|leaf h1 h2 h3 h4 h5 h6 h7=>rw[hs,hk]at h4;exact absurd rfl h4|comp h1 h2 h3 h4 h5 h6 h7=>obtain rfl:=hl.fun_ h1;simp only[hs]at h7;exact h7
theorem Zkd{K:Int->Prop}{a:Int}{t:Tm}(h:Hr l φ E K a t):((Zaa l (look l a)).kind=2↔(slook E t).kind=2)/\((slook E t).kind=2->(Zaa l (look l a)).n=(slook E t).n):=by cases h with|var h1 h2 h3 h4 h5=>rw[ZaS h1,h2,h4];exact⟨by decide,fun h=>absurd h (by decide)⟩|leaf h1 h2 h3 h4 h5 h6 h7=>rw[ZaS h1,h2];exact⟨Iff.rfl,fun _=>h5⟩|comp h1 h2 h3 h4 h5 h6 h7=>rw[ZaS h1,h2,h3];exact⟨by decide,fun h=>absurd h (by decide)⟩
end
structure UOut (N : Int) (φ : Int → Int) (h : Hp) (E : Env) (u : Hp) (E' : Env) : Prop where
  good : u.Good
  tr : u.trail.length ≤ E'.length
  len : u.cells.length = h.cells.length
  mon : Mon N u.cells φ E'
  tells : ∀ a x, x.In N → Hr h.cells φ E (fun _ => True) a x → Hr u.cells φ E' (fun _ => True) a x
  cells : ∀ a, Inb h.cells a → (Zaa h.cells a).kind ≠ 0 → Zaa u.cells a = Zaa h.cells a ∧ Inb u.cells a
  old : ∀ top tr, top ≤ h.cells.length → tr ≤ h.trail.length → ZcG u top tr = ZcG h top tr
  trl : h.trail.length ≤ u.trail.length
theorem Zir{N:Int}{φ:Int->Int}{h:Hp}{E:Env}{a b:Int}{ta tb:Tm}(hg:h.Good)(hE:EnvOk N E)(hN0:0<=N)(hN:N<=40000)(hM:Mon N h.cells φ E)(htr:h.trail.length<=E.length)(ha:Hr h.cells φ E (fun _=>True) a ta)(hb:Hr h.cells φ E (fun _=>True) b tb)(ia:ta.In N)(ib:tb.In N):((Zds 400 [(ta,tb)] E).work<0->(Za6 h a b).2.2≠0)/\(¬(Zds 400 [(ta,tb)] E).work<0->(Za6 h a b).2.2=0/\(Za6 h a b).2.1=(Zds 400 [(ta,tb)] E).ok/\((Zds 400 [(ta,tb)] E).ok=false->(Za6 h a b).1=h)/\((Zds 400 [(ta,tb)] E).ok=true->UOut N φ h E (Za6 h a b).1 (Zds 400 [(ta,tb)] E).env)):=by
 have hia:Inb h.cells a:=by obtain⟨x,hx⟩:=ha.looks;exact hx.start
 have hib:Inb h.cells b:=by obtain⟨x,hx⟩:=hb.looks;exact hx.start
 have hIs:∀p∈[(ta,tb)],p.1.In N/\p.2.In N:=by intro p hp;simp only[List.mem_singleton]at hp;subst hp;exact⟨ia,ib⟩
 have U:=ZjY (N:=N) 400 [(a,b)] [(ta,tb)] h.cells E h.trail hE hM ⟨⟨ha,hb⟩,trivial⟩ hIs;have hUE:=ZdU (N:=N) 400 [(ta,tb)] E hE hIs;have hUB:=ZdP 400 [(a,b)] h.cells h.trail;rw[Zka hg hia hib];generalize uniL 400 [(a,b)] h.cells h.trail=u at U hUB ⊢;generalize Zds 400 [(ta,tb)] E=u' at U hUE ⊢;refine⟨fun hw=>by rw[if_pos (show u.work<0 by rw[U.work];exact hw)];simp,fun hw=>?_⟩;rw[if_neg (show ¬u.work<0 by rw[U.work];exact hw)];by_cases hok:u'.ok=false;·rw[if_pos (show u.ok=false by rw[U.ok];exact hok),hok];exact⟨rfl,rfl,fun _=>rfl,fun h=>by simp at h⟩
 have hok':u.ok=true:=by rw[U.ok];simpa using hok
 rw[if_neg (show ¬u.ok=false by rw[hok'];decide)];obtain⟨vs,t1,t2,t3⟩:=U.trail hok';obtain⟨vs',t1',hB, -, -⟩:=hUB hok';have hvs:vs'=vs:=List.append_cancel_left (t1'.symm.trans t1);subst hvs;have hel:=Zl5 hUE.1 hN0;have htl:u.trail.length<=65536:=by rw[t1,List.length_append];omega
 rw[if_neg (show ¬65536<u.trail.length by omega)];refine⟨rfl,by simp only;rw[<-U.ok,hok'],fun h=>absurd h hok,fun _=>?_⟩;rw[t1]at htl;simp only[t1];refine⟨Zg4 hg hB (fun x hx=>(t3 x hx).1) htl,by simp only[List.length_append];omega,hB.1,U.mon hok',U.tells hok',fun x hx hk=>Zg3 hB hx hk,fun top tr h1 h2=>?_,by simp⟩;have hB':Bound (h.cells++[]) vs' u.cells:=by rw[List.append_nil];exact hB
 exact Zgm hB' h1 h2
def ZpT(P:List Cl)(q:Nat)(nx:Int)(rest:List Gl):Option Bool×Mv->Option Bool×Sv->Prop|(none,m),(none,s)=>m.out=s.out|(some true,m),(some true,s)=>Sim0 q {m with now:=nx} s rest|(some false,m),(some false,s)=>SvOk P s->Bak P q m s m.choices s.choices|_,_=>False
theorem Znt{N:Int}{E:Env}(hE:EnvOk N E)(z:Tm)(hz:z.In N)(n:Int):0<=(Zds 400 [(z,.mk 2 n ByteArray.empty [])] E).work:=by
 have h2:slook E (.mk 2 n ByteArray.empty [])= .mk 2 n ByteArray.empty []:=ZaG (.inl (by show(2:Int)≠0;decide));rw[Zds];simp only[h2,show(Tm.mk 2 n ByteArray.empty []).kind=2 from rfl,show((2:Int)=0)=False from by simp,and_false,or_false,if_false];split
 ·rename_i hk;have hin:inS E (slook E z).n 399 [.mk 2 n ByteArray.empty []]=(false,398):=by rw[ZjP,h2,if_neg (by show ¬(2:Int)=0;decide)];show inS E _ 398 ([]++[])=_;rw[List.append_nil,ZlC];rfl
  rw[hin];simp only[Bool.false_eq_true,false_or];rw[if_neg (by omega),ZfE];simp only;omega
 ·split;·simp only;omega
  ·rename_i h1 h3;have :(slook E z).args.length=0:=(Decidable.not_not.1 h3).2.2.2;rw[List.length_eq_zero_iff]at this;rw[this];show 0<=(Zds 399 ([]++[]) E).work;rw[List.append_nil,ZfE];simp only;omega
section
variable {P : List Cl} {q : Nat} {m : Mv} {s : Sv} {n : Nat} {g : Gl} {rest : List Gl}
theorem Zke{φ:Int->Int}{u:Hp}{E':Env}{h:Hp}(C:CallOk q m s n g rest)(hlen:h.cells.length<=m.h.cells.length+1)(hle:m.h.cells.length<=h.cells.length)(htr:h.trail=m.h.trail)(hold:∀top tr,top<=m.h.cells.length->tr<=m.h.trail.length->ZcG h top tr=ZcG m.h top tr)(hE:∃F,E'=s.env++F)(U:UOut s.vars φ h s.env u E')(hq:∀v:Nat,v<q->Inb h.cells (m.query+(v:Nat))/\Hr h.cells φ s.env (fun _=>True) (m.query+(v:Nat)) (tvar (v:Nat)))(nx:Int)(hch:Chain s.vars h.cells φ s.env m.goals nx rest):Sim0 q {{m with h:=u}with now:=nx} {s with env:=E'} rest:=by
 obtain⟨F,rfl⟩:=hE;refine⟨U.good,C.fuel,C.out,U.tr,⟨φ,U.mon,fun v hv=>?_,hch.imp (fun _ _=>rfl) (zL _) fun a t k=>?_⟩,C.chc.imp fun c d hc hd k=>k.move ?_ ?_ ?_ ?_ ?_ (Int.le_refl _) (fun _ _=>rfl) (zL _),?_,C.pots,by have :=C.gcnt;simp only;omega⟩;·obtain⟨q1,q2⟩:=hq v hv;refine⟨?_,U.tells _ _ (.var _ (by omega) (by have :=C.qv;omega)) q2⟩;have :=U.len;unfold Inb at q1 ⊢;simp only;omega
 ·obtain⟨k1,k2⟩:=U.cells a k.inb k.kind;exact k.move (Int.le_refl _) k1 k2 (U.tells _ _ k.tin k.tells)
 ·exact(U.old _ _ (by have :=k.top;omega) (by rw[htr];exact k.tr)).trans (hold _ _ k.top k.tr)
 ·have :=U.len;have :=k.top;simp only;omega
 ·have h1:=U.trl;rw[htr]at h1;have :=k.tr;simp only;omega
 ·rw[List.take_append_of_le_length k.dtr]
 ·simp only[List.length_append];have :=k.dtr;omega
 ·have :=C.pot;have :=U.len;simp only;omega
theorem Zis{E':Env}{h:Hp}(C:CallOk q m s n g rest)(hg:h.Good)(hle:m.h.cells.length<=h.cells.length)(htr:h.trail=m.h.trail)(hold:∀top tr,top<=m.h.cells.length->tr<=m.h.trail.length->ZcG h top tr=ZcG m.h top tr)(hE:∃F,E'=s.env++F)(hok:SvOk P {s with env:=E'}):Bak P q {m with h:=h} {s with env:=E'} m.choices s.choices:=by
 obtain⟨F,rfl⟩:=hE;refine⟨hok,hg,C.fuel,C.out,C.chc.imp fun c d hc hd k=>k.move (hold _ _ k.top k.tr) ?_ ?_ ?_ ?_ (Int.le_refl _) (fun _ _=>rfl) (zL _),C.pots,C.gcnt⟩;·have :=k.top;simp only;omega
 ·simp only[htr];exact k.tr
 ·rw[List.take_append_of_le_length k.dtr]
 ·simp only[List.length_append];have :=k.dtr;omega
theorem Zit(C:CallOk q m s n g rest)(hk:g.t.Known):ZpT P q (ZaP m n).next rest (ZbV (ZaP m n) m) (ZcU g s):=by
 obtain⟨φ,hM,hq,kk,e1,hlt,hbar,hga,hnx,hch⟩:=C.cur;have e2:kk=n:=by omega
 subst e2;have hgm:ZaP m kk=(m.goals[kk]?).getD default:=rfl;rw[<-hgm]at hbar hga hnx hch;generalize ZaP m kk=gm at*;have hchl:=C.chc.len;unfold ZbV ZcU;have hcs:(Zaa m.h.cells gm.at_).s=g.t.s:=by rw[hga.cell]
 simp only[hcs];have hcur:∀c k,Sim0 q {{m with choices:=m.choices.drop c}with now:=gm.next} {s with choices:=s.choices.drop k} rest↔Sim0 q {{m with choices:=m.choices.drop c}with now:=gm.next} {s with choices:=s.choices.drop k} rest:=fun _ _=>Iff.rfl;by_cases n1:g.t.s.toList=[33]
 ·rw[if_pos n1,if_pos n1];have he:m.choices.length - min gm.bar m.choices.length=s.choices.length - g.bar:=by rw[hbar,<-hchl];omega
  rw[he];exact⟨C.good,C.fuel,C.out,C.tr,⟨φ,hM,hq,hch⟩,C.chc.drop _,by have :=C.pot;simp only;omega,fun c hc=>C.pots c (List.mem_of_mem_drop hc),by have :=C.gcnt;simp only;omega⟩
 rw[if_neg n1,if_neg n1];have hon:Sim0 q {m with now:=gm.next} s rest:=⟨C.good,C.fuel,C.out,C.tr,⟨φ,hM,hq,hch⟩,C.chc,by have :=C.pot;simp only;omega,C.pots,by have :=C.gcnt;simp only;omega⟩;by_cases n2:g.t.s.toList=[116,114,117,101];·rw[if_pos n2,if_pos n2];exact hon
 rw[if_neg n2,if_neg n2];have hoff:SvOk P s->Bak P q m s m.choices s.choices:=fun hok=>⟨hok,C.good,C.fuel,C.out,C.chc,C.pots,C.gcnt⟩;by_cases n3:g.t.s.toList=[102,97,105,108];·rw[if_pos n3,if_pos n3];exact hoff
 rw[if_neg n3,if_neg n3];have hout4:∀k:Int,m.out++[(⟨k,[]⟩:Ev)]=s.out++[⟨k,[]⟩]:=fun k=>by rw[C.out]
 by_cases n4:g.t.s.toList=[101,113]
 ·rw[if_pos n4,if_pos n4];have h2:g.t.args.length=2:=by
   rcases hk with⟨_,h|h|h⟩|⟨h,_⟩|⟨_,h⟩;·exact absurd h n1
   ·exact absurd h n2
   ·exact absurd h n3
   ·exact h
   ·rw[n4]at h;simp at h
  have hne:g.t.args≠[]:=fun h=>by rw[h]at h2;simp at h2
  have ha:=ZcD hga hne 0 (by omega);have hb:=ZcD hga hne 1 (by omega);rw[show gm.at_+1+((0:Nat):Int)=gm.at_+1 by omega]at ha;rw[show gm.at_+1+((1:Nat):Int)=gm.at_+2 by omega]at hb;rw[show(g.t.args[0]?).getD default=g.t.args[0]by rw[List.getElem?_eq_getElem (by omega)];rfl,show(g.t.args[1]?).getD default=g.t.args[1]by rw[List.getElem?_eq_getElem (by omega)];rfl];have ia:g.t.args[0].In s.vars:=hga.tin.arg (List.getElem_mem _);have ib:g.t.args[1].In s.vars:=hga.tin.arg (List.getElem_mem _);obtain⟨u1,u2⟩:=Zir C.good C.env C.v0 C.v1 hM C.tr ha hb ia ib;obtain⟨-,F,hF, -⟩:=ZdU (N:=s.vars) 400 [(g.t.args[0],g.t.args[1])] s.env C.env (by intro p hp;simp only[List.mem_singleton]at hp;subst hp;exact⟨ia,ib⟩);generalize Zds 400 [(g.t.args[0],g.t.args[1])] s.env=u' at*;generalize Za6 m.h (gm.at_+1) (gm.at_+2)=u at*;by_cases hw:u'.work<0;·rw[if_pos (u1 hw),if_pos hw];exact hout4 4
  ·obtain⟨v1,v2,v3,v4⟩:=u2 hw;rw[if_neg (not_not_intro v1),if_neg hw,v2];cases ho:u'.ok with|true=>exact Zke C (Nat.le_succ _) (zL _) rfl (fun _ _ _ _=>rfl) ⟨F,hF⟩ (v4 ho) hq _ hch|false=>intro hok;rw[v3 ho];exact Zis C C.good (zL _) rfl (fun _ _ _ _=>rfl) ⟨F,hF⟩ hok
 rw[if_neg n4,if_neg n4];have h2:2<=g.t.args.length:=by
  rcases hk with⟨_,h|h|h⟩|⟨h,_⟩|⟨h,_⟩;·exact absurd h n1
  ·exact absurd h n2
  ·exact absurd h n3
  ·omega
  ·omega
 have hne:g.t.args≠[]:=fun h=>by rw[h]at h2;simp at h2
 have ha:=ZcD hga hne 0 (by omega);have hb:=ZcD hga hne 1 (by omega);rw[show gm.at_+1+((0:Nat):Int)=gm.at_+1 by omega]at ha;rw[show gm.at_+1+((1:Nat):Int)=gm.at_+2 by omega]at hb;rw[show(g.t.args[0]?).getD default=g.t.args[0]by rw[List.getElem?_eq_getElem (by omega)];rfl,show(g.t.args[1]?).getD default=g.t.args[1]by rw[List.getElem?_eq_getElem (by omega)];rfl];obtain⟨a1,a2⟩:=Zkd ha;obtain⟨b1,b2⟩:=Zkd hb;by_cases hn:(slook s.env g.t.args[0]).kind≠2\/(slook s.env g.t.args[1]).kind≠2;·rw[if_pos (hn.imp (fun h e=>h (a1.1 e)) (fun h e=>h (b1.1 e))),if_pos hn];exact hout4 5
 have hn':(slook s.env g.t.args[0]).kind=2/\(slook s.env g.t.args[1]).kind=2:=by omega
 rw[if_neg (fun h=>h.elim (fun h=>h (a1.2 hn'.1)) (fun h=>h (b1.2 hn'.2))),if_neg hn,a2 hn'.1,b2 hn'.2];by_cases n5:g.t.s.toList=[108,101,115,115];·rw[if_pos n5,if_pos n5];cases decide ((slook s.env g.t.args[0]).n<(slook s.env g.t.args[1]).n)with|true=>exact hon|false=>exact hoff
 rw[if_neg n5,if_neg n5];by_cases hbig:(slook s.env g.t.args[0]).n+(slook s.env g.t.args[1]).n>1099511627776\/(slook s.env g.t.args[0]).n+(slook s.env g.t.args[1]).n< -1099511627776;·rw[if_pos hbig,if_pos hbig];exact hout4 5
 rw[if_neg hbig,if_neg hbig];have h3:g.t.args.length=3:=by
  rcases hk with⟨_,h|h|h⟩|⟨_,h|h⟩|⟨h,_⟩;·exact absurd h n1
  ·exact absurd h n2
  ·exact absurd h n3
  ·exact absurd h n4
  ·exact absurd h n5
  ·exact h
 generalize(slook s.env g.t.args[0]).n+(slook s.env g.t.args[1]).n=k at*;have hc:=ZcD hga hne 2 (by omega);rw[show gm.at_+1+((2:Nat):Int)=gm.at_+3 by omega]at hc;rw[show(g.t.args[2]?).getD default=g.t.args[2]by rw[List.getElem?_eq_getElem (by omega)];rfl];have ic:g.t.args[2].In s.vars:=hga.tin.arg (List.getElem_mem _);have id_:(Tm.mk 2 k ByteArray.empty []).In s.vars:= .int _ (by omega) (by omega);have hFg:GoodC [(⟨2,k,ByteArray.empty⟩:Ce)]:=fun i hi=>by
  simp only[List.length_singleton]at hi;have :i=0:=by omega
  subst this;exact .inr (.inr (.inl ⟨rfl,ZbN⟩))
 have hF0:NF 0 [(⟨2,k,ByteArray.empty⟩:Ce)]:=fun i x hx _ hk=>by cases i with|zero=>simp only[List.getElem?_cons_zero,Option.some.injEq]at hx;subst hx;simp at hk|succ i=>simp at hx
 have hlen:m.h.cells.length+[(⟨2,k,ByteArray.empty⟩:Ce)].length<=65536:=by have :=C.pot;simp only[List.length_singleton];omega
 rw[Zhx C.good hFg hlen];simp only[ne_eq,not_true_eq_false,if_false];have hg1:=Zgk C.good hFg hlen;have hM1:=Zhv hM C.env C.v0 hF0;rw[show s.vars+((0:Nat):Int)=s.vars by omega]at hM1;have hcl:∀a t,Inb m.h.cells a->Hr m.h.cells φ s.env (fun _=>True) a t->Hr (m.h.cells++[(⟨2,k,ByteArray.empty⟩:Ce)].map (shC m.h.cells.length)) (Zgl m.h.cells s.vars φ) s.env (fun _=>True) a t:=fun a t hi h=>Zhw C.good.1 hi h;have hci:Inb m.h.cells (gm.at_+3):=by obtain⟨x,hx⟩:=hc.looks;exact hx.start
 have hI0:Inb [(⟨2,k,ByteArray.empty⟩:Ce)] 0:=⟨by omega,by simp⟩;obtain⟨c1,c2⟩:=Zbp (H:=m.h.cells) hI0;rw[show(0:Int)+(m.h.cells.length:Int)=(m.h.cells.length:Int)by omega,show Zaa [(⟨2,k,ByteArray.empty⟩:Ce)] 0=⟨2,k,ByteArray.empty⟩from rfl,Zcr _ (by simp)]at c1;rw[show(0:Int)+(m.h.cells.length:Int)=(m.h.cells.length:Int)by omega]at c2;have hst:slook s.env (.mk 2 k ByteArray.empty [])= .mk 2 k ByteArray.empty []:=ZaG (.inl (by simp[Tm.kind]));have hd:Hr (m.h.cells++[(⟨2,k,ByteArray.empty⟩:Ce)].map (shC m.h.cells.length)) (Zgl m.h.cells s.vars φ) s.env (fun _=>True) (m.h.cells.length:Int) (.mk 2 k ByteArray.empty []):= .leaf (.stop c2 (.inl (by rw[c1];simp))) (by rw[c1,hst];rfl) (by rw[hst];simp[Tm.kind]) (by rw[hst];simp[Tm.kind]) (by rw[c1,hst];rfl) (by rw[c1,hst];rfl) (by rw[hst];rfl);obtain⟨u1,u2⟩:=Zir (h:=⟨m.h.cells++[(⟨2,k,ByteArray.empty⟩:Ce)].map (shC m.h.cells.length),m.h.trail⟩) hg1 C.env C.v0 C.v1 hM1 C.tr (hcl _ _ hci hc) hd ic id_;obtain⟨-,F,hF, -⟩:=ZdU (N:=s.vars) 400 [(g.t.args[2],.mk 2 k ByteArray.empty [])] s.env C.env (by intro p hp;simp only[List.mem_singleton]at hp;subst hp;exact⟨ic,id_⟩);have hwk:=Znt C.env g.t.args[2] ic k;generalize Zds 400 [(g.t.args[2],Tm.mk 2 k ByteArray.empty [])] s.env=u' at*;generalize hu:Za6 ⟨m.h.cells++[(⟨2,k,ByteArray.empty⟩:Ce)].map (shC m.h.cells.length),m.h.trail⟩ (gm.at_+3) (m.h.cells.length:Int)=u at*;obtain⟨v1,v2,v3,v4⟩:=u2 (by omega);rw[if_neg (not_not_intro v1),v2];have hold:∀top tr,top<=m.h.cells.length->tr<=m.h.trail.length->ZcG ⟨m.h.cells++[(⟨2,k,ByteArray.empty⟩:Ce)].map (shC m.h.cells.length),m.h.trail⟩ top tr=ZcG m.h top tr:=fun top tr h1 h2=>by have :=Zgm (Bound.refl (m.h.cells++[(⟨2,k,ByteArray.empty⟩:Ce)].map (shC m.h.cells.length))) h1 h2;rw[List.append_nil]at this;exact this
 cases ho:u'.ok with
  |true=>
   refine Zke (h:=⟨m.h.cells++[(⟨2,k,ByteArray.empty⟩:Ce)].map (shC m.h.cells.length),m.h.trail⟩) C (by simp) (by simp) rfl hold ⟨F,hF⟩ (v4 ho) (fun v hv=>?_) _ (hch.imp (fun _ _=>rfl) (zL _) fun a t hk9=>?_);·obtain⟨q1,q2⟩:=hq v hv;exact⟨(ZbH q1).2,hcl _ _ q1 q2⟩
   ·have hl:=ZbH (F:=[(⟨2,k,ByteArray.empty⟩:Ce)]) hk9.inb;exact hk9.move (Int.le_refl _) hl.1 hl.2 (hcl _ _ hk9.inb hk9.tells)
  |false=>intro hok;rw[v3 ho];have hkf:=Zis (h:=⟨m.h.cells++[(⟨2,k,ByteArray.empty⟩:Ce)].map (shC m.h.cells.length),m.h.trail⟩) C hg1 (by simp) rfl hold ⟨F,hF⟩ hok;exact hkf
end
theorem Ziu{P:List Cl}{t:Tm}:∀(n k:Nat),n=P.length - k->k<=P.length->(Zc3 P t n k=P.length↔∀(i:Nat)(h:i<P.length),k<=i->¬Zfy (P[i]).head t)
 |0,k,hn,hk=>by rw[Zc3];exact⟨fun _ i h hi=>by omega,fun _=>by omega⟩
 |n+1,k,hn,hk=>by
  have hlt:k<P.length:=by omega
  have ih:=Ziu (P:=P) (t:=t) n (k+1) (by omega) (by omega);rw[Zc3,List.getElem?_eq_getElem hlt];simp only;by_cases h:Zfy (P[k]).head t;·rw[if_pos h];exact⟨fun e=>by omega,fun h2=>absurd h (h2 k hlt (zL _))⟩
  ·rw[if_neg h,ih];refine⟨fun h2 i hi hki=>?_,fun h2 i hi hki=>h2 i hi (by omega)⟩;by_cases e:i=k;·subst e;exact h
   ·exact h2 i hi (by omega)
theorem Zg5{N:Int}{l:List Ce}{φ:Int->Int}{E:Env}{a:Int}{t:Tm}(h:GoalAt N l φ E a t):ZdC (Zaa l a)↔t.Known:=by unfold ZdC Tm.Known;rw[h.cell];simp[Tm.args,Tm.s]
section
variable {P : List Cl} {q : Nat} {m : Mv} {s : Sv} {g : Gl} {rest : List Gl}
theorem Zkf(hP:GoodP P)(S:Sim P q m s (g::rest))(hqv:(q:Int)<=s.vars):Both q (ZcC P m) (ZeB P g rest s):=by
 obtain⟨hok,hgls,S⟩:=S;unfold ZcC ZeB;rw[S.fuel];by_cases hf:s.fuel=0;·rw[if_pos hf,if_pos hf];show m.out++_=s.out++_;rw[S.out]
 rw[if_neg hf,if_neg hf];obtain⟨φ,hM,hq,kk,e1,hlt,hbar,hga,hnx,hch⟩:=S.cur;obtain rfl:kk=m.now.toNat:=by omega
 have hp:=ZfF s.fuel s.choices hf;have hs1:SvOk P {s with fuel:=s.fuel - 1}:=by obtain⟨h1,h2,h3,h4,h5,h6,h7,h8⟩:=hok;rw[hp]at h6 h7;exact⟨h1,h2,h3,h4,h5,by simp only;omega,by simp only;omega,by simp only;omega⟩
 have hpV:=hok.potV;have hpE:=hok.potE;rw[hp]at hpE;have hsl:∀c:Nat,c+ZbO m.fuel m.out<=60000->c+300+ZbO (s.fuel - 1) m.out<=60000:=fun c h=>by unfold ZbO at h ⊢;rw[S.fuel]at h;omega
 have hsl2:∀c:Nat,c+300+ZbO m.fuel m.out<=60000->c+300+ZbO (s.fuel - 1) m.out<=60000:=fun c h=>by unfold ZbO at h ⊢;rw[S.fuel]at h;omega
 have hslg:m.goals.length+5+ZeM (s.fuel - 1) m.out<=5000:=by have h:=S.gcnt;unfold ZeM at h ⊢;rw[S.fuel]at h;omega
 have C:CallOk q {m with fuel:=s.fuel - 1} {s with fuel:=s.fuel - 1} m.now.toNat g rest:={good:=S.good,env:=hok.env,v0:=hok.vars0,v1:=by simp only;omega,qv:=hqv,gt:=(hgls g (by simp)).1,fuel:=rfl,out:=S.out,tr:=S.tr,cur:=⟨φ,hM,hq,m.now.toNat,rfl,hlt,hbar,hga,by rw[<-e1];exact hnx,hch⟩,chc:=S.chc,pot:=hsl _ S.pot,pots:=fun c hc=>hsl2 _ (S.pots c hc),gcnt:=hslg};have hB:Bak P q {m with fuel:=s.fuel - 1} {s with fuel:=s.fuel - 1} m.choices s.choices:=⟨hs1,S.good,rfl,S.out,S.chc,C.pots,C.gcnt⟩;have hgmk:ZaP {m with fuel:=s.fuel - 1} m.now.toNat=(m.goals[m.now.toNat]?).getD default:=rfl;simp only;have hga':GoalAt s.vars m.h.cells φ s.env (ZaP {m with fuel:=s.fuel - 1} m.now.toNat).at_ g.t:=hga;have hkc:=Zg5 hga';by_cases hk:g.t.Known;·rw[if_pos (hkc.2 hk),if_pos hk];have hks:=Zit (P:=P) C hk;have hkf:=fun(r:Option Bool)(s':Sv)(e:ZcU g {s with fuel:=s.fuel - 1}=(r,s'))(hr:r≠none)=>Zdu hs1 (hgls g (by simp)).1 hk (by simp only;omega) e hr;generalize ZbV (ZaP {m with fuel:=s.fuel - 1} m.now.toNat) {m with fuel:=s.fuel - 1}=rm at*;generalize ZcU g {s with fuel:=s.fuel - 1}=rs at*;obtain⟨ra,m'⟩:=rm;obtain⟨rb,s'⟩:=rs;match ra,rb,hks,hkf with|none,none,hks,_=>exact hks|some true,some true,hks,_=>exact hks|some false,some false,hks,hkf=>obtain⟨a1,a2,a3,a4⟩:=hkf (some false) s' rfl (by simp);exact ZfL hP _ _ _ _ (hks a1) (by rw[a4];exact hqv)|none,some b,hks,_=>cases b<;>exact hks.elim|some b,none,hks,_=>cases b<;>exact hks.elim|some true,some false,hks,_=>exact hks.elim|some false,some true,hks,_=>exact hks.elim
 ·rw[if_neg (fun h=>hk (hkc.1 h)),if_neg hk];have hnext:ZaX P (Zaa m.h.cells (ZaP {m with fuel:=s.fuel - 1} m.now.toNat).at_) P.length 0=Zc3 P g.t P.length 0:=Zgn hga' P _ _;rw[hnext];have hall:=Ziu (P:=P) (t:=g.t) P.length 0 (by omega) (Nat.zero_le _);by_cases hn:∀c∈P,¬Zfy c.head g.t;·rw[if_pos (hall.2 fun i h _=>hn _ (List.getElem_mem h)),if_pos hn];show m.out++_=s.out++_;rw[S.out]
  ·rw[if_neg (fun h=>hn fun c hc=>by obtain⟨i,hi,rfl⟩:=List.mem_iff_getElem.1 hc;exact hall.1 h i hi (Nat.zero_le _)),if_neg hn];have hcall:=Zhy hP C P.length 0 (by omega);have hno:=Zd2 (P:=P) (n:=m.now.toNat) (g:=ZaP {m with fuel:=s.fuel - 1} m.now.toNat) P.length 0 {m with fuel:=s.fuel - 1};have hnoF:=Zc5 (P:=P) (g:=g) (rest:=rest) P.length 0 {s with fuel:=s.fuel - 1};generalize Zbs P m.now.toNat (ZaP {m with fuel:=s.fuel - 1} m.now.toNat) P.length 0 {m with fuel:=s.fuel - 1}=rm at*;generalize ZcM P g rest P.length 0 {s with fuel:=s.fuel - 1}=rs at*;obtain⟨ra,m'⟩:=rm;obtain⟨rb,s'⟩:=rs;cases ra with
   |next=>cases rb with|next gl=>exact hcall|no=>exact hcall.elim|off=>exact hcall.elim
   |off=>cases rb with|next gl=>exact hcall.elim|no=>exact hcall.elim|off=>exact hcall
   |no=>cases rb with|next gl=>exact hcall.elim|off=>exact hcall.elim|no=>obtain rfl:=hno m' rfl;obtain rfl:=hnoF s' rfl;exact ZfL hP _ _ _ _ hB hqv
def ZpI(l:List Ce)(φ:Int->Int):Option (List Tm×Int)->Option (List Tm×Nat)->Prop|none,none=>True|some (xs,left),some (ys,w)=>left=(w:Int)/\w<=200/\ys=xs.map (Tm.ren φ)/\∀x∈xs,x.Vars (Free l)|_,_=>False
theorem Zkg{h:Hp}{φ:Int->Int}{E:Env}{N:Int}{query:Int}(hg:h.Good)(hE:EnvOk N E)(hqN:(q:Int)<=N)(hq:∀v:Nat,v<q->Inb h.cells (query+(v:Nat))/\Hr h.cells φ E (fun _=>True) (query+(v:Nat)) (tvar (v:Nat))):∀v:Nat,v<=q->ZpI h.cells φ (Zde h query v) (flL E 200 ((List.range v).map fun i=>tvar (i:Nat)))
 |0,_=>by rw[Zde];simp only[List.range_zero,List.map_nil,Zdt];exact⟨rfl,zL _,rfl,by simp⟩
 |v+1,hv=>by
  have ih:=Zkg hg hE hqN hq v (by omega);rw[Zde,List.range_succ,List.map_append,ZoH];revert ih;cases Zde h query v with
   |none=>cases flL E 200 ((List.range v).map fun i=>tvar (i:Nat))with|none=>intro _;trivial|some p=>intro h;exact h.elim
   |some p=>
    obtain⟨xs,left⟩:=p;cases flL E 200 ((List.range v).map fun i=>tvar (i:Nat))with
     |none=>intro h;exact h.elim
     |some p=>
      obtain⟨ys,w⟩:=p;rintro⟨rfl,hw,e2,e3⟩;simp only;obtain⟨q1,q2⟩:=hq v (by omega);have hl:Zdy (w:Int)=(w:Int):=by unfold Zdy;omega
      have hA:=ZpG (l:=h.cells) (φ:=φ) hE w [query+(v:Nat)] [tvar (v:Nat)] ⟨q2,trivial⟩ (by intro t ht;simp only[List.mem_singleton]at ht;subst ht;exact .var _ (by omega) (by omega));have ht:ZaJ h (query+(v:Nat)) (w:Int)=Zeb (w:Int) (rd1 h.cells w (query+(v:Nat))):=by rw[ZaJ,if_neg (not_not_intro hg),if_neg (not_not_intro q1),hl,Int.toNat_natCast]
      rw[ht];unfold rd1;simp only[List.map_cons,List.map_nil];have hle:=ZgP h.cells w [query+(v:Nat)];revert hA hle;cases rdL h.cells w [query+(v:Nat)]with
       |none=>cases flL E w [tvar (v:Nat)]with|none=>intro _ _;simp only[Zeb];trivial|some p=>intro h;exact h.elim
       |some p=>
        obtain⟨zs,w1⟩:=p;cases flL E w [tvar (v:Nat)]with
         |none=>intro h;exact h.elim
         |some p=>
          obtain⟨us,w2⟩:=p;rintro⟨rfl,d2,d3⟩hle;obtain⟨h1,h2⟩:=hle zs w1 rfl;match zs,h2,d2,d3 with
           |[z],_,d2,d3=>
            simp only[Zeb,ne_eq,not_true_eq_false,if_false];refine⟨by omega,by omega,by rw[e2,d2,List.map_append],fun x hx=>?_⟩;rcases List.mem_append.1 hx with hx|hx;·exact e3 x hx
            ·exact d3 x hx
theorem Zg6(hP:GoodP P)(S:Sim P q m s [])(hqv:(q:Int)<=s.vars)(hout:s.out.length<=11):Both q (ZbI P q m) (match Zby q s with|(false,s')=>(.off,s')|(true,s')=>ZcB P s'.choices s'):=by
 obtain⟨hok,hgls,S⟩:=S;obtain⟨φ,hM,hq,hch⟩:=S.cur;have ht:=Zkg S.good hok.env hqv hq q (zL _);unfold ZbI Zby;revert ht;cases Zde m.h m.query q with
  |none=>cases flL s.env 200 ((List.range q).map fun i=>tvar (i:Nat))with|none=>intro _;show m.out++_=s.out++_;rw[S.out]|some p=>intro h;exact h.elim
  |some p=>
   obtain⟨xs,left⟩:=p;cases flL s.env 200 ((List.range q).map fun i=>tvar (i:Nat))with
    |none=>intro h;exact h.elim
    |some p=>
     obtain⟨ys,w⟩:=p;rintro⟨-, -,e2,e3⟩;simp only;rw[Zl3 hM e2 e3,S.out];by_cases h12:(s.out++[(⟨1,tidy xs⟩:Ev)]).length≥12;·rw[if_pos h12,if_pos h12];show _++_=_++_;rfl
     ·rw[if_neg h12,if_neg h12];simp only;refine ZfL hP _ _ _ _ ⟨?_,S.good,S.fuel,rfl,S.chc,fun c hc=>?_,?_⟩ hqv;·obtain⟨h1,h2,h3,h4,h5,h6,h7,h8⟩:=hok;exact⟨h1,h2,h3,h4,h5,h6,h7,h8⟩
      ·have :=S.pots c hc;rw[S.out]at this;unfold ZbO at this ⊢;simp only[List.length_append,List.length_singleton]at h12 ⊢;omega
      ·have :=S.gcnt;rw[S.out]at this;unfold ZeM at this ⊢;simp only[List.length_append,List.length_singleton]at h12 ⊢;omega
end
inductive Vis (gs : List Gm) (l : List Ce) : Nat → Prop where
  | mk (i : Nat) : i < gs.length → Inb l ((gs[i]?).getD default).at_ → ((gs[i]?).getD default).next < i → (0 ≤ ((gs[i]?).getD default).next → Vis gs l ((gs[i]?).getD default).next.toNat) → Vis gs l i
theorem ZdG{N:Int}{l l':List Ce}{φ:Int->Int}{E:Env}{gs:List Gm}(hl:∀a,Inb l' a->Inb l a):∀(gl:List Gl)(n:Int),Chain N l' φ E gs n gl->0<=n->Vis gs l n.toNat|[],n,h,h0=>by have :n= -1:=h;omega|g::r,n,⟨k,h1,h2,h3,h4,h5,h6⟩,h0=>by subst h1;rw[Int.toNat_natCast];exact .mk k h2 (hl _ h4.inb) (by omega) fun h=>ZdG hl r _ h6 h
def Clo(gs:List Gm)(vis:List Nat):Prop:=∀i∈vis,((gs[i]?).getD default).next<0\/((gs[i]?).getD default).next.toNat∈vis
section
variable {gs : List Gm} {l : List Ce}
theorem Zkh:∀(k:Nat)(n:Int)(vis:List Nat),(0<=n->n.toNat<k)->(0<=n->Vis gs l n.toNat)->(∀i∈vis,Vis gs l i)->(∀i∈vis,((gs[i]?).getD default).next<0\/((gs[i]?).getD default).next.toNat∈vis\/((gs[i]?).getD default).next=n)->Clo gs (Zbl gs k n vis)/\(∀i∈vis,i∈Zbl gs k n vis)/\(0<=n->n.toNat∈Zbl gs k n vis)/\∀i∈Zbl gs k n vis,Vis gs l i
 |0,n,vis,hk,hn,hv,hc=>by
  rw[Zbl];refine⟨fun i hi=>?_,fun i hi=>hi,fun h=>absurd (hk h) (Nat.not_lt_zero _),hv⟩;rcases hc i hi with h|h|h;·exact .inl h
  ·exact .inr h
  ·have :¬0<=n:=fun h0=>absurd (hk h0) (Nat.not_lt_zero _);exact .inl (by omega)
 |k+1,n,vis,hk,hn,hv,hc=>by
  rw[Zbl];by_cases h:n<0\/n.toNat∈vis
  ·rw[if_pos h];refine⟨fun i hi=>?_,fun i hi=>hi,fun h0=>h.elim (fun h=>by omega) id,hv⟩;rcases hc i hi with h1|h1|h1;·exact .inl h1
   ·exact .inr h1
   ·rcases h with h|h;·exact .inl (by omega)
    ·exact .inr (by rw[h1];exact h)
  ·rw[if_neg h];have h0:0<=n:=by omega
   have hvn:=hn h0;have hlt:=hk h0;cases hvn with
    |mk _ v1 v2 v3 v4=>
     obtain⟨c1,c2,c3,c4⟩:=Zkh k ((gs[n.toNat]?).getD default).next (vis++[n.toNat]) (fun h=>by omega) v4 (fun i hi=>by
      rcases List.mem_append.1 hi with hi|hi;·exact hv i hi
      ·simp only[List.mem_singleton]at hi;subst hi;exact .mk _ v1 v2 v3 v4) (fun i hi=>by
      rcases List.mem_append.1 hi with hi|hi
      ·rcases hc i hi with h1|h1|h1;·exact .inl h1
       ·exact .inr (.inl (by simp[h1]))
       ·exact .inr (.inl (by simp[h1]))
      ·simp only[List.mem_singleton]at hi;subst hi;exact .inr (.inr rfl));exact⟨c1,fun i hi=>c2 i (by simp[hi]),fun _=>c2 _ (by simp),c4⟩
theorem Zgr:∀(ns:List Int)(vis:List Nat),(∀n∈ns,0<=n->Vis gs l n.toNat)->(∀i∈vis,Vis gs l i)->Clo gs vis->Clo gs (ns.foldl (fun vis n=>Zbl gs (gs.length+1) n vis) vis)/\(∀i∈vis,i∈ns.foldl (fun vis n=>Zbl gs (gs.length+1) n vis) vis)/\(∀n∈ns,0<=n->n.toNat∈ns.foldl (fun vis n=>Zbl gs (gs.length+1) n vis) vis)/\∀i∈ns.foldl (fun vis n=>Zbl gs (gs.length+1) n vis) vis,Vis gs l i
 |[],vis,_,hv,hc=>⟨hc,fun _ h=>h,by simp,hv⟩
 |n::ns,vis,hn,hv,hc=>by
  have hvn:=hn n (by simp);obtain⟨c1,c2,c3,c4⟩:=Zkh (gs.length+1) n vis (fun h0=>by cases hvn h0 with|mk _ h=>omega) hvn hv (fun i hi=>(hc i hi).imp id .inl);obtain⟨d1,d2,d3,d4⟩:=Zgr ns (Zbl gs (gs.length+1) n vis) (fun x hx=>hn x (by simp[hx])) c4 c1;rw[List.foldl_cons];refine⟨d1,fun i hi=>d2 i (c2 i hi),fun x hx h0=>?_,d4⟩;rcases List.mem_cons.1 hx with rfl|hx;·exact d2 _ (c3 h0)
  ·exact d3 x hx h0
end
theorem Chain.gc{N:Int}{l l':List Ce}{φ φ':Int->Int}{E E':Env}{gs gs':List Gm}{vis:List Nat}(hc:Clo gs vis)(hlen:gs'.length=gs.length)(hgs:∀i∈vis,((gs'[i]?).getD default).bar=((gs[i]?).getD default).bar/\((gs'[i]?).getD default).next=((gs[i]?).getD default).next)(hG:∀i∈vis,∀t,GoalAt N l φ E ((gs[i]?).getD default).at_ t->GoalAt N l' φ' E' ((gs'[i]?).getD default).at_ t):∀(gl:List Gl)(n:Int),(0<=n->n.toNat∈vis)->Chain N l φ E gs n gl->Chain N l' φ' E' gs' n gl
 |[],n,_,h=>h
 |g::r,n,hv,⟨k,h1,h2,h3,h4,h5,h6⟩=>by
  subst h1;have hk:k∈vis:=by have :=hv (zN _);rwa[Int.toNat_natCast]at this
  obtain⟨a1,a2⟩:=hgs k hk;refine⟨k,rfl,by omega,by rw[a1];exact h3,hG k hk _ h4,by rw[a2];exact h5,?_⟩;rw[a2];exact Chain.gc hc hlen hgs hG r _ (fun h0=>(hc k hk).elim (fun h=>by omega) id) h6
theorem Zmb{m:List Bool}{a:Nat}:∀(v:Nat),(∀i,i<v->m[a+i]?=some true)->cnt m (a+v)=cnt m a+v|0,_=>rfl|v+1,h=>by have ih:=Zmb (m:=m) (a:=a) v (fun i hi=>h i (by omega));rw[<-Nat.add_assoc,cnt,if_pos (h v (by omega)),ih];omega
theorem Zg7{m:List Bool}:∀k,cnt m k<=k:=ZcA m
section
variable {P : List Cl} {q : Nat} {m : Mv} {s : Sv} {gl : List Gl}
theorem Zg8{h:Hp}{roots tops mks:List Int}(hg:h.Good)(hr:∀r∈roots,Inb h.cells r):Za3 h roots tops mks=⟨gcH h roots,roots.map (ahead (marks h.cells roots)),tops.map (ahead (marks h.cells roots)),mks.map (ahead (Zan (marks h.cells roots) h.trail)),0⟩:=by rw[Za3,if_neg (not_not_intro hg),if_neg (not_not_intro hr)]
theorem Zgs(S:Sim P q m s gl):Sim P q (ZbW q m) s gl:=by
 obtain⟨hok,hgls,S⟩:=S;refine⟨hok,hgls,?_⟩;obtain⟨φ,hM,hq,hch⟩:=S.cur;have hst:∀n∈ZaU m,0<=n->Vis m.goals m.h.cells n.toNat:=by
  intro n hn h0;unfold ZaU at hn;rcases List.mem_append.1 hn with hn|hn;·obtain⟨c,hc,rfl⟩:=List.mem_map.1 hn;obtain⟨d,hd,k⟩:=S.chc.mem c (List.mem_reverse.1 hc);obtain⟨φ', -, -,k3⟩:=k.snap;refine ZdG (fun a ha=>?_) _ _ k3 h0;have :=Zcp (h:=m.h) c.top c.trail k.top;have :=k.top;unfold Inb at ha ⊢;omega
  ·simp only[List.mem_singleton]at hn;subst hn;exact ZdG (fun _ h=>h) _ _ hch h0
 obtain⟨vis,hvis⟩:∃vis,vis=Zbv m.goals (ZaU m):=⟨_,rfl⟩;obtain⟨hclo, -,hsv,hvv⟩:=Zgr (l:=m.h.cells) (ZaU m) [] hst (by simp) (by intro i hi;cases hi);have hnd:(ZaU m).foldl (fun vis n=>Zbl m.goals (m.goals.length+1) n vis) []=vis:=hvis.symm;rw[hnd]at hclo hsv hvv;have hroots:Zbm q m=((List.range q).map fun v=>m.query+(v:Nat))++vis.map fun i=>(ZaP m i).at_:=by rw[hvis];rfl
 obtain⟨roots,hrt⟩:∃roots,roots=Zbm q m:=⟨_,rfl⟩;have hri:∀r∈roots,Inb m.h.cells r:=by
  intro r hr;rw[hrt,hroots]at hr;rcases List.mem_append.1 hr with hr|hr;·obtain⟨v,hv,rfl⟩:=List.mem_map.1 hr;exact(hq v (List.mem_range.1 hv)).1
  ·obtain⟨i,hi,rfl⟩:=List.mem_map.1 hr;cases hvv i hi with|mk _ h1 h2=>exact h2
 have hrp:∀r∈roots,RP m.h roots r:=fun r hr=>by obtain⟨h0,h1⟩:=hri r hr;obtain⟨k,rfl⟩:=Int.eq_ofNat_of_zero_le h0;exact RP.of (.root hr (by omega))
 have hqr:∀v:Nat,v<q->RP m.h roots (m.query+(v:Nat)):=fun v hv=>hrp _ (by rw[hrt,hroots];exact List.mem_append_left _ (List.mem_map.2 ⟨v,List.mem_range.2 hv,rfl⟩));have hgr:∀i∈vis,RP m.h roots (ZaP m i).at_:=fun i hi=>hrp _ (by rw[hrt,hroots];exact List.mem_append_right _ (List.mem_map.2 ⟨i,hi,rfl⟩));have hqa:∀v:Nat,v<q->ahead (marks m.h.cells roots) (m.query+(v:Nat))=ahead (marks m.h.cells roots) m.query+(v:Nat):=fun v hv=>by
  have h0:=(hq 0 (by omega)).1.1;simp only[Int.natCast_zero,Int.add_zero]at h0;obtain⟨a,ha⟩:=Int.eq_ofNat_of_zero_le h0;rw[ha,Zbr,show((a:Nat):Int)+(v:Nat)=((a+v:Nat):Int)by omega,Zbr];have :=Zmb (m:=marks m.h.cells roots) (a:=a) v (fun i hi=>by
   have h1:=hqr i (by omega);rw[ha]at h1;obtain⟨k,e,hk,hr⟩:=h1.nat S.good.1;have :k=a+i:=by omega
   subst this;exact(Zbk hk).2 hr);omega
 have hqn:q>0->(((Zbm q m).map (ahead (marks m.h.cells roots)))[0]?).getD 0=ahead (marks m.h.cells roots) m.query:=fun h=>by rw[hroots];obtain⟨q',rfl⟩:∃q',q=q'+1:=⟨q - 1,by omega⟩;rw[List.range_succ_eq_map];simp
 have hrm:roots.map (ahead (marks m.h.cells roots))=(((List.range q).map fun v=>m.query+(v:Nat))++vis.map fun i=>(ZaP m i).at_).map (ahead (marks m.h.cells roots)):=congrArg (List.map _) (hrt.trans hroots);have hcol:=Zg8 (tops:=m.choices.reverse.map fun c=>(c.top:Int)) (mks:=m.choices.reverse.map fun c=>(c.trail:Int)) S.good hri;obtain⟨qn,hqn'⟩:∃qn:Int,qn=if q>0 then ahead (marks m.h.cells roots) m.query else m.query:=⟨_,rfl⟩;obtain⟨gs',hgs'⟩:∃gs':List Gm,gs'=m.goals.mapIdx fun i g=>if i∈vis then{g with at_:=ahead (marks m.h.cells roots) g.at_}else g:=⟨_,rfl⟩;obtain⟨cs',hcs'⟩:∃cs':List Cm,cs'=m.choices.map fun x=>{x with top:=cnt (marks m.h.cells roots) x.top,trail:=cnt (Zan (marks m.h.cells roots) m.h.trail) x.trail}:=⟨_,rfl⟩;have hres:ZbW q m={m with h:=gcH m.h roots,query:=qn,goals:=gs',choices:=cs'}:=by
  unfold ZbW;rw[<-hrt,hcol];simp only[ne_eq,not_true_eq_false,if_false,Mv.mk.injEq,true_and,and_true];refine⟨?_,?_,?_⟩
  ·rw[hgs',<-hvis];apply List.ext_getElem (by simp);intro i h1 h2;simp only[List.getElem_mapIdx];by_cases hi:i∈vis;·rw[if_pos hi,if_pos hi];congr 1;have hx:vis.idxOf i<vis.length:=List.idxOf_lt_length_iff.2 hi;rw[hrm,List.map_append,List.getElem?_append_right (by simp),List.length_map,List.length_map,List.length_range,Nat.add_sub_cancel_left,List.getElem?_map,List.getElem?_map,List.getElem?_eq_getElem hx,List.getElem_idxOf hx];simp only[Option.map_some,Option.getD_some,ZaP];rw[List.getElem?_eq_getElem (by simpa using h1)];rfl
   ·rw[if_neg hi,if_neg hi]
  ·rw[hcs'];have e:(m.choices.reverse.mapIdx fun i x=>({x with top:=((((m.choices.reverse.map fun c=>(c.top:Int)).map (ahead (marks m.h.cells roots)))[i]?).getD 0).toNat,trail:=((((m.choices.reverse.map fun c=>(c.trail:Int)).map (ahead (Zan (marks m.h.cells roots) m.h.trail)))[i]?).getD 0).toNat}:Cm))=(m.choices.map fun x=>({x with top:=cnt (marks m.h.cells roots) x.top,trail:=cnt (Zan (marks m.h.cells roots) m.h.trail) x.trail}:Cm)).reverse:=by
    rw[<-List.map_reverse];apply List.ext_getElem (by simp);intro i h1 h2;have hl:i<m.choices.reverse.length:=by simpa using h1
    simp only[List.getElem_mapIdx,List.getElem_map,List.getElem?_map,List.getElem?_eq_getElem hl,Option.map_some,Option.getD_some,Zbr,Int.toNat_natCast]
   rw[e,List.reverse_reverse]
  ·rw[hqn'];by_cases h:q>0;·rw[if_pos h,if_pos h,hrt];rw[hrt]at hqn;exact hqn h
   ·rw[if_neg h,if_neg h]
 have hqq:∀v:Nat,v<q->qn+(v:Nat)=ahead (marks m.h.cells roots) (m.query+(v:Nat)):=fun v hv=>by rw[hqa v hv,hqn',if_pos (by omega)]
 have hgl:gs'.length=m.goals.length:=by rw[hgs'];simp
 have hgat:∀i,i<m.goals.length->(gs'[i]?).getD default=if i∈vis then{(m.goals[i]?).getD default with at_:=ahead (marks m.h.cells roots) ((m.goals[i]?).getD default).at_}else(m.goals[i]?).getD default:=fun i hi=>by rw[hgs',List.getElem?_mapIdx,List.getElem?_eq_getElem hi];rfl
 have hvl:∀i∈vis,i<m.goals.length:=fun i hi=>by cases hvv i hi with|mk _ h1=>exact h1
 have hgsv:∀i∈vis,((gs'[i]?).getD default).bar=((m.goals[i]?).getD default).bar/\((gs'[i]?).getD default).next=((m.goals[i]?).getD default).next:=fun i hi=>by rw[hgat i (hvl i hi),if_pos hi];exact⟨rfl,rfl⟩
 have hgsa:∀i∈vis,((gs'[i]?).getD default).at_=ahead (marks m.h.cells roots) ((m.goals[i]?).getD default).at_:=fun i hi=>by rw[hgat i (hvl i hi),if_pos hi]
 have goalMor:∀{l l':List Ce}{T:Int->Prop}{φ1:Int->Int}{E1:Env}(hmor:Mor l l' T (ahead (marks m.h.cells roots)))(hall:∀a t,T a->Hr l φ1 E1 (fun _=>True) a t->Hr l' (fun y=>φ1 (ZkY T (ahead (marks m.h.cells roots)) y)) E1 (fun _=>True) (ahead (marks m.h.cells roots) a) t)(a:Int)(t:Tm),T a->GoalAt s.vars l φ1 E1 a t->GoalAt s.vars l' (fun y=>φ1 (ZkY T (ahead (marks m.h.cells roots)) y)) E1 (ahead (marks m.h.cells roots) a) t:=by intro l l' T φ1 E1 hmor hall a t hT k;refine⟨(hmor.inb a hT).2,?_,k.goal,k.tin,hall a t hT k.tells⟩;rw[hmor.cell a hT];unfold mvC;rw[if_neg k.kind];exact k.cell
 rw[hres];have hgm:=Zn7 (roots:=roots) S.good;obtain⟨hMall,hHall⟩:=hgm.all (Zpb (roots:=roots) S.good) hM;have hclen:(gcH m.h roots).cells.length<=m.h.cells.length:=by show(Zfo _ _ _).length<=_;rw[Zbh];exact ZcA _ _
 have htlen:(gcH m.h roots).trail.length<=m.h.trail.length:=by show(Zfx _ _ _).length<=_;rw[ZbC];exact ZcA _ _
 refine⟨ZjG S.good,S.fuel,S.out,by have :=S.tr;simp only;omega,?_,?_,by have :=S.pot;simp only;omega,fun c hc=>?_,by have :=S.gcnt;simp only;rw[hgl];exact this⟩
 ·refine⟨_,hMall,fun v hv=>?_,?_⟩;·simp only;rw[hqq v hv];exact⟨(hgm.inb _ (hqr v hv)).2,hHall _ _ (hqr v hv) (hq v hv).2⟩
  ·refine Chain.gc hclo hgl hgsv (fun i hi t k=>?_) gl m.now (fun h0=>hsv _ (by unfold ZaU;simp) h0) hch;rw[hgsa i hi];exact goalMor hgm hHall _ _ (hgr i hi) k
 ·have hone:∀c d,c∈m.choices->ChR m.h s.env s.vars q m.query m.goals c d->ChR (gcH m.h roots) s.env s.vars q qn gs' {c with top:=cnt (marks m.h.cells roots) c.top,trail:=cnt (Zan (marks m.h.cells roots) m.h.trail) c.trail} d:=fun c d hc k=>by
   obtain⟨omor,osur⟩:=ZlT (roots:=roots) S.good k.top k.tr k.good;obtain⟨φ1,k1,k2,k3⟩:=k.snap;obtain⟨oM,oH⟩:=omor.all osur k1;have hol:=Zcp (h:=m.h) c.top c.trail k.top;refine⟨k.from_,?_,?_,Nat.le_trans (ZcA _ _) k.tre,k.dtr,Znk S.good k.top k.tr k.good,⟨_,oM,fun v hv=>?_,?_⟩⟩;·show cnt _ c.top<=(Zfo _ _ _).length;rw[Zbh];exact ZcS k.top
   ·show cnt _ c.trail<=(Zfx _ _ _).length;rw[ZbC];exact ZcS k.tr
   ·obtain⟨i1,i2⟩:=k2 v hv;have hT:RP m.h roots (m.query+(v:Nat))/\m.query+(v:Nat)<(c.top:Int):=⟨hqr v hv,by have :=i1.2;omega⟩;rw[hqq v hv];exact⟨(omor.inb _ hT).2,oH _ _ hT i2⟩
   ·refine Chain.gc hclo hgl hgsv (fun i hi t kk=>?_) d.g (c.goal:Int) (fun h0=>hsv _ (by unfold ZaU;exact List.mem_append_left _ (List.mem_map.2 ⟨c,List.mem_reverse.2 hc,rfl⟩)) h0) k3;rw[hgsa i hi];exact goalMor omor oH _ _ ⟨hgr i hi,by have :=kk.inb.2;omega⟩ kk
  simp only;rw[hcs'];have hlist:∀(cs:List Cm)(ds:List Chc),(∀c∈cs,c∈m.choices)->ChsR m.h s.env s.vars q m.query m.goals cs ds->ChsR (gcH m.h roots) s.env s.vars q qn gs' (cs.map fun x=>{x with top:=cnt (marks m.h.cells roots) x.top,trail:=cnt (Zan (marks m.h.cells roots) m.h.trail) x.trail}) ds:=by intro cs;induction cs with
   |nil=>intro ds _ h;cases ds with|nil=>trivial|cons d ds=>exact h.elim
   |cons c cs ih=>intro ds hm h;cases ds with|nil=>exact h.elim|cons d ds=>refine⟨hone c d (hm c (by simp)) h.1,fun x hx=>?_,ih ds (fun x hx=>hm x (by simp[hx])) h.2.2⟩;obtain⟨y,hy,rfl⟩:=List.mem_map.1 hx;obtain⟨h1,h2⟩:=h.2.1 y hy;exact⟨ZcS h1,ZcS h2⟩
  exact hlist _ _ (fun _ h=>h) S.chc
 ·rw[hcs']at hc;obtain⟨x,hx,rfl⟩:=List.mem_map.1 hc;have :=S.pots x hx;have :=ZcA (marks m.h.cells roots) x.top;simp only;omega
end
theorem Zgt{P:List Cl}{q:Nat}{s s':Sv}(h:SvOk P s)(e:Zby q s=(true,s')):SvOk P s'/\s'.out.length=s.out.length+1/\s'.out.length<=11/\s'.vars=s.vars:=by
 unfold Zby at e;split at e;·simp at e
 ·simp only at e;split at e;·simp at e
  ·rename_i hlt;simp only[Prod.mk.injEq,true_and]at e;subst e;obtain⟨h1,h2,h3,h4,h5,h6,h7,h8⟩:=h;simp only[List.length_append,List.length_singleton]at hlt ⊢;exact⟨⟨h1,h2,h3,h4,h5,h6,h7,h8⟩,trivial,by omega,trivial⟩
theorem ZeN{P:List Cl}:∀(cs:List Cm)(m:Mv),(Zcs P cs m).1≠ .no
 |[],m=>by rw[Zcs];simp
 |c::cs,m=>by
  rw[Zcs];have ih:=ZeN (P:=P) cs;split;·exact ih _
  ·rename_i r hne;generalize Zbs P c.goal (ZaP m c.goal) (P.length - c.from_) c.from_ {m with choices:=cs,h:=(ZiI (Zd7 m.h (c.trail:Int)).1 (c.top:Int)).1}=r at*;obtain⟨a,b⟩:=r;intro e;simp only at e;subst e;exact hne b rfl
theorem Zmc{P:List Cl}(m:Mv):(ZcC P m).1≠ .no:=by
 unfold ZcC;split;·simp
 ·simp only;split
  ·split;·simp
   ·simp
   ·exact ZeN _ _
  ·split;·simp
   ·split;·exact ZeN _ _
    ·rename_i hne;intro e;exact hne _ (Prod.ext e rfl)
theorem Zi9{P:List Cl}{q:Nat}(m:Mv):(ZbI P q m).1≠ .no:=by
 unfold ZbI;split;·simp
 ·simp only;split;·simp
  ·exact ZeN _ _
theorem Zja{P:List Cl}{q:Nat}(hP:GoodP P)(fuel every:Int):∀(n:Nat)(m:Mv)(s:Sv)(gl:List Gl),Sim P q m s gl->(q:Int)<=s.vars->s.out.length<=11->(Zk3 P q fuel every n m).out=(ZjQ P q n gl s).out
 |0,m,s,gl,S,_,_=>by rw[Zk3,ZjQ];exact S.sim.out
 |n+1,m,s,[],S,hqv,hout=>by
  have hnow:m.now<0:=by obtain⟨φ, -, -,h⟩:=S.sim.cur;have :m.now= -1:=h;omega
  rw[Zk3,ZjQ,if_pos hnow];have hA:=Zg6 hP S hqv hout;have hok2:=fun s'(e:Zby q s=(true,s'))=>Zgt S.ok e;have hyes:=Zi9 (P:=P) (q:=q) m;generalize ZbI P q m=rm at*;obtain⟨ra,m'⟩:=rm;cases ha:Zby q s with|mk b s'=>rw[ha]at hA hok2;cases b with
   |false=>simp only at hA ⊢;cases ra with|next=>exact hA.elim|no=>exact hA.elim|off=>exact hA
   |true=>simp only at hA ⊢;obtain⟨a1,a2,a3,a4⟩:=hok2 s' rfl;have hbn:=fun s'' gl(e:ZcB P s'.choices s'=(.next gl,s''))=>Zcu s'.choices s' s'' gl a1 e;generalize ZcB P s'.choices s'=rs at*;obtain⟨rb,s''⟩:=rs;cases ra with
    |next=>cases rb with|next gl=>obtain⟨b1,b2,b3,b4,b5⟩:=hbn s'' gl rfl;exact Zja hP fuel every n m' s'' gl ⟨b1,b2,hA⟩ (by omega) (by rw[b4];exact a3)|no=>exact hA.elim|off=>exact hA.elim
    |no=>cases rb with|next gl=>exact hA.elim|no=>exact absurd rfl hyes|off=>exact hA.elim
    |off=>cases rb with|next gl=>exact hA.elim|no=>exact hA.elim|off=>exact hA
 |n+1,m,s,g::rest,S,hqv,hout=>by
  have hnow:¬m.now<0:=by obtain⟨φ, -, -,k,h, -⟩:=S.sim.cur;omega
  rw[Zk3,ZjQ,if_neg hnow];have S2:Sim P q (if every>0/\(fuel - m.fuel)%every=0 then ZbW q m else m) s (g::rest):=by
   split;·exact Zgs S
   ·exact S
  generalize(if every>0/\(fuel - m.fuel)%every=0 then ZbW q m else m)=m2 at*;have hA:=Zkf hP S2 hqv;have hsn:=fun s' gl(e:ZeB P g rest s=(.next gl,s'))=>Ze7 S.ok S.gls e;have hyes:=Zmc (P:=P) m2;generalize ZcC P m2=rm at*;generalize ZeB P g rest s=rs at*;obtain⟨ra,m'⟩:=rm;obtain⟨rb,s'⟩:=rs;cases ra with
   |next=>cases rb with|next gl=>obtain⟨b1,b2,b3,b4,b5⟩:=hsn s' gl rfl;exact Zja hP fuel every n m' s' gl ⟨b1,b2,hA⟩ (by omega) (by rw[b4];exact hout)|no=>exact hA.elim|off=>exact hA.elim
   |no=>cases rb with|next gl=>exact hA.elim|no=>exact absurd rfl hyes|off=>exact hA.elim
   |off=>cases rb with|next gl=>exact hA.elim|no=>exact hA.elim|off=>exact hA
theorem Zgu{Q:List Tm}{n:Nat}(hg:ZbQ Q (n:Int))(F:List Ce)(hF:F=(Zak (ZaR n) Q).1):F.length<=296/\n<=F.length/\GoodC F/\Zft F n/\NF n F/\∀(j:Nat)(hj:j<Q.length),∃a:Nat,(Zak (ZaR n) Q).2[j]?=some (a:Int)/\Laid F id (a:Int) Q[j]/\F[a]?=some ⟨Q[j].kind,(Q[j].args.length:Int),Q[j].s⟩:=by
 obtain⟨v0,v8,l5,lg⟩:=hg;have hnd:=ZdB Q (fun g hg=>(lg g hg).2.2);have h2:=ZbA Q (ZaR n);rw[ZaQ,<-hF]at h2;have hlg:∀t∈Q,t.Good (n:Int):=fun t ht=>(lg t ht).2.1;have hva:Zft F n:=fun i hi=>by rw[hF,Zcx Q _ i (by rw[ZaQ];exact hi)];exact Zio n i hi
 obtain⟨n3,n4⟩:=ZfK n Q (ZaR n) (fun t ht=>⟨(lg t ht).1,hlg t ht⟩) (Zi6 n) (by rw[ZaQ];exact zL _);have hla:=Zfd n F hva Q (ZaR n) hlg (by rw[ZaQ];exact zL _) (fun i hi hil=>by rw[hF]);rw[<-hF]at n3 n4;refine⟨by omega,h2.1,?_,hva,n3,fun j hj=>?_⟩
 ·by_cases h0:F.length=0;·intro i hi;omega
  ·have hok:=Zfe (v:=n) (N:=F.length) h2.1 (by omega) Q (ZaR n) hlg (ZlZ h2.1) (by rw[<-hF];exact zL _);rw[<-hF]at hok;intro i hi;exact hok i _ (List.getElem?_eq_getElem hi)
 ·obtain⟨a,e1,e2⟩:=n4 j hj;obtain⟨a',f1,f2⟩:=hla j hj;rw[e1]at f1;obtain rfl:=Option.some.inj f1;exact⟨a,e1,f2,e2⟩
theorem Zjb{v:Int}{t:Tm}(h:t.Good v)(hv:v<=8):Za1 t 0=t:=by
 unfold Za1;induction h with
  |var n h0 h1=>simp[Tm.ren,Tm.renL,ZgY h0 (show n<1099511627776 by omega),ZgY (show(0:Int)<=0 by omega) (show(0:Int)<1099511627776 by omega)]
  |atom s h=>simp[Tm.ren,Tm.renL]
  |int n h0 h1=>simp[Tm.ren,Tm.renL]
  |comp s l h h1 h2 h3 _ ih=>
   simp only[Tm.ren,Tm.renL_map,show ¬((3:Int)=0)by decide,if_false,Tm.mk.injEq,true_and];conv=>rhs;rw[<-List.map_id l]
   exact List.map_congr_left fun x hx=>ih x hx
theorem Ziv{P:List Cl}{Q:List Tm}{n f:Nat}(hP:GoodP P)(hQ:ZbQ Q (n:Int))(hf:f<=150):Sim P n (ZdD Q (n:Int) f) ⟨[],[],(n:Int),f,[]⟩ (Q.map fun t=>⟨t,0⟩):=by
 obtain⟨hok,hgl⟩:=Zkb (f:=f) hP hQ hf;refine⟨hok,hgl,?_⟩;obtain⟨F,hF⟩:∃F,F=(Zak (ZaR n) Q).1:=⟨_,rfl⟩;obtain⟨b1,b2,b3,b4,b5,b6⟩:=Zgu hQ F hF;have hcells:(Zay Q (n:Int)).cells=F:=by rw[hF];simp[Zay]
 have hgoals:(Zay Q (n:Int)).goals=(Zak (ZaR n) Q).2:=by simp[Zay]
 have h0g:Hp.Good ⟨[],[]⟩:=⟨fun i hi=>by simp at hi,fun j hj=>by simp at hj,by simp,by simp⟩;have hld:=Zhx (h:=⟨[],[]⟩) (F:=F) h0g b3 (by simp only[List.length_nil];omega);have hg1:=Zgk (h:=⟨[],[]⟩) (F:=F) h0g b3 (by simp only[List.length_nil];omega);simp only[List.length_nil,Int.natCast_zero]at hld hg1;have hM0:Mon 0 [] (fun x=>x) []:=⟨fun x y hx=>by have :=hx.1;unfold Inb at this;simp at this;omega,fun x hx=>by have :=hx.1;unfold Inb at this;simp at this;omega,fun x _=>rfl⟩;have hM1:=Zhv hM0 (EnvOk.nil 0) (Int.le_refl _) b5;rw[Int.zero_add]at hM1;simp only[List.length_nil]at hM1;have hφ:∀k:Int,0<=k->k<(n:Int)->Zgl [] 0 (fun x=>x) (k+0)=0+k:=fun k h0 h1=>by unfold Zgl;simp only[List.length_nil];rw[if_neg (by omega)];omega
 have tell:∀(t:Tm)(a:Int),t.Good (n:Int)->Laid F id a t->Hr ([]++F.map (shC 0)) (Zgl [] 0 (fun x=>x)) [] (fun _=>True) (0+a) t:=fun t a ht ha=>by have h1:=Zg1 (H:=[]) t a ha;have :=Zl0 (v:=(n:Int)) (φ:=Zgl [] 0 (fun x=>x)) (EnvOk.nil 0) (Int.le_refl _) (by omega) hQ.2.1 hφ t _ ht h1;rw[Zjb ht hQ.2.1,Int.add_comm]at this;exact this
 have hgat:∀(j:Nat)(hj:j<Q.length),∃a,(Zak (ZaR n) Q).2[j]?=some a/\GoalAt (n:Int) ([]++F.map (shC 0)) (Zgl [] 0 (fun x=>x)) [] (0+a) Q[j]:=fun j hj=>by obtain⟨a,e1,e2,e3⟩:=b6 j hj;have hgj:=hQ.2.2.2 _ (List.getElem_mem hj);obtain⟨c1,c2⟩:=Zba e3;obtain⟨d1,d2⟩:=Zbp (H:=[]) c2;rw[c1,Zcr _ (by simpa using IsGoal.ne hgj.1),Int.add_comm]at d1;rw[Int.add_comm]at d2;exact⟨(a:Int),e1,d2,d1,hgj.1,hgj.2.1,tell _ _ hgj.2.1 e2⟩
 have hlg:=Za9 Q (ZaR n);obtain⟨p1,p2,p3⟩:=Zff (N:=(n:Int)) (base:=0) (bar:=0) (gs0:=[]) (nx:= -1) (rest:=[]) (by show(-1:Int)= -1;rfl) (Zak (ZaR n) Q).2 Q hlg hgat;rw[List.append_nil]at p1;have hb:ZdD Q (n:Int) f={h:=⟨[]++F.map (shC 0),[]⟩,goals:=(Zbg 0 0 (Zak (ZaR n) Q).2 [] (-1)).1,choices:=[],now:=(Zbg 0 0 (Zak (ZaR n) Q).2 [] (-1)).2,query:=0,fuel:=f,out:=[]}:=by unfold ZdD;simp only[hcells,hgoals,hld]
 rw[hb];refine⟨hg1,rfl,rfl,by simp,⟨_,hM1,fun v hv=>?_,p1⟩,trivial,?_,by simp,?_⟩;·have h1:=b4 v hv;obtain⟨c1,c2⟩:=Zba h1;obtain⟨d1,d2⟩:=Zbp (H:=[]) c2;simp only[List.length_nil,Int.natCast_zero,Int.add_zero]at d1 d2;rw[c1,shC,if_pos rfl]at d1;simp only[Int.natCast_zero,Int.add_zero]at d1;rw[Int.zero_add];have hst:slook [] (tvar (v:Nat))=tvar (v:Nat):=ZaG (.inr rfl);exact⟨d2,.var (.stop d2 (.inr (by rw[d1]))) (by rw[d1]) trivial (by rw[hst];rfl) (by rw[hst];unfold Zgl;simp only[List.length_nil];rw[if_neg (by omega)];show(v:Int)=_;omega)⟩
 ·simp only[List.nil_append,List.length_map,ZbO,List.length_nil];omega
 ·have h5:Q.length<=5:=hQ.2.2.1;simp only[ZdE,hlg,List.length_nil,ZeM];omega
noncomputable def Zcd(P:List Cl)(Q:List Tm)(vars fuel every:Int):List Ev×Int:=haveI :=Classical.propDecidable (GoodP P/\ZbQ Q vars);if ¬(GoodP P/\ZbQ Q vars)then([],1)else if fuel<0\/fuel>150\/every<0 then([],2)else((Zk3 P vars.toNat fuel every (fuel.toNat+14) (ZdD Q vars fuel.toNat)).out,0)
theorem ZeO(P:List Cl)(Q:List Tm)(vars fuel every:Int)(he:0<=every):Zcd P Q vars fuel every=Zda P Q vars fuel:=by
 unfold Zcd;rcases Zcc P Q vars fuel with⟨hn,e⟩|⟨hg,hf,e⟩|⟨hg,h0,h1,e⟩;·rw[e,if_pos hn]
 ·rw[e,if_neg (not_not_intro hg),if_pos (by omega)]
 ·rw[e,if_neg (not_not_intro hg),if_neg (by omega)];obtain⟨n,rfl⟩:=Int.eq_ofNat_of_zero_le hg.2.1;obtain⟨f,rfl⟩:=Int.eq_ofNat_of_zero_le h0;rw[Int.toNat_natCast,Int.toNat_natCast];have :=Zja hg.1 (f:Int) every (f+14) _ _ _ (Ziv (f:=f) hg.1 hg.2 (by omega)) (by simp only;omega) (by simp);rw[this]
end Go.Proofs.YtlpmfkpefoegeacDoor
