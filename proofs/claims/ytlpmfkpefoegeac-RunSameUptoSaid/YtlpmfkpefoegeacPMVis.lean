import Derived.Test.YtlpmfkpefoegeacPMBack
namespace Go.Proofs.Ytlpmfkpefoegeac
set_option maxRecDepth 100000
set_option maxHeartbeats 16000000
set_option linter.all false
section
variable {N : Int} {l : List Ce} {φ : Int → Int} {E : Env}
theorem Zcs{a:Int}{t:Tm}(h:GoalAt N l φ E a t)(hne:t.args≠[]):∀(i:Nat)(hi:i<t.args.length),Hr l φ E (fun _=>True) (a+1+(i:Nat)) t.args[i]:=by
 have hk:t.kind=3:=by
  rcases h.goal with hk|hk;·have :=h.tin;cases this with|var=>cases hk|atom=>exact absurd rfl hne|int=>cases hk|comp=>rfl
  ·exact hk
 have hs:slook E t=t:=Zay (.inl (by rw[hk];decide));have hl:Looks l a a:= .stop h.inb (.inl h.kind);cases h.tells with|var h1 h2 h3 h4 h5=>rw[hs,hk]at h4;simp at h4|leaf h1 h2 h3 h4 h5 h6 h7=>rw[hs,hk]at h4;exact absurd rfl h4|comp h1 h2 h3 h4 h5 h6 h7=>obtain rfl:=hl.fun_ h1;simp only[hs]at h7;exact h7
theorem Zjj{K:Int->Prop}{a:Int}{t:Tm}(h:Hr l φ E K a t):((Zaa l (look l a)).kind=2↔(slook E t).kind=2)/\((slook E t).kind=2->(Zaa l (look l a)).n=(slook E t).n):=by cases h with|var h1 h2 h3 h4 h5=>rw[ZaN h1,h2,h4];exact⟨by decide,fun h=>absurd h (by decide)⟩|leaf h1 h2 h3 h4 h5 h6 h7=>rw[ZaN h1,h2];exact⟨Iff.rfl,fun _=>h5⟩|comp h1 h2 h3 h4 h5 h6 h7=>rw[ZaN h1,h2,h3];exact⟨by decide,fun h=>absurd h (by decide)⟩
end
structure UOut (N : Int) (φ : Int → Int) (h : Hp) (E : Env) (u : Hp) (E' : Env) : Prop where
  good : u.Good
  tr : u.trail.length ≤ E'.length
  len : u.cells.length = h.cells.length
  mon : Mon N u.cells φ E'
  tells : ∀ a x, x.In N → Hr h.cells φ E (fun _ => True) a x → Hr u.cells φ E' (fun _ => True) a x
  cells : ∀ a, Inb h.cells a → (Zaa h.cells a).kind ≠ 0 → Zaa u.cells a = Zaa h.cells a ∧ Inb u.cells a
  old : ∀ top tr, top ≤ h.cells.length → tr ≤ h.trail.length → Zcu u top tr = Zcu h top tr
  trl : h.trail.length ≤ u.trail.length
theorem ZhG{N:Int}{φ:Int->Int}{h:Hp}{E:Env}{a b:Int}{ta tb:Tm}(hg:h.Good)(hE:EnvOk N E)(hN0:0<=N)(hN:N<=40000)(hM:Mon N h.cells φ E)(htr:h.trail.length<=E.length)(ha:Hr h.cells φ E (fun _=>True) a ta)(hb:Hr h.cells φ E (fun _=>True) b tb)(ia:ta.In N)(ib:tb.In N):((uniS 400 [(ta,tb)] E).work<0->(ZaX h a b).2.2≠0)/\(¬(uniS 400 [(ta,tb)] E).work<0->(ZaX h a b).2.2=0/\(ZaX h a b).2.1=(uniS 400 [(ta,tb)] E).ok/\((uniS 400 [(ta,tb)] E).ok=false->(ZaX h a b).1=h)/\((uniS 400 [(ta,tb)] E).ok=true->UOut N φ h E (ZaX h a b).1 (uniS 400 [(ta,tb)] E).env)):=by
 have hia:Inb h.cells a:=by obtain⟨x,hx⟩:=ha.looks;exact hx.start
 have hib:Inb h.cells b:=by obtain⟨x,hx⟩:=hb.looks;exact hx.start
 have hIs:∀p∈[(ta,tb)],p.1.In N/\p.2.In N:=by intro p hp;simp only[List.mem_singleton]at hp;subst hp;exact⟨ia,ib⟩
 have U:=Zi9 (N:=N) 400 [(a,b)] [(ta,tb)] h.cells E h.trail hE hM ⟨⟨ha,hb⟩,trivial⟩ hIs;have hUE:=Zcd (N:=N) 400 [(ta,tb)] E hE hIs;have hUB:=Zdz 400 [(a,b)] h.cells h.trail;rw[Zjg hg hia hib];generalize uniL 400 [(a,b)] h.cells h.trail=u at U hUB ⊢;generalize uniS 400 [(ta,tb)] E=u' at U hUE ⊢;refine⟨fun hw=>by rw[if_pos (show u.work<0 by rw[U.work];exact hw)];simp,fun hw=>?_⟩;rw[if_neg (show ¬u.work<0 by rw[U.work];exact hw)];by_cases hok:u'.ok=false;·rw[if_pos (show u.ok=false by rw[U.ok];exact hok),hok];exact⟨rfl,rfl,fun _=>rfl,fun h=>by simp at h⟩
 have hok':u.ok=true:=by rw[U.ok];simpa using hok
 rw[if_neg (show ¬u.ok=false by rw[hok'];decide)];obtain⟨vs,t1,t2,t3⟩:=U.trail hok';obtain⟨vs',t1',hB, -, -⟩:=hUB hok';have hvs:vs'=vs:=List.append_cancel_left (t1'.symm.trans t1);subst hvs;have hel:=Zk0 hUE.1 hN0;have htl:u.trail.length<=65536:=by rw[t1,List.length_append];omega
 rw[if_neg (show ¬65536<u.trail.length by omega)];refine⟨rfl,by simp only;rw[<-U.ok,hok'],fun h=>absurd h hok,fun _=>?_⟩;rw[t1]at htl;simp only[t1];refine⟨Zgg hg hB (fun x hx=>(t3 x hx).1) htl,by simp only[List.length_append];omega,hB.1,U.mon hok',U.tells hok',fun x hx hk=>Zgf hB hx hk,fun top tr h1 h2=>?_,by simp⟩;have hB':Bound (h.cells++[]) vs' u.cells:=by rw[List.append_nil];exact hB
 exact ZfQ hB' h1 h2
def Zod(P:List Cl)(q:Nat)(nx:Int)(rest:List Gl):Option Bool×Mv->Option Bool×Sv->Prop|(none,m),(none,s)=>m.out=s.out|(some true,m),(some true,s)=>Sim0 q {m with now:=nx} s rest|(some false,m),(some false,s)=>SvOk P s->Bak P q m s m.choices s.choices|_,_=>False
theorem Zmp{N:Int}{E:Env}(hE:EnvOk N E)(z:Tm)(hz:z.In N)(n:Int):0<=(uniS 400 [(z,.mk 2 n ByteArray.empty [])] E).work:=by
 have h2:slook E (.mk 2 n ByteArray.empty [])= .mk 2 n ByteArray.empty []:=Zay (.inl (by show(2:Int)≠0;decide));rw[uniS];simp only[h2,show(Tm.mk 2 n ByteArray.empty []).kind=2 from rfl,show((2:Int)=0)=False from by simp,and_false,or_false,if_false];split
 ·rename_i hk;have hin:inS E (slook E z).n 399 [.mk 2 n ByteArray.empty []]=(false,398):=by rw[Zcx,h2,if_neg (by show ¬(2:Int)=0;decide)];show inS E _ 398 ([]++[])=_;rw[List.append_nil,ZdU];rfl
  rw[hin];simp only[Bool.false_eq_true,false_or];rw[if_neg (by omega),Zb3];simp only;omega
 ·split;·simp only;omega
  ·rename_i h1 h3;have :(slook E z).args.length=0:=(Decidable.not_not.1 h3).2.2.2;rw[List.length_eq_zero_iff]at this;rw[this];show 0<=(uniS 399 ([]++[]) E).work;rw[List.append_nil,Zb3];simp only;omega
section
variable {P : List Cl} {q : Nat} {m : Mv} {s : Sv} {n : Nat} {g : Gl} {rest : List Gl}
theorem Zjk{φ:Int->Int}{u:Hp}{E':Env}{h:Hp}(C:CallOk q m s n g rest)(hlen:h.cells.length<=m.h.cells.length+1)(hle:m.h.cells.length<=h.cells.length)(htr:h.trail=m.h.trail)(hold:∀top tr,top<=m.h.cells.length->tr<=m.h.trail.length->Zcu h top tr=Zcu m.h top tr)(hE:∃F,E'=s.env++F)(U:UOut s.vars φ h s.env u E')(hq:∀v:Nat,v<q->Inb h.cells (m.query+(v:Nat))/\Hr h.cells φ s.env (fun _=>True) (m.query+(v:Nat)) (tvar (v:Nat)))(nx:Int)(hch:Chain s.vars h.cells φ s.env m.goals nx rest):Sim0 q {{m with h:=u}with now:=nx} {s with env:=E'} rest:=by
 obtain⟨F,rfl⟩:=hE;refine⟨U.good,C.fuel,C.out,U.tr,⟨φ,U.mon,fun v hv=>?_,hch.imp (fun _ _=>rfl) (zL _) fun a t k=>?_⟩,C.chc.imp fun c d hc hd k=>k.move ?_ ?_ ?_ ?_ ?_ (Int.le_refl _) (fun _ _=>rfl) (zL _),?_,C.pots,by have :=C.gcnt;simp only;omega⟩;·obtain⟨q1,q2⟩:=hq v hv;refine⟨?_,U.tells _ _ (.var _ (by omega) (by have :=C.qv;omega)) q2⟩;have :=U.len;unfold Inb at q1 ⊢;simp only;omega
 ·obtain⟨k1,k2⟩:=U.cells a k.inb k.kind;exact k.move (Int.le_refl _) k1 k2 (U.tells _ _ k.tin k.tells)
 ·exact(U.old _ _ (by have :=k.top;omega) (by rw[htr];exact k.tr)).trans (hold _ _ k.top k.tr)
 ·have :=U.len;have :=k.top;simp only;omega
 ·have h1:=U.trl;rw[htr]at h1;have :=k.tr;simp only;omega
 ·rw[List.take_append_of_le_length k.dtr]
 ·simp only[List.length_append];have :=k.dtr;omega
 ·have :=C.pot;have :=U.len;simp only;omega
theorem ZhH{E':Env}{h:Hp}(C:CallOk q m s n g rest)(hg:h.Good)(hle:m.h.cells.length<=h.cells.length)(htr:h.trail=m.h.trail)(hold:∀top tr,top<=m.h.cells.length->tr<=m.h.trail.length->Zcu h top tr=Zcu m.h top tr)(hE:∃F,E'=s.env++F)(hok:SvOk P {s with env:=E'}):Bak P q {m with h:=h} {s with env:=E'} m.choices s.choices:=by
 obtain⟨F,rfl⟩:=hE;refine⟨hok,hg,C.fuel,C.out,C.chc.imp fun c d hc hd k=>k.move (hold _ _ k.top k.tr) ?_ ?_ ?_ ?_ (Int.le_refl _) (fun _ _=>rfl) (zL _),C.pots,C.gcnt⟩;·have :=k.top;simp only;omega
 ·simp only[htr];exact k.tr
 ·rw[List.take_append_of_le_length k.dtr]
 ·simp only[List.length_append];have :=k.dtr;omega
theorem ZhI(C:CallOk q m s n g rest)(hk:g.t.Known):Zod P q (ZaK m n).next rest (ZbP (ZaK m n) m) (Zbh g s):=by
 obtain⟨φ,hM,hq,kk,e1,hlt,hbar,hga,hnx,hch⟩:=C.cur;have e2:kk=n:=by omega
 subst e2;have hgm:ZaK m kk=(m.goals[kk]?).getD default:=rfl;rw[<-hgm]at hbar hga hnx hch;generalize ZaK m kk=gm at*;have hchl:=C.chc.len;unfold ZbP Zbh;have hcs:(Zaa m.h.cells gm.at_).s=g.t.s:=by rw[hga.cell]
 simp only[hcs];have hcur:∀c k,Sim0 q {{m with choices:=m.choices.drop c}with now:=gm.next} {s with choices:=s.choices.drop k} rest↔Sim0 q {{m with choices:=m.choices.drop c}with now:=gm.next} {s with choices:=s.choices.drop k} rest:=fun _ _=>Iff.rfl;by_cases n1:g.t.s.toList=[33]
 ·rw[if_pos n1,if_pos n1];have he:m.choices.length - min gm.bar m.choices.length=s.choices.length - g.bar:=by rw[hbar,<-hchl];omega
  rw[he];exact⟨C.good,C.fuel,C.out,C.tr,⟨φ,hM,hq,hch⟩,C.chc.drop _,by have :=C.pot;simp only;omega,fun c hc=>C.pots c (List.mem_of_mem_drop hc),by have :=C.gcnt;simp only;omega⟩
 rw[if_neg n1,if_neg n1];have hon:Sim0 q {m with now:=gm.next} s rest:=⟨C.good,C.fuel,C.out,C.tr,⟨φ,hM,hq,hch⟩,C.chc,by have :=C.pot;simp only;omega,C.pots,by have :=C.gcnt;simp only;omega⟩;by_cases n2:g.t.s.toList=[116,114,117,101];·rw[if_pos n2,if_pos n2];exact hon
 rw[if_neg n2,if_neg n2];have hoff:SvOk P s->Bak P q m s m.choices s.choices:=fun hok=>⟨hok,C.good,C.fuel,C.out,C.chc,C.pots,C.gcnt⟩;by_cases n3:g.t.s.toList=[102,97,105,108];·rw[if_pos n3,if_pos n3];exact hoff
 rw[if_neg n3,if_neg n3];have hout4:∀k:Int,m.out++[(⟨k,[]⟩:Ev)]=s.out++[⟨k,[]⟩]:=fun k=>by rw[C.out]
 by_cases n4:g.t.s.toList=[101,113]
 ·rw[if_pos n4,if_pos n4];have h2:g.t.args.length=2:=by
   rcases hk with⟨_,h|h|h⟩|⟨h,_⟩|⟨_,h⟩;·exact absurd h n1
   ·exact absurd h n2
   ·exact absurd h n3
   ·exact h
   ·rw[n4]at h;simp at h
  have hne:g.t.args≠[]:=fun h=>by rw[h]at h2;simp at h2
  have ha:=Zcs hga hne 0 (by omega);have hb:=Zcs hga hne 1 (by omega);rw[show gm.at_+1+((0:Nat):Int)=gm.at_+1 by omega]at ha;rw[show gm.at_+1+((1:Nat):Int)=gm.at_+2 by omega]at hb;rw[show(g.t.args[0]?).getD default=g.t.args[0]by rw[List.getElem?_eq_getElem (by omega)];rfl,show(g.t.args[1]?).getD default=g.t.args[1]by rw[List.getElem?_eq_getElem (by omega)];rfl];have ia:g.t.args[0].In s.vars:=hga.tin.arg (List.getElem_mem _);have ib:g.t.args[1].In s.vars:=hga.tin.arg (List.getElem_mem _);obtain⟨u1,u2⟩:=ZhG C.good C.env C.v0 C.v1 hM C.tr ha hb ia ib;obtain⟨-,F,hF, -⟩:=Zcd (N:=s.vars) 400 [(g.t.args[0],g.t.args[1])] s.env C.env (by intro p hp;simp only[List.mem_singleton]at hp;subst hp;exact⟨ia,ib⟩);generalize uniS 400 [(g.t.args[0],g.t.args[1])] s.env=u' at*;generalize ZaX m.h (gm.at_+1) (gm.at_+2)=u at*;by_cases hw:u'.work<0;·rw[if_pos (u1 hw),if_pos hw];exact hout4 4
  ·obtain⟨v1,v2,v3,v4⟩:=u2 hw;rw[if_neg (not_not_intro v1),if_neg hw,v2];cases ho:u'.ok with|true=>exact Zjk C (Nat.le_succ _) (zL _) rfl (fun _ _ _ _=>rfl) ⟨F,hF⟩ (v4 ho) hq _ hch|false=>intro hok;rw[v3 ho];exact ZhH C C.good (zL _) rfl (fun _ _ _ _=>rfl) ⟨F,hF⟩ hok
 rw[if_neg n4,if_neg n4];have h2:2<=g.t.args.length:=by
  rcases hk with⟨_,h|h|h⟩|⟨h,_⟩|⟨h,_⟩;·exact absurd h n1
  ·exact absurd h n2
  ·exact absurd h n3
  ·omega
  ·omega
 have hne:g.t.args≠[]:=fun h=>by rw[h]at h2;simp at h2
 have ha:=Zcs hga hne 0 (by omega);have hb:=Zcs hga hne 1 (by omega);rw[show gm.at_+1+((0:Nat):Int)=gm.at_+1 by omega]at ha;rw[show gm.at_+1+((1:Nat):Int)=gm.at_+2 by omega]at hb;rw[show(g.t.args[0]?).getD default=g.t.args[0]by rw[List.getElem?_eq_getElem (by omega)];rfl,show(g.t.args[1]?).getD default=g.t.args[1]by rw[List.getElem?_eq_getElem (by omega)];rfl];obtain⟨a1,a2⟩:=Zjj ha;obtain⟨b1,b2⟩:=Zjj hb;by_cases hn:(slook s.env g.t.args[0]).kind≠2\/(slook s.env g.t.args[1]).kind≠2;·rw[if_pos (hn.imp (fun h e=>h (a1.1 e)) (fun h e=>h (b1.1 e))),if_pos hn];exact hout4 5
 have hn':(slook s.env g.t.args[0]).kind=2/\(slook s.env g.t.args[1]).kind=2:=by omega
 rw[if_neg (fun h=>h.elim (fun h=>h (a1.2 hn'.1)) (fun h=>h (b1.2 hn'.2))),if_neg hn,a2 hn'.1,b2 hn'.2];by_cases n5:g.t.s.toList=[108,101,115,115];·rw[if_pos n5,if_pos n5];cases decide ((slook s.env g.t.args[0]).n<(slook s.env g.t.args[1]).n)with|true=>exact hon|false=>exact hoff
 rw[if_neg n5,if_neg n5];by_cases hbig:(slook s.env g.t.args[0]).n+(slook s.env g.t.args[1]).n>1099511627776\/(slook s.env g.t.args[0]).n+(slook s.env g.t.args[1]).n< -1099511627776;·rw[if_pos hbig,if_pos hbig];exact hout4 5
 rw[if_neg hbig,if_neg hbig];have h3:g.t.args.length=3:=by
  rcases hk with⟨_,h|h|h⟩|⟨_,h|h⟩|⟨h,_⟩;·exact absurd h n1
  ·exact absurd h n2
  ·exact absurd h n3
  ·exact absurd h n4
  ·exact absurd h n5
  ·exact h
 generalize(slook s.env g.t.args[0]).n+(slook s.env g.t.args[1]).n=k at*;have hc:=Zcs hga hne 2 (by omega);rw[show gm.at_+1+((2:Nat):Int)=gm.at_+3 by omega]at hc;rw[show(g.t.args[2]?).getD default=g.t.args[2]by rw[List.getElem?_eq_getElem (by omega)];rfl];have ic:g.t.args[2].In s.vars:=hga.tin.arg (List.getElem_mem _);have id_:(Tm.mk 2 k ByteArray.empty []).In s.vars:= .int _ (by omega) (by omega);have hFg:GoodC [(⟨2,k,ByteArray.empty⟩:Ce)]:=fun i hi=>by
  simp only[List.length_singleton]at hi;have :i=0:=by omega
  subst this;exact .inr (.inr (.inl ⟨rfl,ZbF⟩))
 have hF0:NF 0 [(⟨2,k,ByteArray.empty⟩:Ce)]:=fun i x hx _ hk=>by cases i with|zero=>simp only[List.getElem?_cons_zero,Option.some.injEq]at hx;subst hx;simp at hk|succ i=>simp at hx
 have hlen:m.h.cells.length+[(⟨2,k,ByteArray.empty⟩:Ce)].length<=65536:=by have :=C.pot;simp only[List.length_singleton];omega
 rw[ZgT C.good hFg hlen];simp only[ne_eq,not_true_eq_false,if_false];have hg1:=ZfO C.good hFg hlen;have hM1:=ZgR hM C.env C.v0 hF0;rw[show s.vars+((0:Nat):Int)=s.vars by omega]at hM1;have hcl:∀a t,Inb m.h.cells a->Hr m.h.cells φ s.env (fun _=>True) a t->Hr (m.h.cells++[(⟨2,k,ByteArray.empty⟩:Ce)].map (shC m.h.cells.length)) (ZfP m.h.cells s.vars φ) s.env (fun _=>True) a t:=fun a t hi h=>ZgS C.good.1 hi h;have hci:Inb m.h.cells (gm.at_+3):=by obtain⟨x,hx⟩:=hc.looks;exact hx.start
 have hI0:Inb [(⟨2,k,ByteArray.empty⟩:Ce)] 0:=⟨by omega,by simp⟩;obtain⟨c1,c2⟩:=Zbi (H:=m.h.cells) hI0;rw[show(0:Int)+(m.h.cells.length:Int)=(m.h.cells.length:Int)by omega,show Zaa [(⟨2,k,ByteArray.empty⟩:Ce)] 0=⟨2,k,ByteArray.empty⟩from rfl,Zch _ (by simp)]at c1;rw[show(0:Int)+(m.h.cells.length:Int)=(m.h.cells.length:Int)by omega]at c2;have hst:slook s.env (.mk 2 k ByteArray.empty [])= .mk 2 k ByteArray.empty []:=Zay (.inl (by simp[Tm.kind]));have hd:Hr (m.h.cells++[(⟨2,k,ByteArray.empty⟩:Ce)].map (shC m.h.cells.length)) (ZfP m.h.cells s.vars φ) s.env (fun _=>True) (m.h.cells.length:Int) (.mk 2 k ByteArray.empty []):= .leaf (.stop c2 (.inl (by rw[c1];simp))) (by rw[c1,hst];rfl) (by rw[hst];simp[Tm.kind]) (by rw[hst];simp[Tm.kind]) (by rw[c1,hst];rfl) (by rw[c1,hst];rfl) (by rw[hst];rfl);obtain⟨u1,u2⟩:=ZhG (h:=⟨m.h.cells++[(⟨2,k,ByteArray.empty⟩:Ce)].map (shC m.h.cells.length),m.h.trail⟩) hg1 C.env C.v0 C.v1 hM1 C.tr (hcl _ _ hci hc) hd ic id_;obtain⟨-,F,hF, -⟩:=Zcd (N:=s.vars) 400 [(g.t.args[2],.mk 2 k ByteArray.empty [])] s.env C.env (by intro p hp;simp only[List.mem_singleton]at hp;subst hp;exact⟨ic,id_⟩);have hwk:=Zmp C.env g.t.args[2] ic k;generalize uniS 400 [(g.t.args[2],Tm.mk 2 k ByteArray.empty [])] s.env=u' at*;generalize hu:ZaX ⟨m.h.cells++[(⟨2,k,ByteArray.empty⟩:Ce)].map (shC m.h.cells.length),m.h.trail⟩ (gm.at_+3) (m.h.cells.length:Int)=u at*;obtain⟨v1,v2,v3,v4⟩:=u2 (by omega);rw[if_neg (not_not_intro v1),v2];have hold:∀top tr,top<=m.h.cells.length->tr<=m.h.trail.length->Zcu ⟨m.h.cells++[(⟨2,k,ByteArray.empty⟩:Ce)].map (shC m.h.cells.length),m.h.trail⟩ top tr=Zcu m.h top tr:=fun top tr h1 h2=>by have :=ZfQ (Bound.refl (m.h.cells++[(⟨2,k,ByteArray.empty⟩:Ce)].map (shC m.h.cells.length))) h1 h2;rw[List.append_nil]at this;exact this
 cases ho:u'.ok with
  |true=>
   refine Zjk (h:=⟨m.h.cells++[(⟨2,k,ByteArray.empty⟩:Ce)].map (shC m.h.cells.length),m.h.trail⟩) C (by simp) (by simp) rfl hold ⟨F,hF⟩ (v4 ho) (fun v hv=>?_) _ (hch.imp (fun _ _=>rfl) (zL _) fun a t hk9=>?_);·obtain⟨q1,q2⟩:=hq v hv;exact⟨(ZbE q1).2,hcl _ _ q1 q2⟩
   ·have hl:=ZbE (F:=[(⟨2,k,ByteArray.empty⟩:Ce)]) hk9.inb;exact hk9.move (Int.le_refl _) hl.1 hl.2 (hcl _ _ hk9.inb hk9.tells)
  |false=>intro hok;rw[v3 ho];have hkf:=ZhH (h:=⟨m.h.cells++[(⟨2,k,ByteArray.empty⟩:Ce)].map (shC m.h.cells.length),m.h.trail⟩) C hg1 (by simp) rfl hold ⟨F,hF⟩ hok;exact hkf
end
theorem ZhJ{P:List Cl}{t:Tm}:∀(n k:Nat),n=P.length - k->k<=P.length->(ZbU P t n k=P.length↔∀(i:Nat)(h:i<P.length),k<=i->¬ZbK (P[i]).head t)
 |0,k,hn,hk=>by rw[ZbU];exact⟨fun _ i h hi=>by omega,fun _=>by omega⟩
 |n+1,k,hn,hk=>by
  have hlt:k<P.length:=by omega
  have ih:=ZhJ (P:=P) (t:=t) n (k+1) (by omega) (by omega);rw[ZbU,List.getElem?_eq_getElem hlt];simp only;by_cases h:ZbK (P[k]).head t;·rw[if_pos h];exact⟨fun e=>by omega,fun h2=>absurd h (h2 k hlt (zL _))⟩
  ·rw[if_neg h,ih];refine⟨fun h2 i hi hki=>?_,fun h2 i hi hki=>h2 i hi (by omega)⟩;by_cases e:i=k;·subst e;exact h
   ·exact h2 i hi (by omega)
theorem Zgj{N:Int}{l:List Ce}{φ:Int->Int}{E:Env}{a:Int}{t:Tm}(h:GoalAt N l φ E a t):Zdo (Zaa l a)↔t.Known:=by unfold Zdo Tm.Known;rw[h.cell];simp[Tm.args,Tm.s]
section
variable {P : List Cl} {q : Nat} {m : Mv} {s : Sv} {g : Gl} {rest : List Gl}
theorem Zjl(hP:GoodP P)(S:Sim P q m s (g::rest))(hqv:(q:Int)<=s.vars):Both q (Zcr P m) (ZbC P g rest s):=by
 obtain⟨hok,hgls,S⟩:=S;unfold Zcr ZbC;rw[S.fuel];by_cases hf:s.fuel=0;·rw[if_pos hf,if_pos hf];show m.out++_=s.out++_;rw[S.out]
 rw[if_neg hf,if_neg hf];obtain⟨φ,hM,hq,kk,e1,hlt,hbar,hga,hnx,hch⟩:=S.cur;obtain rfl:kk=m.now.toNat:=by omega
 have hp:=Ze9 s.fuel s.choices hf;have hs1:SvOk P {s with fuel:=s.fuel - 1}:=by obtain⟨h1,h2,h3,h4,h5,h6,h7,h8⟩:=hok;rw[hp]at h6 h7;exact⟨h1,h2,h3,h4,h5,by simp only;omega,by simp only;omega,by simp only;omega⟩
 have hpV:=hok.potV;have hpE:=hok.potE;rw[hp]at hpE;have hsl:∀c:Nat,c+ZbG m.fuel m.out<=60000->c+300+ZbG (s.fuel - 1) m.out<=60000:=fun c h=>by unfold ZbG at h ⊢;rw[S.fuel]at h;omega
 have hsl2:∀c:Nat,c+300+ZbG m.fuel m.out<=60000->c+300+ZbG (s.fuel - 1) m.out<=60000:=fun c h=>by unfold ZbG at h ⊢;rw[S.fuel]at h;omega
 have hslg:m.goals.length+5+Zep (s.fuel - 1) m.out<=5000:=by have h:=S.gcnt;unfold Zep at h ⊢;rw[S.fuel]at h;omega
 have C:CallOk q {m with fuel:=s.fuel - 1} {s with fuel:=s.fuel - 1} m.now.toNat g rest:={good:=S.good,env:=hok.env,v0:=hok.vars0,v1:=by simp only;omega,qv:=hqv,gt:=(hgls g (by simp)).1,fuel:=rfl,out:=S.out,tr:=S.tr,cur:=⟨φ,hM,hq,m.now.toNat,rfl,hlt,hbar,hga,by rw[<-e1];exact hnx,hch⟩,chc:=S.chc,pot:=hsl _ S.pot,pots:=fun c hc=>hsl2 _ (S.pots c hc),gcnt:=hslg};have hB:Bak P q {m with fuel:=s.fuel - 1} {s with fuel:=s.fuel - 1} m.choices s.choices:=⟨hs1,S.good,rfl,S.out,S.chc,C.pots,C.gcnt⟩;have hgmk:ZaK {m with fuel:=s.fuel - 1} m.now.toNat=(m.goals[m.now.toNat]?).getD default:=rfl;simp only;have hga':GoalAt s.vars m.h.cells φ s.env (ZaK {m with fuel:=s.fuel - 1} m.now.toNat).at_ g.t:=hga;have hkc:=Zgj hga';by_cases hk:g.t.Known;·rw[if_pos (hkc.2 hk),if_pos hk];have hks:=ZhI (P:=P) C hk;have hkf:=fun(r:Option Bool)(s':Sv)(e:Zbh g {s with fuel:=s.fuel - 1}=(r,s'))(hr:r≠none)=>Zdc hs1 (hgls g (by simp)).1 hk (by simp only;omega) e hr;generalize ZbP (ZaK {m with fuel:=s.fuel - 1} m.now.toNat) {m with fuel:=s.fuel - 1}=rm at*;generalize Zbh g {s with fuel:=s.fuel - 1}=rs at*;obtain⟨ra,m'⟩:=rm;obtain⟨rb,s'⟩:=rs;match ra,rb,hks,hkf with|none,none,hks,_=>exact hks|some true,some true,hks,_=>exact hks|some false,some false,hks,hkf=>obtain⟨a1,a2,a3,a4⟩:=hkf (some false) s' rfl (by simp);exact Zfj hP _ _ _ _ (hks a1) (by rw[a4];exact hqv)|none,some b,hks,_=>cases b<;>exact hks.elim|some b,none,hks,_=>cases b<;>exact hks.elim|some true,some false,hks,_=>exact hks.elim|some false,some true,hks,_=>exact hks.elim
 ·rw[if_neg (fun h=>hk (hkc.1 h)),if_neg hk];have hnext:ZaQ P (Zaa m.h.cells (ZaK {m with fuel:=s.fuel - 1} m.now.toNat).at_) P.length 0=ZbU P g.t P.length 0:=ZfR hga' P _ _;rw[hnext];have hall:=ZhJ (P:=P) (t:=g.t) P.length 0 (by omega) (Nat.zero_le _);by_cases hn:∀c∈P,¬ZbK c.head g.t;·rw[if_pos (hall.2 fun i h _=>hn _ (List.getElem_mem h)),if_pos hn];show m.out++_=s.out++_;rw[S.out]
  ·rw[if_neg (fun h=>hn fun c hc=>by obtain⟨i,hi,rfl⟩:=List.mem_iff_getElem.1 hc;exact hall.1 h i hi (Nat.zero_le _)),if_neg hn];have hcall:=ZgU hP C P.length 0 (by omega);have hno:=ZdG (P:=P) (n:=m.now.toNat) (g:=ZaK {m with fuel:=s.fuel - 1} m.now.toNat) P.length 0 {m with fuel:=s.fuel - 1};have hnoF:=ZcU (P:=P) (g:=g) (rest:=rest) P.length 0 {s with fuel:=s.fuel - 1};generalize Zbl P m.now.toNat (ZaK {m with fuel:=s.fuel - 1} m.now.toNat) P.length 0 {m with fuel:=s.fuel - 1}=rm at*;generalize Zbb P g rest P.length 0 {s with fuel:=s.fuel - 1}=rs at*;obtain⟨ra,m'⟩:=rm;obtain⟨rb,s'⟩:=rs;cases ra with
   |next=>cases rb with|next gl=>exact hcall|no=>exact hcall.elim|off=>exact hcall.elim
   |off=>cases rb with|next gl=>exact hcall.elim|no=>exact hcall.elim|off=>exact hcall
   |no=>cases rb with|next gl=>exact hcall.elim|off=>exact hcall.elim|no=>obtain rfl:=hno m' rfl;obtain rfl:=hnoF s' rfl;exact Zfj hP _ _ _ _ hB hqv
def Zn5(l:List Ce)(φ:Int->Int):Option (List Tm×Int)->Option (List Tm×Nat)->Prop|none,none=>True|some (xs,left),some (ys,w)=>left=(w:Int)/\w<=200/\ys=xs.map (Tm.ren φ)/\∀x∈xs,x.Vars (Free l)|_,_=>False
theorem Zjm{h:Hp}{φ:Int->Int}{E:Env}{N:Int}{query:Int}(hg:h.Good)(hE:EnvOk N E)(hqN:(q:Int)<=N)(hq:∀v:Nat,v<q->Inb h.cells (query+(v:Nat))/\Hr h.cells φ E (fun _=>True) (query+(v:Nat)) (tvar (v:Nat))):∀v:Nat,v<=q->Zn5 h.cells φ (Zc4 h query v) (flL E 200 ((List.range v).map fun i=>tvar (i:Nat)))
 |0,_=>by rw[Zc4];simp only[List.range_zero,List.map_nil,Zb8];exact⟨rfl,zL _,rfl,by simp⟩
 |v+1,hv=>by
  have ih:=Zjm hg hE hqN hq v (by omega);rw[Zc4,List.range_succ,List.map_append,ZhV];revert ih;cases Zc4 h query v with
   |none=>cases flL E 200 ((List.range v).map fun i=>tvar (i:Nat))with|none=>intro _;trivial|some p=>intro h;exact h.elim
   |some p=>
    obtain⟨xs,left⟩:=p;cases flL E 200 ((List.range v).map fun i=>tvar (i:Nat))with
     |none=>intro h;exact h.elim
     |some p=>
      obtain⟨ys,w⟩:=p;rintro⟨rfl,hw,e2,e3⟩;simp only;obtain⟨q1,q2⟩:=hq v (by omega);have hl:Zdi (w:Int)=(w:Int):=by unfold Zdi;omega
      have hA:=Zn3 (l:=h.cells) (φ:=φ) hE w [query+(v:Nat)] [tvar (v:Nat)] ⟨q2,trivial⟩ (by intro t ht;simp only[List.mem_singleton]at ht;subst ht;exact .var _ (by omega) (by omega));have ht:ZaD h (query+(v:Nat)) (w:Int)=ZdQ (w:Int) (rd1 h.cells w (query+(v:Nat))):=by rw[ZaD,if_neg (not_not_intro hg),if_neg (not_not_intro q1),hl,Int.toNat_natCast]
      rw[ht];unfold rd1;simp only[List.map_cons,List.map_nil];have hle:=Zf3 h.cells w [query+(v:Nat)];revert hA hle;cases rdL h.cells w [query+(v:Nat)]with
       |none=>cases flL E w [tvar (v:Nat)]with|none=>intro _ _;simp only[ZdQ];trivial|some p=>intro h;exact h.elim
       |some p=>
        obtain⟨zs,w1⟩:=p;cases flL E w [tvar (v:Nat)]with
         |none=>intro h;exact h.elim
         |some p=>
          obtain⟨us,w2⟩:=p;rintro⟨rfl,d2,d3⟩hle;obtain⟨h1,h2⟩:=hle zs w1 rfl;match zs,h2,d2,d3 with
           |[z],_,d2,d3=>
            simp only[ZdQ,ne_eq,not_true_eq_false,if_false];refine⟨by omega,by omega,by rw[e2,d2,List.map_append],fun x hx=>?_⟩;rcases List.mem_append.1 hx with hx|hx;·exact e3 x hx
            ·exact d3 x hx
theorem Zgk(hP:GoodP P)(S:Sim P q m s [])(hqv:(q:Int)<=s.vars)(hout:s.out.length<=11):Both q (ZbD P q m) (match ZaV q s with|(false,s')=>(.off,s')|(true,s')=>Zbj P s'.choices s'):=by
 obtain⟨hok,hgls,S⟩:=S;obtain⟨φ,hM,hq,hch⟩:=S.cur;have ht:=Zjm S.good hok.env hqv hq q (zL _);unfold ZbD ZaV;revert ht;cases Zc4 m.h m.query q with
  |none=>cases flL s.env 200 ((List.range q).map fun i=>tvar (i:Nat))with|none=>intro _;show m.out++_=s.out++_;rw[S.out]|some p=>intro h;exact h.elim
  |some p=>
   obtain⟨xs,left⟩:=p;cases flL s.env 200 ((List.range q).map fun i=>tvar (i:Nat))with
    |none=>intro h;exact h.elim
    |some p=>
     obtain⟨ys,w⟩:=p;rintro⟨-, -,e2,e3⟩;simp only;rw[ZkY hM e2 e3,S.out];by_cases h12:(s.out++[(⟨1,tidy xs⟩:Ev)]).length≥12;·rw[if_pos h12,if_pos h12];show _++_=_++_;rfl
     ·rw[if_neg h12,if_neg h12];simp only;refine Zfj hP _ _ _ _ ⟨?_,S.good,S.fuel,rfl,S.chc,fun c hc=>?_,?_⟩ hqv;·obtain⟨h1,h2,h3,h4,h5,h6,h7,h8⟩:=hok;exact⟨h1,h2,h3,h4,h5,h6,h7,h8⟩
      ·have :=S.pots c hc;rw[S.out]at this;unfold ZbG at this ⊢;simp only[List.length_append,List.length_singleton]at h12 ⊢;omega
      ·have :=S.gcnt;rw[S.out]at this;unfold Zep at this ⊢;simp only[List.length_append,List.length_singleton]at h12 ⊢;omega
end
inductive Vis (gs : List Gm) (l : List Ce) : Nat → Prop where
  | mk (i : Nat) : i < gs.length → Inb l ((gs[i]?).getD default).at_ → ((gs[i]?).getD default).next < i → (0 ≤ ((gs[i]?).getD default).next → Vis gs l ((gs[i]?).getD default).next.toNat) → Vis gs l i
theorem Zdv{N:Int}{l l':List Ce}{φ:Int->Int}{E:Env}{gs:List Gm}(hl:∀a,Inb l' a->Inb l a):∀(gl:List Gl)(n:Int),Chain N l' φ E gs n gl->0<=n->Vis gs l n.toNat|[],n,h,h0=>by have :n= -1:=h;omega|g::r,n,⟨k,h1,h2,h3,h4,h5,h6⟩,h0=>by subst h1;rw[Int.toNat_natCast];exact .mk k h2 (hl _ h4.inb) (by omega) fun h=>Zdv hl r _ h6 h
def Clo(gs:List Gm)(vis:List Nat):Prop:=∀i∈vis,((gs[i]?).getD default).next<0\/((gs[i]?).getD default).next.toNat∈vis
section
variable {gs : List Gm} {l : List Ce}
theorem Zjn:∀(k:Nat)(n:Int)(vis:List Nat),(0<=n->n.toNat<k)->(0<=n->Vis gs l n.toNat)->(∀i∈vis,Vis gs l i)->(∀i∈vis,((gs[i]?).getD default).next<0\/((gs[i]?).getD default).next.toNat∈vis\/((gs[i]?).getD default).next=n)->Clo gs (Zbe gs k n vis)/\(∀i∈vis,i∈Zbe gs k n vis)/\(0<=n->n.toNat∈Zbe gs k n vis)/\∀i∈Zbe gs k n vis,Vis gs l i
 |0,n,vis,hk,hn,hv,hc=>by
  rw[Zbe];refine⟨fun i hi=>?_,fun i hi=>hi,fun h=>absurd (hk h) (Nat.not_lt_zero _),hv⟩;rcases hc i hi with h|h|h;·exact .inl h
  ·exact .inr h
  ·have :¬0<=n:=fun h0=>absurd (hk h0) (Nat.not_lt_zero _);exact .inl (by omega)
 |k+1,n,vis,hk,hn,hv,hc=>by
  rw[Zbe];by_cases h:n<0\/n.toNat∈vis
  ·rw[if_pos h];refine⟨fun i hi=>?_,fun i hi=>hi,fun h0=>h.elim (fun h=>by omega) id,hv⟩;rcases hc i hi with h1|h1|h1;·exact .inl h1
   ·exact .inr h1
   ·rcases h with h|h;·exact .inl (by omega)
    ·exact .inr (by rw[h1];exact h)
  ·rw[if_neg h];have h0:0<=n:=by omega
   have hvn:=hn h0;have hlt:=hk h0;cases hvn with
    |mk _ v1 v2 v3 v4=>
     obtain⟨c1,c2,c3,c4⟩:=Zjn k ((gs[n.toNat]?).getD default).next (vis++[n.toNat]) (fun h=>by omega) v4 (fun i hi=>by
      rcases List.mem_append.1 hi with hi|hi;·exact hv i hi
      ·simp only[List.mem_singleton]at hi;subst hi;exact .mk _ v1 v2 v3 v4) (fun i hi=>by
      rcases List.mem_append.1 hi with hi|hi
      ·rcases hc i hi with h1|h1|h1;·exact .inl h1
       ·exact .inr (.inl (by simp[h1]))
       ·exact .inr (.inl (by simp[h1]))
      ·simp only[List.mem_singleton]at hi;subst hi;exact .inr (.inr rfl));exact⟨c1,fun i hi=>c2 i (by simp[hi]),fun _=>c2 _ (by simp),c4⟩
theorem ZfT:∀(ns:List Int)(vis:List Nat),(∀n∈ns,0<=n->Vis gs l n.toNat)->(∀i∈vis,Vis gs l i)->Clo gs vis->Clo gs (ns.foldl (fun vis n=>Zbe gs (gs.length+1) n vis) vis)/\(∀i∈vis,i∈ns.foldl (fun vis n=>Zbe gs (gs.length+1) n vis) vis)/\(∀n∈ns,0<=n->n.toNat∈ns.foldl (fun vis n=>Zbe gs (gs.length+1) n vis) vis)/\∀i∈ns.foldl (fun vis n=>Zbe gs (gs.length+1) n vis) vis,Vis gs l i
 |[],vis,_,hv,hc=>⟨hc,fun _ h=>h,by simp,hv⟩
 |n::ns,vis,hn,hv,hc=>by
  have hvn:=hn n (by simp);obtain⟨c1,c2,c3,c4⟩:=Zjn (gs.length+1) n vis (fun h0=>by cases hvn h0 with|mk _ h=>omega) hvn hv (fun i hi=>(hc i hi).imp id .inl);obtain⟨d1,d2,d3,d4⟩:=ZfT ns (Zbe gs (gs.length+1) n vis) (fun x hx=>hn x (by simp[hx])) c4 c1;rw[List.foldl_cons];refine⟨d1,fun i hi=>d2 i (c2 i hi),fun x hx h0=>?_,d4⟩;rcases List.mem_cons.1 hx with rfl|hx;·exact d2 _ (c3 h0)
  ·exact d3 x hx h0
end
theorem Chain.gc{N:Int}{l l':List Ce}{φ φ':Int->Int}{E E':Env}{gs gs':List Gm}{vis:List Nat}(hc:Clo gs vis)(hlen:gs'.length=gs.length)(hgs:∀i∈vis,((gs'[i]?).getD default).bar=((gs[i]?).getD default).bar/\((gs'[i]?).getD default).next=((gs[i]?).getD default).next)(hG:∀i∈vis,∀t,GoalAt N l φ E ((gs[i]?).getD default).at_ t->GoalAt N l' φ' E' ((gs'[i]?).getD default).at_ t):∀(gl:List Gl)(n:Int),(0<=n->n.toNat∈vis)->Chain N l φ E gs n gl->Chain N l' φ' E' gs' n gl
 |[],n,_,h=>h
 |g::r,n,hv,⟨k,h1,h2,h3,h4,h5,h6⟩=>by
  subst h1;have hk:k∈vis:=by have :=hv (zN _);rwa[Int.toNat_natCast]at this
  obtain⟨a1,a2⟩:=hgs k hk;refine⟨k,rfl,by omega,by rw[a1];exact h3,hG k hk _ h4,by rw[a2];exact h5,?_⟩;rw[a2];exact Chain.gc hc hlen hgs hG r _ (fun h0=>(hc k hk).elim (fun h=>by omega) id) h6
theorem Zla{m:List Bool}{a:Nat}:∀(v:Nat),(∀i,i<v->m[a+i]?=some true)->cnt m (a+v)=cnt m a+v|0,_=>rfl|v+1,h=>by have ih:=Zla (m:=m) (a:=a) v (fun i hi=>h i (by omega));rw[<-Nat.add_assoc,cnt,if_pos (h v (by omega)),ih];omega
theorem Zgl{m:List Bool}:∀k,cnt m k<=k:=Zcn m
section
variable {P : List Cl} {q : Nat} {m : Mv} {s : Sv} {gl : List Gl}
theorem Zgm{h:Hp}{roots tops mks:List Int}(hg:h.Good)(hr:∀r∈roots,Inb h.cells r):ZaT h roots tops mks=⟨gcH h roots,roots.map (ahead (marks h.cells roots)),tops.map (ahead (marks h.cells roots)),mks.map (ahead (Zar (marks h.cells roots) h.trail)),0⟩:=by rw[ZaT,if_neg (not_not_intro hg),if_neg (not_not_intro hr)]
theorem ZfU(S:Sim P q m s gl):Sim P q (ZbQ q m) s gl:=by
 obtain⟨hok,hgls,S⟩:=S;refine⟨hok,hgls,?_⟩;obtain⟨φ,hM,hq,hch⟩:=S.cur;have hst:∀n∈ZaO m,0<=n->Vis m.goals m.h.cells n.toNat:=by
  intro n hn h0;unfold ZaO at hn;rcases List.mem_append.1 hn with hn|hn;·obtain⟨c,hc,rfl⟩:=List.mem_map.1 hn;obtain⟨d,hd,k⟩:=S.chc.mem c (List.mem_reverse.1 hc);obtain⟨φ', -, -,k3⟩:=k.snap;refine Zdv (fun a ha=>?_) _ _ k3 h0;have :=Zcg (h:=m.h) c.top c.trail k.top;have :=k.top;unfold Inb at ha ⊢;omega
  ·simp only[List.mem_singleton]at hn;subst hn;exact Zdv (fun _ h=>h) _ _ hch h0
 obtain⟨vis,hvis⟩:∃vis,vis=Zbq m.goals (ZaO m):=⟨_,rfl⟩;obtain⟨hclo, -,hsv,hvv⟩:=ZfT (l:=m.h.cells) (ZaO m) [] hst (by simp) (by intro i hi;cases hi);have hnd:(ZaO m).foldl (fun vis n=>Zbe m.goals (m.goals.length+1) n vis) []=vis:=hvis.symm;rw[hnd]at hclo hsv hvv;have hroots:Zbf q m=((List.range q).map fun v=>m.query+(v:Nat))++vis.map fun i=>(ZaK m i).at_:=by rw[hvis];rfl
 obtain⟨roots,hrt⟩:∃roots,roots=Zbf q m:=⟨_,rfl⟩;have hri:∀r∈roots,Inb m.h.cells r:=by
  intro r hr;rw[hrt,hroots]at hr;rcases List.mem_append.1 hr with hr|hr;·obtain⟨v,hv,rfl⟩:=List.mem_map.1 hr;exact(hq v (List.mem_range.1 hv)).1
  ·obtain⟨i,hi,rfl⟩:=List.mem_map.1 hr;cases hvv i hi with|mk _ h1 h2=>exact h2
 have hrp:∀r∈roots,RP m.h roots r:=fun r hr=>by obtain⟨h0,h1⟩:=hri r hr;obtain⟨k,rfl⟩:=Int.eq_ofNat_of_zero_le h0;exact RP.of (.root hr (by omega))
 have hqr:∀v:Nat,v<q->RP m.h roots (m.query+(v:Nat)):=fun v hv=>hrp _ (by rw[hrt,hroots];exact List.mem_append_left _ (List.mem_map.2 ⟨v,List.mem_range.2 hv,rfl⟩));have hgr:∀i∈vis,RP m.h roots (ZaK m i).at_:=fun i hi=>hrp _ (by rw[hrt,hroots];exact List.mem_append_right _ (List.mem_map.2 ⟨i,hi,rfl⟩));have hqa:∀v:Nat,v<q->ahead (marks m.h.cells roots) (m.query+(v:Nat))=ahead (marks m.h.cells roots) m.query+(v:Nat):=fun v hv=>by
  have h0:=(hq 0 (by omega)).1.1;simp only[Int.natCast_zero,Int.add_zero]at h0;obtain⟨a,ha⟩:=Int.eq_ofNat_of_zero_le h0;rw[ha,Zbm,show((a:Nat):Int)+(v:Nat)=((a+v:Nat):Int)by omega,Zbm];have :=Zla (m:=marks m.h.cells roots) (a:=a) v (fun i hi=>by
   have h1:=hqr i (by omega);rw[ha]at h1;obtain⟨k,e,hk,hr⟩:=h1.nat S.good.1;have :k=a+i:=by omega
   subst this;exact(Zba hk).2 hr);omega
 have hqn:q>0->(((Zbf q m).map (ahead (marks m.h.cells roots)))[0]?).getD 0=ahead (marks m.h.cells roots) m.query:=fun h=>by rw[hroots];obtain⟨q',rfl⟩:∃q',q=q'+1:=⟨q - 1,by omega⟩;rw[List.range_succ_eq_map];simp
 have hrm:roots.map (ahead (marks m.h.cells roots))=(((List.range q).map fun v=>m.query+(v:Nat))++vis.map fun i=>(ZaK m i).at_).map (ahead (marks m.h.cells roots)):=congrArg (List.map _) (hrt.trans hroots);have hcol:=Zgm (tops:=m.choices.reverse.map fun c=>(c.top:Int)) (mks:=m.choices.reverse.map fun c=>(c.trail:Int)) S.good hri;obtain⟨qn,hqn'⟩:∃qn:Int,qn=if q>0 then ahead (marks m.h.cells roots) m.query else m.query:=⟨_,rfl⟩;obtain⟨gs',hgs'⟩:∃gs':List Gm,gs'=m.goals.mapIdx fun i g=>if i∈vis then{g with at_:=ahead (marks m.h.cells roots) g.at_}else g:=⟨_,rfl⟩;obtain⟨cs',hcs'⟩:∃cs':List Cm,cs'=m.choices.map fun x=>{x with top:=cnt (marks m.h.cells roots) x.top,trail:=cnt (Zar (marks m.h.cells roots) m.h.trail) x.trail}:=⟨_,rfl⟩;have hres:ZbQ q m={m with h:=gcH m.h roots,query:=qn,goals:=gs',choices:=cs'}:=by
  unfold ZbQ;rw[<-hrt,hcol];simp only[ne_eq,not_true_eq_false,if_false,Mv.mk.injEq,true_and,and_true];refine⟨?_,?_,?_⟩
  ·rw[hgs',<-hvis];apply List.ext_getElem (by simp);intro i h1 h2;simp only[List.getElem_mapIdx];by_cases hi:i∈vis;·rw[if_pos hi,if_pos hi];congr 1;have hx:vis.idxOf i<vis.length:=List.idxOf_lt_length_iff.2 hi;rw[hrm,List.map_append,List.getElem?_append_right (by simp),List.length_map,List.length_map,List.length_range,Nat.add_sub_cancel_left,List.getElem?_map,List.getElem?_map,List.getElem?_eq_getElem hx,List.getElem_idxOf hx];simp only[Option.map_some,Option.getD_some,ZaK];rw[List.getElem?_eq_getElem (by simpa using h1)];rfl
   ·rw[if_neg hi,if_neg hi]
  ·rw[hcs'];have e:(m.choices.reverse.mapIdx fun i x=>({x with top:=((((m.choices.reverse.map fun c=>(c.top:Int)).map (ahead (marks m.h.cells roots)))[i]?).getD 0).toNat,trail:=((((m.choices.reverse.map fun c=>(c.trail:Int)).map (ahead (Zar (marks m.h.cells roots) m.h.trail)))[i]?).getD 0).toNat}:Cm))=(m.choices.map fun x=>({x with top:=cnt (marks m.h.cells roots) x.top,trail:=cnt (Zar (marks m.h.cells roots) m.h.trail) x.trail}:Cm)).reverse:=by
    rw[<-List.map_reverse];apply List.ext_getElem (by simp);intro i h1 h2;have hl:i<m.choices.reverse.length:=by simpa using h1
    simp only[List.getElem_mapIdx,List.getElem_map,List.getElem?_map,List.getElem?_eq_getElem hl,Option.map_some,Option.getD_some,Zbm,Int.toNat_natCast]
   rw[e,List.reverse_reverse]
  ·rw[hqn'];by_cases h:q>0;·rw[if_pos h,if_pos h,hrt];rw[hrt]at hqn;exact hqn h
   ·rw[if_neg h,if_neg h]
 have hqq:∀v:Nat,v<q->qn+(v:Nat)=ahead (marks m.h.cells roots) (m.query+(v:Nat)):=fun v hv=>by rw[hqa v hv,hqn',if_pos (by omega)]
 have hgl:gs'.length=m.goals.length:=by rw[hgs'];simp
 have hgat:∀i,i<m.goals.length->(gs'[i]?).getD default=if i∈vis then{(m.goals[i]?).getD default with at_:=ahead (marks m.h.cells roots) ((m.goals[i]?).getD default).at_}else(m.goals[i]?).getD default:=fun i hi=>by rw[hgs',List.getElem?_mapIdx,List.getElem?_eq_getElem hi];rfl
 have hvl:∀i∈vis,i<m.goals.length:=fun i hi=>by cases hvv i hi with|mk _ h1=>exact h1
 have hgsv:∀i∈vis,((gs'[i]?).getD default).bar=((m.goals[i]?).getD default).bar/\((gs'[i]?).getD default).next=((m.goals[i]?).getD default).next:=fun i hi=>by rw[hgat i (hvl i hi),if_pos hi];exact⟨rfl,rfl⟩
 have hgsa:∀i∈vis,((gs'[i]?).getD default).at_=ahead (marks m.h.cells roots) ((m.goals[i]?).getD default).at_:=fun i hi=>by rw[hgat i (hvl i hi),if_pos hi]
 have goalMor:∀{l l':List Ce}{T:Int->Prop}{φ1:Int->Int}{E1:Env}(hmor:Mor l l' T (ahead (marks m.h.cells roots)))(hall:∀a t,T a->Hr l φ1 E1 (fun _=>True) a t->Hr l' (fun y=>φ1 (ZjW T (ahead (marks m.h.cells roots)) y)) E1 (fun _=>True) (ahead (marks m.h.cells roots) a) t)(a:Int)(t:Tm),T a->GoalAt s.vars l φ1 E1 a t->GoalAt s.vars l' (fun y=>φ1 (ZjW T (ahead (marks m.h.cells roots)) y)) E1 (ahead (marks m.h.cells roots) a) t:=by intro l l' T φ1 E1 hmor hall a t hT k;refine⟨(hmor.inb a hT).2,?_,k.goal,k.tin,hall a t hT k.tells⟩;rw[hmor.cell a hT];unfold mvC;rw[if_neg k.kind];exact k.cell
 rw[hres];have hgm:=ZmE (roots:=roots) S.good;obtain⟨hMall,hHall⟩:=hgm.all (ZnK (roots:=roots) S.good) hM;have hclen:(gcH m.h roots).cells.length<=m.h.cells.length:=by show(ZeR _ _ _).length<=_;rw[Za7];exact Zcn _ _
 have htlen:(gcH m.h roots).trail.length<=m.h.trail.length:=by show(Ze2 _ _ _).length<=_;rw[Zbw];exact Zcn _ _
 refine⟨ZiG S.good,S.fuel,S.out,by have :=S.tr;simp only;omega,?_,?_,by have :=S.pot;simp only;omega,fun c hc=>?_,by have :=S.gcnt;simp only;rw[hgl];exact this⟩
 ·refine⟨_,hMall,fun v hv=>?_,?_⟩;·simp only;rw[hqq v hv];exact⟨(hgm.inb _ (hqr v hv)).2,hHall _ _ (hqr v hv) (hq v hv).2⟩
  ·refine Chain.gc hclo hgl hgsv (fun i hi t k=>?_) gl m.now (fun h0=>hsv _ (by unfold ZaO;simp) h0) hch;rw[hgsa i hi];exact goalMor hgm hHall _ _ (hgr i hi) k
 ·have hone:∀c d,c∈m.choices->ChR m.h s.env s.vars q m.query m.goals c d->ChR (gcH m.h roots) s.env s.vars q qn gs' {c with top:=cnt (marks m.h.cells roots) c.top,trail:=cnt (Zar (marks m.h.cells roots) m.h.trail) c.trail} d:=fun c d hc k=>by
   obtain⟨omor,osur⟩:=ZkU (roots:=roots) S.good k.top k.tr k.good;obtain⟨φ1,k1,k2,k3⟩:=k.snap;obtain⟨oM,oH⟩:=omor.all osur k1;have hol:=Zcg (h:=m.h) c.top c.trail k.top;refine⟨k.from_,?_,?_,Nat.le_trans (Zcn _ _) k.tre,k.dtr,Zmj S.good k.top k.tr k.good,⟨_,oM,fun v hv=>?_,?_⟩⟩;·show cnt _ c.top<=(ZeR _ _ _).length;rw[Za7];exact ZcK k.top
   ·show cnt _ c.trail<=(Ze2 _ _ _).length;rw[Zbw];exact ZcK k.tr
   ·obtain⟨i1,i2⟩:=k2 v hv;have hT:RP m.h roots (m.query+(v:Nat))/\m.query+(v:Nat)<(c.top:Int):=⟨hqr v hv,by have :=i1.2;omega⟩;rw[hqq v hv];exact⟨(omor.inb _ hT).2,oH _ _ hT i2⟩
   ·refine Chain.gc hclo hgl hgsv (fun i hi t kk=>?_) d.g (c.goal:Int) (fun h0=>hsv _ (by unfold ZaO;exact List.mem_append_left _ (List.mem_map.2 ⟨c,List.mem_reverse.2 hc,rfl⟩)) h0) k3;rw[hgsa i hi];exact goalMor omor oH _ _ ⟨hgr i hi,by have :=kk.inb.2;omega⟩ kk
  simp only;rw[hcs'];have hlist:∀(cs:List Cm)(ds:List Chc),(∀c∈cs,c∈m.choices)->ChsR m.h s.env s.vars q m.query m.goals cs ds->ChsR (gcH m.h roots) s.env s.vars q qn gs' (cs.map fun x=>{x with top:=cnt (marks m.h.cells roots) x.top,trail:=cnt (Zar (marks m.h.cells roots) m.h.trail) x.trail}) ds:=by intro cs;induction cs with
   |nil=>intro ds _ h;cases ds with|nil=>trivial|cons d ds=>exact h.elim
   |cons c cs ih=>intro ds hm h;cases ds with|nil=>exact h.elim|cons d ds=>refine⟨hone c d (hm c (by simp)) h.1,fun x hx=>?_,ih ds (fun x hx=>hm x (by simp[hx])) h.2.2⟩;obtain⟨y,hy,rfl⟩:=List.mem_map.1 hx;obtain⟨h1,h2⟩:=h.2.1 y hy;exact⟨ZcK h1,ZcK h2⟩
  exact hlist _ _ (fun _ h=>h) S.chc
 ·rw[hcs']at hc;obtain⟨x,hx,rfl⟩:=List.mem_map.1 hc;have :=S.pots x hx;have :=Zcn (marks m.h.cells roots) x.top;simp only;omega
end
def Zjo(n:Nat)(vis:List Nat):List Bool:=(List.range n).map fun i=>decide (i∈vis)
theorem ZdH(n:Nat)(vis:List Nat):(Zjo n vis).length=n:=by simp[Zjo]
theorem Zer{n:Nat}{vis:List Nat}{i:Nat}(h:i<(Zjo n vis).length):(Zjo n vis)[i]=decide (i∈vis):=by simp[Zjo]
theorem Zjp(n:Nat):Zjo n []=List.replicate n false:=by apply List.ext_getElem (by simp[Zjo]);intro i h1 h2;rw[Zer,List.getElem_replicate];simp
theorem Zjq{n:Nat}{vis:List Nat}{i:Nat}:(Zjo n vis).set i true=Zjo n (vis++[i]):=by
 apply List.ext_getElem (by simp[Zjo]);intro j h1 h2;rw[List.getElem_set,Zer,Zer];by_cases h:i=j;·subst h;simp
 ·rw[if_neg h];congr 1;simp;intro e;exact absurd e.symm h
theorem ZgY:∀(n:Nat)(l:List Nat),l.Nodup->(∀i∈l,i<n)->l.length<=n
 |0,l,_,h=>by cases l with|nil=>simp|cons a r=>exact absurd (h a (by simp)) (by omega)
 |n+1,l,hn,h=>by
  have h1:=ZgY n (l.erase n) (hn.erase n) (fun i hi=>by
   have h2:=h i (List.mem_of_mem_erase hi);have h3:i≠n:=fun e=>by rw[e]at hi;exact hn.not_mem_erase hi
   omega);rw[List.length_erase]at h1;split at h1<;>omega
structure Under (gs : List Gm) (l : List Ce) (T : List Nat) (n : Int) (vis : List Nat) : Prop where
  eq : ∃ k, Zbe gs k n vis = T ∧ (0 ≤ n → n.toNat < k)
  lt : ∀ i ∈ vis, i < gs.length
  nd : vis.Nodup
  vis : 0 ≤ n → Vis gs l n.toNat
section
variable {gs : List Gm} {l : List Ce} {T vis : List Nat} {n : Int}
theorem Vis.lt{i:Nat}(h:Vis gs l i):i<gs.length:=by cases h;assumption
theorem ZfV:∀(k:Nat)(n:Int)(vis:List Nat),vis <+: Zbe gs k n vis
 |0,_,vis=>by rw[Zbe];exact List.prefix_refl _
 |k+1,n,vis=>by
  rw[Zbe];split;·exact List.prefix_refl _
  ·exact(List.prefix_append vis _).trans (ZfV k _ _)
theorem Zjr:∀(ns:List Int)(vis:List Nat),vis <+: ns.foldl (fun vis n=>Zbe gs (gs.length+1) n vis) vis|[],vis=>List.prefix_refl _|n::ns,vis=>(ZfV _ n vis).trans (Zjr ns _)
theorem Under.start(hl:∀i∈vis,i<gs.length)(hnd:vis.Nodup)(hv:0<=n->Vis gs l n.toNat):Under gs l (Zbe gs (gs.length+1) n vis) n vis:=⟨⟨_,rfl,fun h=>by have :=(hv h).lt;omega⟩,hl,hnd,hv⟩
theorem Zgn{i:Nat}(h:vis.Nodup)(hm:i∉vis):(vis++[i]).Nodup:=by rw[List.nodup_append];exact⟨h,by simp,fun a ha b hb e=>by simp only[List.mem_singleton]at hb;subst hb;subst e;exact hm ha⟩
theorem Zjs:∀(k:Nat)(n:Int)(vis:List Nat),vis.Nodup->(Zbe gs k n vis).Nodup
 |0,_,vis,h=>h
 |k+1,n,vis,h=>by
  rw[Zbe];split;·exact h
  ·rename_i h0;exact Zjs k _ _ (Zgn h (fun hm=>h0 (.inr hm)))
theorem Under.neg(h:Under gs l T n vis)(hn:n<0):T=vis:=by obtain⟨k,rfl, -⟩:=h.eq;cases k with|zero=>rfl|succ k=>rw[Zbe,if_pos (.inl hn)]
theorem Under.seen(h:Under gs l T n vis)(hn:0<=n)(hm:n.toNat∈vis):T=vis:=by obtain⟨k,rfl, -⟩:=h.eq;cases k with|zero=>rfl|succ k=>rw[Zbe,if_pos (.inr hm)]
theorem Under.next(h:Under gs l T n vis)(hn:0<=n)(hm:n.toNat∉vis):Under gs l T ((gs[n.toNat]?).getD default).next (vis++[n.toNat]):=by
 obtain⟨⟨k,rfl,hk⟩,hl,hnd,hv⟩:=h;have hk0:=hk hn;cases k with
  |zero=>omega
  |succ k=>
   cases hv hn with
    |mk _ h1 h2 h3 h4=>
     refine⟨⟨k,?_,fun h=>by omega⟩,fun i hi=>?_,Zgn hnd hm,h4⟩;·rw[Zbe,if_neg (not_or.2 ⟨by omega,hm⟩)]
     ·rcases List.mem_append.1 hi with hi|hi;·exact hl i hi
      ·simp only[List.mem_singleton]at hi;omega
theorem Under.down(h:Under gs l T n vis)(hn:0<=n):n.toNat<gs.length/\((gs[n.toNat]?).getD default).next<n:=by cases h.vis hn with|mk _ h1 h2 h3 h4=>exact⟨h1,by omega⟩
theorem Under.few(h:Under gs l T n vis):vis.length<=gs.length:=ZgY _ _ h.nd h.lt
theorem Under.pre(h:Under gs l T n vis):vis <+: T:=by obtain⟨k,rfl, -⟩:=h.eq;exact ZfV _ _ _
theorem Under.tlt(h:Under gs l T n vis):∀i∈T,i<gs.length:=by
 obtain⟨⟨k,rfl,hk⟩,hl,hnd,hv⟩:=h;clear hk hnd;induction k generalizing n vis with
  |zero=>exact hl
  |succ k ih=>
   rw[Zbe];split;·exact hl
   ·rename_i h0;have hn:0<=n:=by have :=fun h=>h0 (.inl h);omega
    cases hv hn with
     |mk _ h1 h2 h3 h4=>
      refine ih (fun i hi=>?_) h4;rcases List.mem_append.1 hi with hi|hi;·exact hl i hi
      ·simp only[List.mem_singleton]at hi;omega
def ZaZ(gs:List Gm)(ns:List Int)(j:Nat):List Nat:=Zbq gs (ns.take j)
theorem ZfW(gs:List Gm)(ns:List Int):ZaZ gs ns 0=[]:=rfl
theorem Zc0{ns:List Int}{j:Nat}(hj:j<ns.length):ZaZ gs ns (j+1)=Zbe gs (gs.length+1) ns[j] (ZaZ gs ns j):=by unfold ZaZ Zbq;rw[List.take_succ_eq_append_getElem hj,List.foldl_append];rfl
theorem Zj0(gs:List Gm)(ns:List Int)(j:Nat):ZaZ gs ns j <+: Zbq gs ns:=by
 unfold ZaZ Zbq;conv=>rhs;rw[<-List.take_append_drop j ns,List.foldl_append]
 exact Zjr _ _
theorem ZdI{ns:List Int}{j:Nat}(hj:ns.length<=j):ZaZ gs ns j=Zbq gs ns:=by unfold ZaZ;rw[List.take_of_length_le hj]
theorem ZcO(ns:List Int):∀j,(ZaZ gs ns j).Nodup
 |0=>by rw[ZfW];exact List.nodup_nil
 |j+1=>by
  by_cases hj:j<ns.length;·rw[Zc0 hj];exact Zjs _ _ _ (ZcO ns j)
  ·have e:ZaZ gs ns (j+1)=ZaZ gs ns j:=by unfold ZaZ;rw[List.take_of_length_le (by omega),List.take_of_length_le (by omega)]
   rw[e];exact ZcO ns j
theorem Zdw{ns:List Int}(hv:∀n∈ns,0<=n->Vis gs l n.toNat):∀j,∀i∈ZaZ gs ns j,i<gs.length
 |0,i,hi=>by simp[ZaZ,Zbq]at hi
 |j+1,i,hi=>by
  by_cases hj:j<ns.length;·rw[Zc0 hj]at hi;exact(Under.start (l:=l) (Zdw hv j) (ZcO ns j) (hv _ (List.getElem_mem hj))).tlt i hi
  ·have e:ZaZ gs ns (j+1)=ZaZ gs ns j:=by unfold ZaZ;rw[List.take_of_length_le (by omega),List.take_of_length_le (by omega)]
   rw[e]at hi;exact Zdw hv j i hi
def ZbR(q:Nat)(query:Int)(gs:List Gm)(vis:List Nat):List Int:=((List.range q).map fun v=>query+(v:Nat))++vis.map fun i=>((gs[i]?).getD default).at_
theorem Zd0(q:Nat)(query:Int)(gs:List Gm)(vis:List Nat):(ZbR q query gs vis).length=q+vis.length:=by simp[ZbR]
theorem ZhK(q:Nat)(query:Int)(gs:List Gm)(vis:List Nat)(i:Nat):ZbR q query gs (vis++[i])=ZbR q query gs vis++[((gs[i]?).getD default).at_]:=by simp[ZbR]
def ZaW(R:List Int)(q:Nat)(vis:List Nat)(gs:List Gm):List Gm:=gs.mapIdx fun i g=>if i∈vis then{g with at_:=(R[q+vis.idxOf i]?).getD 0}else g
theorem ZaP(R:List Int)(q:Nat)(vis:List Nat)(gs:List Gm):(ZaW R q vis gs).length=gs.length:=by simp[ZaW]
theorem Zir(R:List Int)(q:Nat)(gs:List Gm):ZaW R q [] gs=gs:=by apply List.ext_getElem (by simp[ZaW]);intro i h1 h2;simp[ZaW]
theorem Zct{R:List Int}{q:Nat}{vis:List Nat}{gs:List Gm}{i:Nat}(h:i<(ZaW R q vis gs).length):(ZaW R q vis gs)[i]=if i∈vis then{gs[i]'(by rwa[ZaP]at h)with at_:=(R[q+vis.idxOf i]?).getD 0}else gs[i]'(by rwa[ZaP]at h):=by simp[ZaW]
theorem Ze1{R:List Int}{q:Nat}{vis:List Nat}{gs:List Gm}{i:Nat}(h:i<gs.length):((ZaW R q vis gs)[i]'(by rw[ZaP];exact h)).next=((gs[i]?).getD default).next:=by rw[Zct,List.getElem?_eq_getElem h];split<;>rfl
theorem ZfX{R:List Int}{q:Nat}{vis:List Nat}{gs:List Gm}{i:Nat}(h:i<gs.length)(hm:i∉vis):(ZaW R q vis gs)[i]'(by rw[ZaP];exact h)=gs[i]:=by rw[Zct,if_neg hm]
theorem ZhL{R:List Int}{q:Nat}{vis:List Nat}{gs:List Gm}{i:Nat}(h:i<gs.length)(hm:i∉vis):(ZaW R q vis gs).set i ⟨(R[q+vis.length]?).getD 0,gs[i].bar,gs[i].next⟩=ZaW R q (vis++[i]) gs:=by
 apply List.ext_getElem (by simp[ZaW]);intro j h1 h2;rw[List.getElem_set];by_cases e:i=j
 ·subst e;rw[if_pos rfl,Zct,if_pos (by simp)];have :(vis++[i]).idxOf i=vis.length:=by rw[List.idxOf_append,if_neg hm];simp[List.idxOf_cons]
  rw[this]
 ·rw[if_neg e,Zct,Zct];by_cases e2:j∈vis;·rw[if_pos e2,if_pos (by simp[e2]),List.idxOf_append,if_pos e2]
  ·rw[if_neg e2,if_neg (by simp[e2];intro h;exact e h.symm)]
def ZcH(tops mks:List Int)(j:Nat)(cs:List Cm):List Cm:=cs.mapIdx fun i x=>if i<j then{x with top:=((tops[i]?).getD 0).toNat,trail:=((mks[i]?).getD 0).toNat}else x
theorem Zes(tops mks:List Int)(j:Nat)(cs:List Cm):(ZcH tops mks j cs).length=cs.length:=by simp[ZcH]
theorem Zj1(tops mks:List Int)(cs:List Cm):ZcH tops mks 0 cs=cs:=by apply List.ext_getElem (by simp[ZcH]);intro i h1 h2;simp[ZcH]
theorem Zlb(tops mks:List Int)(cs:List Cm):ZcH tops mks cs.length cs=cs.mapIdx fun i x=>{x with top:=((tops[i]?).getD 0).toNat,trail:=((mks[i]?).getD 0).toNat}:=by apply List.ext_getElem (by simp[ZcH]);intro i h1 h2;simp only[ZcH,List.getElem_mapIdx];rw[if_pos (by simpa[ZcH]using h1)]
theorem Zlc{tops mks:List Int}{j:Nat}{cs:List Cm}(h:j<cs.length):(ZcH tops mks j cs)[j]'(by rw[Zes];exact h)=cs[j]:=by simp[ZcH]
theorem Zj2{tops mks:List Int}{j:Nat}{cs:List Cm}(h:j<cs.length):(ZcH tops mks j cs).set j {cs[j]with top:=((tops[j]?).getD 0).toNat,trail:=((mks[j]?).getD 0).toNat}=ZcH tops mks (j+1) cs:=by
 apply List.ext_getElem (by simp[ZcH]);intro i h1 h2;rw[List.getElem_set];simp only[ZcH,List.getElem_mapIdx];by_cases e:j=i;·subst e;rw[if_pos rfl,if_pos (by omega)]
 ·rw[if_neg e];by_cases e2:i<j;·rw[if_pos e2,if_pos (by omega)]
  ·rw[if_neg e2,if_neg (by omega)]
end
end Go.Proofs.Ytlpmfkpefoegeac
