import Derived.Test.YtlpmfkpefoegeacGreatDoorQFront2
namespace Go.Proofs.YtlpmfkpefoegeacGreatDoor
set_option maxRecDepth 99999
set_option maxHeartbeats 0
set_option linter.all false
theorem aqs(E:Env):∀(w:Nat)(s ts:List Tm)(w':Nat),bL E w s=some (ts,w')->Tm.bq ts+w'=w:=by
 intro w;induction w using Nat.strongRecOn with
  |_ w ih=>
   intro s ts w' h;match w,s,ih,h with
    |w,[],_,h=>rw[xW]at h;simp at h;obtain⟨rfl,rfl⟩:=h;simp[Tm.bq]
    |0,_::_,_,h=>rw[GM]at h;cases h
    |w+1,a::r,ih,h=>
     rw[bL]at h;try simp only at h
     split at h;·simp at h
     ·rename_i _ JY w1 h1;have k0:=Qd E w _ _ _ h1;have k1:=ih w (by omega) _ _ _ h1;rw[Ga k0.1]at h;split at h;·simp at h
      ·rename_i _ rs w2 h2;have k2:=ih w1 (by omega) _ _ _ h2;simp only[dm,lD]at h;obtain⟨rfl,rfl⟩:=h;simp only[Tm.bq,Tm.nodes];omega
namespace Tm
end Tm
section
variable {P : List Cl}
end
section
variable {P : List Cl}
def Sv.more(s:Sv)(m:Nat):Sv:={s with fuel:=s.fuel+m}
end
theorem afZ{P:List Cl}{Q:List Tm}{vars:Int}{f:Nat}(hP:dW P)(hQ:fP Q vars)(hf:f<=150):gZ P ⟨[],[],vars,f,[]⟩/\sw vars (Q.map fun t=>⟨t,0⟩):=by
 obtain⟨h0,h8,h5,hl⟩:=hQ;refine⟨⟨hP,h0,cz.nil _,by simp,by simp,?_,?_,?_⟩,?_⟩;·simp only[bY,AA,List.sum_nil];omega
 ·simp only[bY,AA,List.sum_nil,kg];omega
 ·simpa using hf
 ·intro g hg;obtain⟨t,ht,rfl⟩:=fZ.1 hg;exact⟨(hl t ht).2.1,by simp⟩
theorem RF(P:List Cl)(Q:List Tm)(vars fuel:Int):(¬(dW P/\fP Q vars)/\wH P Q vars fuel=([],1))\/((dW P/\fP Q vars)/\(fuel<0\/fuel>150)/\wH P Q vars fuel=([],2))\/((dW P/\fP Q vars)/\0<=fuel/\fuel<=150/\wH P Q vars fuel=((rM P vars.toNat (fuel.toNat+14) (Q.map fun t=>⟨t,0⟩) ⟨[],[],vars,fuel.toNat,[]⟩).out,0)):=by
 unfold wH;by_cases h:dW P/\fP Q vars
 ·rw[ag (by simpa using h)];by_cases h2:fuel<0\/fuel>150;·rw[ai h2];exact .inr (.inl ⟨h,h2,rfl⟩)
  ·rw[ag h2];exact .inr (.inr ⟨h,by omega,by omega,rfl⟩)
 ·rw[ai h];exact .inl ⟨h,rfl⟩
structure Td where
  t : Tm
  call : Nat
structure Pv where
  fuel : Nat
  vars : Int
  out : List Ev
  ended : Bool
  calls : Nat
def Pv.put(p:Pv)(kind:Int):Pv:={p with out:=p.out++[⟨kind,[]⟩],ended:=true}
def jG(c:Nat)(d:Int)(l:List Tm)(rest:List Td):List Td:=(l.map fun t=>(⟨dN t d,c⟩:Td))++rest
def jH(pr:List Td->Env->Pv->Int×Pv)(t:Tm)(rest:List Td)(E:Env)(call:Nat):List Cl->Pv->Int×Pv|[],p=>(-1,p)|c::cs,p=>let u:=bM 400 [(dN c.head p.vars,t)] E;if u.work<0 then(-1,p.put 4)else if u.ok=false then jH pr t rest E call cs p else let r:=pr (jG call p.vars c.body rest) u.env {p with vars:=p.vars+c.vars};if r.2.ended=true then(-1,r.2)else if r.1=call then(-1,r.2)else if r.1≥0 then r else jH pr t rest E call cs r.2
noncomputable def mi(pr:List Td->Env->Pv->Int×Pv)(g:Td)(rest:List Td)(E:Env)(p:Pv):Int×Pv:=if g.t.s.toList=[33]then let r:=pr rest E p;if r.1≥0/\r.1<g.call then r else((g.call:Int),r.2)else if g.t.s.toList=[116,114,117,101]then pr rest E p else if g.t.s.toList=[102,97,105,108]then(-1,p)else if g.t.s.toList=[101,113]then let u:=bM 400 [((g.t.args[0]?).getD default,(g.t.args[1]?).getD default)] E;if u.work<0 then(-1,p.put 4)else if u.ok=false then(-1,p)else pr rest u.env p else let a:=ax E ((g.t.args[0]?).getD default);let b:=ax E ((g.t.args[1]?).getD default);if a.kind≠2\/b.kind≠2 then(-1,p.put 5)else if g.t.s.toList=[108,101,115,115]then(if a.n<b.n then pr rest E p else(-1,p))else if a.n+b.n>1099511627776\/a.n+b.n< -1099511627776 then(-1,p.put 5)else let u:=bM 400 [((g.t.args[2]?).getD default,.mk 2 (a.n+b.n) .empty [])] E;if u.ok=false then(-1,p)else pr rest u.env p
def yS(q:Nat)(E:Env)(p:Pv):Int×Pv:=match bL E 200 ((List.range q).map fun i=>fw (i:Nat))with|none=>(-1,p.put 4)|some (l,_)=>let p:={p with out:=p.out++[⟨1,tidy l⟩]};if p.out.length≥12 then(-1,p.put 6)else(-1,p)
noncomputable def gJ(P:List Cl)(t:Tm)(k:Nat):List Cl:=(P.drop k).filter fun c=>decide (iJ c.head t)
noncomputable def dh(P:List Cl)(q:Nat):Nat->List Td->Env->Pv->Int×Pv|0,_,_,p=>(-1,p)|_+1,[],E,p=>yS q E p|k+1,g::rest,E,p=>if p.fuel=0 then(-1,p.put 3)else let p:={p with fuel:=p.fuel - 1};haveI :=Classical.propDecidable g.t.gF;if g.t.gF then mi (dh P q k) g rest E p else if gJ P g.t 0=[]then(-1,p.put 5)else jH (dh P q k) g.t rest E (p.calls+1) (gJ P g.t 0) {p with calls:=p.calls+1}
structure Fr where
  call : Nat
  g : Td
  rest : List Td
  gg : Gl
  BB : List Gl
  env : Env
  next : Nat
  fJ : Nat
def fU(P:List Cl)(fr:List Fr):List jO:=fr.filterMap fun f=>if f.next<P.length then some ⟨f.gg::f.BB,f.next,f.env.length⟩else none
def below(c:Nat)(fr:List Fr):List Fr:=fr.dropWhile fun f=>decide (c<=f.call)
noncomputable def resume(P:List Cl)(q:Nat):List Fr->Int×Pv->Pv|[],r=>if r.2.ended=true then r.2 else r.2.put 2|f::fr,r=>if r.2.ended=true then r.2 else if 0<=r.1/\r.1<=f.call then resume P q fr (if r.1=f.call then -1 else r.1,r.2)else resume P q fr (jH (dh P q f.fJ) f.g.t f.rest f.env f.call (gJ P f.g.t f.next) r.2)
theorem af0(P:List Cl)(f:Fr)(fr:List Fr):fU P (f::fr)=if f.next<P.length then⟨f.gg::f.BB,f.next,f.env.length⟩::fU P fr else fU P fr:=by unfold fU;rw[List.filterMap_cons];split<;>split<;>simp_all
def sM(P:List Cl)(fr:List Fr):List Td->List Gl->Prop|[],[]=>True|a::td,b::gl=>(a.t=b.t/\b.bar=(fU P (below a.call fr)).length)/\sM P fr td gl|_,_=>False
def RG(td:List Td):Prop:=td.Pairwise fun a b=>b.call<=a.call
def Fx(P:List Cl):List Fr->Prop|[]=>True|f::fr=>Fx P fr/\sM P fr (f.g::f.rest) (f.gg::f.BB)/\(∀x∈fr,x.call<f.call)/\(∀a∈f.g::f.rest,a.call<f.call)/\RG (f.g::f.rest)/\(∀x∈fr,x.env <+: f.env)
section
variable {P : List Cl} {q : Nat}
theorem Dr{c:Nat}{f:Fr}{fr:List Fr}(h:c<=f.call):below c (f::fr)=below c fr:=by unfold below;rw[alX,ai (by simpa using h)]
theorem IB{c:Nat}{f:Fr}{fr:List Fr}(h:f.call<c):below c (f::fr)=f::fr:=by unfold below;rw[alX,ag (by simp;omega)]
theorem Yz{c:Nat}{fr:List Fr}(h:∀x∈fr,x.call<c):below c fr=fr:=by cases fr with|nil=>rfl|cons f fr=>exact IB (h f (by simp))
theorem YA{a c:Nat}(h:a<=c):∀(fr:List Fr),below a (below c fr)=below a fr
 |[]=>rfl
 |f::fr=>by
  by_cases h1:c<=f.call;·rw[Dr h1,Dr (fM h h1)];exact YA h fr
  ·rw[IB (by omega)]
theorem YB(c:Nat):∀(fr:List Fr),∃X,fr=X++below c fr/\∀x∈X,c<=x.call
 |[]=>⟨[],rfl,by simp⟩
 |f::fr=>by
  by_cases h1:c<=f.call
  ·obtain⟨X,h2,h3⟩:=YB c fr;rw[Dr h1];refine⟨f::X,by rw[tJ,<-h2],fun x hx=>?_⟩;rcases gK.1 hx with rfl|hx;·exact h1
   ·exact h3 x hx
  ·exact⟨[],by rw[IB (by omega)];rfl,by simp⟩
theorem YC{c:Nat}{fr:List Fr}{x:Fr}(h:x∈below c fr):x∈fr:=by obtain⟨X,h1,_⟩:=YB c fr;rw[h1];exact alR _ h
theorem af1{c:Nat}:∀{fr:List Fr},Fx P fr->∀x∈below c fr,x.call<c
 |[],_,x,hx=>by cases hx
 |f::fr,h,x,hx=>by
  by_cases h1:c<=f.call;·rw[Dr h1]at hx;exact af1 h.1 x hx
  ·rw[IB (by omega)]at hx;rcases gK.1 hx with rfl|hx;·omega
   ·have :=h.2.2.1 x hx;omega
theorem RH(c:Nat):∀{fr:List Fr},Fx P fr->Fx P (below c fr)
 |[],h=>h
 |f::fr,h=>by
  by_cases h1:c<=f.call;·rw[Dr h1];exact RH c h.1
  ·rw[IB (by omega)];exact h
theorem aqt(fr fr':List Fr):fU P (fr++fr')=fU P fr++fU P fr':=by unfold fU;rw[List.filterMap_append]
theorem aqu(c:Nat)(fr:List Fr):(fU P fr).drop ((fU P fr).length - (fU P (below c fr)).length)=fU P (below c fr):=by
 obtain⟨X,h1,_⟩:=YB c fr;have h2:fU P fr=fU P X++fU P (below c fr):=by rw[<-aqt,<-h1]
 rw[h2,bT,Nat.add_sub_cancel,List.drop_left]
theorem LZ(c:Nat)(p:Pv)(hp:p.ended=false):∀(fr:List Fr),Fx P fr->resume P q fr ((c:Int),p)=resume P q (below c fr) (-1,p)
 |[],_=>by simp[resume,below,hp]
 |f::fr,h=>by
  by_cases h1:c<=f.call
  ·rw[Dr h1,resume];simp only[hp,mD,if_false];rw[ai ⟨by omega,by omega⟩];by_cases h2:(c:Int)=f.call
   ·have h3:c=f.call:=by omega
    rw[ai h2,Yz (by rw[h3];exact h.2.2.1)]
   ·rw[ag h2];exact LZ c p hp fr h.1
  ·rw[IB (by omega),resume,resume];simp only[hp,mD,if_false];rw[ag (by omega),ag (by omega)]
theorem xm(fr:List Fr)(r:Int×Pv)(h:r.2.ended=true):resume P q fr r=r.2:=by cases fr<;>simp[resume,h]
theorem aqv(c:Nat)(r:Int×Pv)(h0: -1<=r.1)(fr:List Fr)(h:Fx P fr):resume P q fr (if r.1≥0/\r.1<c then r else((c:Int),r.2))=resume P q (below c fr) r:=by
 by_cases he:r.2.ended=true;·rw[xm _ _ (by split<;>exact he),xm _ _ he];split<;>rfl
 have hp:r.2.ended=false:=by simpa using he
 obtain⟨i,p⟩:=r;simp only at h0 hp;by_cases h1:i≥0/\i<c;·rw[ai h1];obtain⟨j,rfl⟩:=dQ h1.1;rw[LZ j p hp fr h,LZ j p hp _ (RH c h),YA (by omega)]
 ·rw[ag h1];simp only;rw[LZ c p hp fr h];by_cases h2:i= -1;·subst h2;rfl
  ·obtain⟨j,rfl⟩:=dQ (show 0<=i by omega);rw[LZ j p hp _ (RH c h),Yz (c:=j)];intro x hx;have :=af1 h x hx;omega
def CutIn(td:List Td)(c:Int):Prop:=c= -1\/∃a∈td,c=(a.call:Int)
theorem CutIn.ge{td:List Td}{c:Int}(h:CutIn td c): -1<=c:=by rcases h with rfl|⟨a,_,rfl⟩<;>omega
theorem af2(pr:List Td->Env->Pv->Int×Pv)(ih:∀td E p,CutIn td (pr td E p).1)(t:Tm)(rest:List Td)(E:Env)(call:Nat):∀(cs:List Cl)(p:Pv),CutIn rest (jH pr t rest E call cs p).1
 |[],p=> .inl rfl
 |c::cs,p=>by
  have i1:=af2 pr ih t rest E call cs;rw[jH];simp only;split;·exact .inl rfl
  ·split;·exact i1 p
   ·have h1:=ih (jG call p.vars c.body rest) (bM 400 [(dN c.head p.vars,t)] E).env {p with vars:=p.vars+c.vars};generalize pr (jG call p.vars c.body rest) (bM 400 [(dN c.head p.vars,t)] E).env {p with vars:=p.vars+c.vars}=r at*;split;·exact .inl rfl
    ·split;·exact .inl rfl
     ·split
      ·rename_i k1 k2 k3;rcases h1 with h1|⟨a,ha,h1⟩;·omega
       ·simp only[jG,fE,fZ]at ha;rcases ha with⟨x,_,rfl⟩|ha;·exact absurd h1 k2
        ·exact .inr ⟨a,ha,h1⟩
      ·exact i1 _
theorem aqw(pr:List Td->Env->Pv->Int×Pv)(ih:∀td E p,CutIn td (pr td E p).1)(g:Td)(rest:List Td)(E:Env)(p:Pv):CutIn (g::rest) (mi pr g rest E p).1:=by
 have up:∀{c},CutIn rest c->CutIn (g::rest) c:=fun h=>h.imp id fun⟨a,ha,e⟩=>⟨a,by simp[ha],e⟩;unfold mi;split
 ·simp only;split;·exact up (ih _ _ _)
  ·exact .inr ⟨g,by simp,rfl⟩
 ·simp only;repeat' split
  all_goals first|exact up (ih _ _ _)|exact .inl rfl
theorem RI:∀(k:Nat)(td:List Td)(E:Env)(p:Pv),CutIn td (dh P q k td E p).1
 |0,td,E,p=> .inl rfl
 |k+1,[],E,p=>by
  rw[dh];unfold yS;split;·exact .inl rfl
  ·simp only;split<;>exact .inl rfl
 |k+1,g::rest,E,p=>by
  have ih:=RI k;rw[dh];split;·exact .inl rfl
  ·simp only;split;·exact aqw _ ih _ _ _ _
   ·split;·exact .inl rfl
    ·exact(af2 _ ih _ _ _ _ _ _).imp id fun⟨a,ha,e⟩=>⟨a,by simp[ha],e⟩
end
theorem YD:∀(w:Nat)(s:List (Tm×Tm))(E:Env),E <+: (bM w s E).env:=by
 intro w;induction w using Nat.strongRecOn with
  |_ w ih=>
   intro s E;match w,s,ih with
    |w,[],_=>rw[AR];exact Jz
    |0,_::_,_=>rw[Qc];exact Jz
    |w+1,(a,b)::r,ih=>
     rw[bM];simp only;repeat' split
     all_goals first|exact Jz|exact ih _ (by omega) _ _|exact(List.prefix_append _ _).trans (ih _ (by omega) _ _)
section
variable {P : List Cl} {q : Nat}
theorem af3(t:Tm){k:Nat}(h:P.length<=k):gJ P t k=[]:=by unfold gJ;rw[alP h];rfl
theorem af4(t:Tm){k:Nat}(h:k<P.length):gJ P t k=if iJ (P[k]).head t then P[k]::gJ P t (k+1)else gJ P t (k+1):=by unfold gJ;rw[Js h,List.filter_cons];by_cases e:iJ (P[k]).head t<;>simp[e]
theorem af5(t:Tm):∀(n k:Nat),n=P.length - k->gJ P t k=gJ P t (kP P t n k)
 |0,k,hn=>rfl
 |n+1,k,hn=>by
  have h:k<P.length:=by omega
  rw[kP,aT h];simp only;by_cases e:iJ (P[k]).head t;·rw[ai e]
  ·rw[ag e,af4 t h,ag e];exact af5 t n (k+1) (by omega)
def RJ(pr:List Td->Env->Pv->Int×Pv)(t:Tm)(rest:List Td)(E:Env)(call:Nat)(cs:List Cl)(r:Int×Pv):Int×Pv:=if r.2.ended=true then(-1,r.2)else if r.1=call then(-1,r.2)else if r.1≥0 then r else jH pr t rest E call cs r.2
theorem af6(fr:List Fr)(f:Fr)(r:Int×Pv)(h0: -1<=r.1)(h1:r.1<=f.call):resume P q fr (RJ (dh P q f.fJ) f.g.t f.rest f.env f.call (gJ P f.g.t f.next) r)=resume P q (f::fr) r:=by
 unfold RJ;rw[resume];by_cases he:r.2.ended=true;·rw[ai he,ai he,xm fr (-1,r.2) he]
 ·rw[ag he,ag he];by_cases h2:r.1=f.call;·rw[ai h2,ai (by omega),ai h2]
  ·rw[ag h2];by_cases h3:r.1≥0;·rw[ai h3,ai (by omega),ag h2]
   ·rw[ag h3,ag (by omega)]
theorem YE(pr:List Td->Env->Pv->Int×Pv)(g:Gl)(rest:List Gl)(a:Td)(j6:List Td)(call fJ:Nat)(ht:a.t=g.t)(fr:List Fr)(s:Sv)(p:Pv)(hc:s.choices=fU P fr)(hv:s.vars=p.vars)(ho:s.out=p.out):∀(n k:Nat),n=P.length - k->k<=P.length->(lG P g rest n k s=(.no,s)/\jH pr a.t j6 s.env call (gJ P a.t k) p=(-1,p))\/(∃s',lG P g rest n k s=(.off,s')/\s'.out=p.out++[⟨4,[]⟩]/\jH pr a.t j6 s.env call (gJ P a.t k) p=(-1,p.put 4))\/(∃(c:Cl)(m:Nat)(E':Env),k<m/\s.env <+: E'/\lG P g rest n k s=(.next (xX s.choices.length s.vars c.body rest),{s with env:=E',choices:=fU P (⟨call,a,j6,g,rest,s.env,m,fJ⟩::fr),vars:=s.vars+c.vars})/\jH pr a.t j6 s.env call (gJ P a.t k) p=RJ pr a.t j6 s.env call (gJ P a.t m) (pr (jG call p.vars c.body j6) E' {p with vars:=p.vars+c.vars}))
 |0,k,hn,hk=>by refine .inl ⟨rfl,?_⟩;rw[af3 _ (by omega)];rfl
 |n+1,k,hn,hk=>by
  have hlt:k<P.length:=by omega
  have ih:=YE pr g rest a j6 call fJ ht fr s p hc hv ho n (k+1) (by omega) (by omega);rw[lG,aT hlt,af4 _ hlt,ht];rw[ht]at ih;simp only;by_cases e:iJ (P[k]).head g.t
  ·rw[ag (by simpa using e),ai e,jH];simp only;rw[<-hv]at ih ⊢;by_cases h1:(bM 400 [(dN (P[k]).head s.vars,g.t)] s.env).work<0;·rw[ai h1,ai h1];refine .inr (.inl ⟨_,rfl,?_,rfl⟩);simp only[Sv.put,ho]
   ·rw[ag h1,ag h1];by_cases h2:(bM 400 [(dN (P[k]).head s.vars,g.t)] s.env).ok=false
    ·rw[ai h2,ai h2];rcases ih with h|⟨s',h⟩|⟨c,m,E',h3,h⟩;·exact .inl h
     ·exact .inr (.inl ⟨s',h⟩)
     ·exact .inr (.inr ⟨c,m,E',Nat.lt_of_succ_lt h3,h⟩)
    ·rw[ag h2,ag h2];have hb:=Ws P g.t (P.length - (k+1)) (k+1);refine .inr (.inr ⟨P[k],kP P g.t (P.length - (k+1)) (k+1),_,by omega,YD 400 [(dN (P[k]).head s.vars,g.t)] s.env,?_,?_⟩);·rw[af0];simp only[hc]
     ·unfold RJ;rw[<-af5 g.t _ (k+1) rfl]
  ·rw[ai (by simpa using e),ag e];rcases ih with h|⟨s',h⟩|⟨c,m,E',h3,h⟩;·exact .inl h
   ·exact .inr (.inl ⟨s',h⟩)
   ·exact .inr (.inr ⟨c,m,E',Nat.lt_of_succ_lt h3,h⟩)
theorem sM.append{fr:List Fr}:∀{td RL:List Td}{gl RN:List Gl},sM P fr td gl->sM P fr RL RN->sM P fr (td++RL) (gl++RN)|[],RL,[],RN,_,h=>h|a::td,RL,b::gl,RN,h,h'=>⟨h.1,sM.append h.2 h'⟩|[],_,_::_,_,h,_=>h.elim|_::_,_,[],_,h,_=>h.elim
theorem sM.frames{fr fr':List Fr}:∀{td:List Td}{gl:List Gl},sM P fr td gl->(∀a∈td,fU P (below a.call fr')=fU P (below a.call fr))->sM P fr' td gl|[],[],_,_=>trivial|a::td,b::gl,h,h'=>⟨⟨h.1.1,by rw[h' a (by simp)];exact h.1.2⟩,sM.frames h.2 fun x hx=>h' x (by simp[hx])⟩|[],_::_,h,_=>h.elim|_::_,[],h,_=>h.elim
structure Lnk (P : List Cl) (q : Nat) (s : Sv) (p : Pv) (fr : List Fr) : Prop where
  ok : gZ P { s with choices := fU P fr }
  q : (q : Int) ≤ s.vars
  vK : Fx P fr
  fuel : p.fuel = s.fuel
  vars : s.vars = p.vars
  out : s.out = p.out
  ended : p.ended = false
  pre : ∀ x ∈ fr, x.env <+: s.env
  fJ : ∀ x ∈ fr, s.fuel < x.fJ
  calls : ∀ x ∈ fr, x.call ≤ p.calls
structure Fy (P : List Cl) (q : Nat) (s : Sv) (p : Pv) (fr : List Fr) (td : List Td) (gl : List Gl) : Prop extends Lnk P q s p fr where
  sN : s.choices = fU P fr
  oL : sw s.vars gl
  rel : sM P fr td gl
  desc : RG td
  IC : ∀ a ∈ td, a.call ≤ p.calls
def af7(P:List Cl)(q n:Nat):Prop:=∀(gl:List Gl)(td:List Td)(s:Sv)(p:Pv)(fr:List Fr)(k:Nat),Fy P q s p fr td gl->s.out.length<=11->s.fuel+13<=n+s.out.length->s.fuel<k->(rM P q n gl s).out=(resume P q fr (dh P q k td s.env p)).out
noncomputable def xn(P:List Cl)(q n:Nat)(r:Eo×Sv):Sv:=match r with|(.next g,s)=>rM P q n g s|(_,s)=>s
theorem gZ.self{s:Sv}{cs:List jO}(h:gZ P {s with choices:=cs})(e:s.choices=cs):gZ P s:=by subst e;exact h
theorem gZ.pop{s:Sv}{c:jO}{cs:List jO}(h:gZ P {s with choices:=c::cs}):gZ P {s with choices:=cs,env:=s.env.take c.trail}:=by
 have hc:=h.cO c (by simp);obtain⟨h1,h2,h3,h4,h5,h6,h7,h8⟩:=h;simp only at h1 h2 h3 h4 h5 h6 h7 h8;rw[ES]at h6 h7;have hT:=F9.1 h5;have htr:=hc.trail;simp only at htr;have hEl:(s.env.take c.trail).length=c.trail:=by rw[eY];omega
 refine⟨h1,h2,h3.take _,fun x hx=>?_,hT.2,by simp only;omega,by simp only[hEl];omega,by simp only[cK]at h8 ⊢;omega⟩;have k:=h4 x (by simp[hx]);exact⟨k.ne,k.oL,k.one,k.lt,by simp only[hEl];exact hT.1 x hx⟩
theorem af8{s:Sv}{p:Pv}{fr:List Fr}{c:Cl}{m call fJ:Nat}{E':Env}{a:Td}{j6:List Td}{g:Gl}{rest:List Gl}(h:Lnk P q s p fr)(hok:gZ P {s with env:=E',choices:=fU P (⟨call,a,j6,g,rest,s.env,m,fJ⟩::fr),vars:=s.vars+c.vars})(hgl:sw (s.vars+c.vars) (xX (fU P fr).length s.vars c.body rest))(hv:0<=c.vars)(hpre:s.env <+: E')(hrel:sM P fr (a::j6) (g::rest))(hd:RG (a::j6))(hlt:∀x∈fr,x.call<call)(hac:∀x∈a::j6,x.call<call)(hcp:call<=p.calls)(aqx:s.fuel<fJ):Fy P q {s with env:=E',choices:=fU P (⟨call,a,j6,g,rest,s.env,m,fJ⟩::fr),vars:=s.vars+c.vars} {p with vars:=p.vars+c.vars} (⟨call,a,j6,g,rest,s.env,m,fJ⟩::fr) (jG call p.vars c.body j6) (xX (fU P fr).length s.vars c.body rest):=by
 have hbelow:below call (⟨call,a,j6,g,rest,s.env,m,fJ⟩::fr)=fr:=by rw[Dr (show call<=(⟨call,a,j6,g,rest,s.env,m,fJ⟩:Fr).call from zL _),Yz hlt]
 refine{ok:=hok,q:=by have :=h.q;simp only;omega,vK:=⟨h.vK,hrel,hlt,hac,hd,h.pre⟩,fuel:=h.fuel,vars:=by simp only[h.vars],out:=h.out,ended:=h.ended,pre:=?_,fJ:=?_,calls:=?_,sN:=rfl,oL:=hgl,rel:=?_,desc:=?_,IC:=?_}
 ·intro x hx;rcases gK.1 hx with rfl|hx;·exact hpre
  ·exact(h.pre x hx).trans hpre
 ·intro x hx;rcases gK.1 hx with rfl|hx;·exact aqx
  ·exact h.fJ x hx
 ·intro x hx;rcases gK.1 hx with rfl|hx;·exact hcp
  ·exact h.calls x hx
 ·unfold jG xX;rw[<-h.vars];refine sM.append ?_ (sM.frames hrel.2 fun x hx=>by rw[Dr (Nat.le_of_lt (hac x (by simp[hx])))]);induction c.body with|nil=>trivial|cons t l ih=>exact⟨⟨rfl,by simp only[hbelow]⟩,ih⟩
 ·unfold jG;refine List.pairwise_append.2 ⟨?_,(F9.1 hd).2,?_⟩;·rw[List.pairwise_map];exact List.pairwise_of_forall fun _ _=>zL _
  ·intro x hx y hy;obtain⟨t,_,rfl⟩:=fZ.1 hx;exact Nat.le_of_lt (hac y (by simp[hy]))
 ·intro x hx;rcases fE.1 hx with hx|hx;·obtain⟨t,_,rfl⟩:=fZ.1 hx;exact hcp
  ·exact fM (Nat.le_of_lt (hac x (by simp[hx]))) hcp
theorem af9{k:Nat}{call:Nat}{d:Int}{l:List Tm}{j6:List Td}(hac:∀x∈j6,x.call<call)(E:Env)(p:Pv): -1<=(dh P q k (jG call d l j6) E p).1/\(dh P q k (jG call d l j6) E p).1<=call:=by
 have h:=RI (P:=P) (q:=q) k (jG call d l j6) E p;refine⟨h.ge,?_⟩;rcases h with h|⟨a,ha,h⟩;·omega
 ·rw[h];simp only[jG,fE,fZ]at ha;rcases ha with⟨x,_,rfl⟩|ha;·exact kr _
  ·have :=hac a ha;omega
theorem YF{n:Nat}(hA:af7 P q n):∀(fr:List Fr)(s:Sv)(p:Pv),Lnk P q s p fr->s.out.length<=11->s.fuel+13<=n+s.out.length->(xn P q n (iK P (fU P fr) s)).out=(resume P q fr (-1,p)).out
 |[],s,p,h,ho,hn=>by show(xn P q n (iK P [] s)).out=_;rw[iK,resume,ag (by simp[h.ended])];simp only[xn,Sv.put,Pv.put,h.out]
 |f::fr,s,p,h,ho,hn=>by
  obtain⟨f1,f2,f3,f4,f5,f6⟩:=h.vK;rw[resume,ag (by simp[h.ended]),ag (by simp only;omega)];simp only;have hok:=h.ok;rw[af0]at hok ⊢;by_cases hlt:f.next<P.length
  ·rw[ai hlt]at hok ⊢;have pX:=hok.pop;simp only at pX;have htk:s.env.take f.env.length=f.env:=by obtain⟨X,hX⟩:=h.pre f (by simp);rw[<-hX];simp
   rw[htk]at pX;have L6:Lnk P q {s with choices:=fU P fr,env:=f.env} p fr:={ok:=pX,q:=h.q,vK:=f1,fuel:=h.fuel,vars:=h.vars,out:=h.out,ended:=h.ended,pre:=f6,fJ:=fun x hx=>h.fJ x (by simp[hx]),calls:=fun x hx=>h.calls x (by simp[hx])};rw[iK];simp only[htk];rcases YE (P:=P) (dh P q f.fJ) f.gg f.BB f.g f.rest f.call f.fJ f2.1.1 fr {s with choices:=fU P fr,env:=f.env} p rfl h.vars h.out (P.length - f.next) f.next rfl (by omega)with⟨e1,e2⟩|⟨s',e1,e2,e3⟩|⟨c,m,E',e0,e1,e2,e3⟩;·rw[e1,e2];simp only;have :=YF hA fr _ p L6 ho hn;exact this
   ·rw[e1,e3];simp only[xn];rw[xm _ _ rfl,e2];rfl
   ·have e10:iK P (⟨f.gg::f.BB,f.next,f.env.length⟩::fU P fr) s=(.next (xX (fU P fr).length s.vars c.body f.BB),{s with env:=E',choices:=fU P (⟨f.call,f.g,f.rest,f.gg,f.BB,f.env,m,f.fJ⟩::fr),vars:=s.vars+c.vars}):=by rw[iK];simp only[htk];rw[e2]
    obtain⟨k1,k2, -⟩:=Hl _ s _ _ hok e10;have hcv:0<=c.vars:=by have b1:=KY (P.length - f.next) f.next _ _ _ rfl pX.prog pX.He (by have :=pX.KW;simp only at this ⊢;omega) pX.env pX.cO pX.QG (hok.cO _ (nk ..)).oL (by have :=hok.few;simp only[cK]at this ⊢;omega) e2;have b2:=b1.2.2.2.2.2.2.2.1;simp only at b2;omega
    rw[e2,e3];simp only[xn];have hG:=af8 (g:=f.gg) (rest:=f.BB) (call:=f.call) (fJ:=f.fJ) (m:=m) L6 (hok:=k1) (hgl:=k2) hcv e1 f2 f5 f3 f4 (h.calls f (by simp)) (h.fJ f (by simp));have RO:=hA _ _ _ _ _ f.fJ hG ho hn (h.fJ f (by simp));refine RO.trans ?_;simp only;have hb:=af9 (P:=P) (q:=q) (k:=f.fJ) (call:=f.call) (d:=p.vars) (l:=c.body) (j6:=f.rest) (fun x hx=>f4 x (by simp[hx])) E' {p with vars:=p.vars+c.vars};rw[<-af6 fr ⟨f.call,f.g,f.rest,f.gg,f.BB,f.env,m,f.fJ⟩ _ hb.1 hb.2]
  ·rw[ag hlt]at hok ⊢;rw[af3 _ (by omega),jH];exact YF hA fr s p {ok:=hok,q:=h.q,vK:=f1,fuel:=h.fuel,vars:=h.vars,out:=h.out,ended:=h.ended,pre:=fun x hx=>h.pre x (by simp[hx]),fJ:=fun x hx=>h.fJ x (by simp[hx]),calls:=fun x hx=>h.calls x (by simp[hx])} ho hn
theorem Fy.turn {s s' : Sv} {p p' : Pv} {fr : List Fr} {a : Td} {td : List Td} {g : Gl} {gl : List Gl} (h : Fy P q s p fr (a :: td) (g :: gl)) (hok : gZ P s') (hc : s'.choices = s.choices) (hv : s'.vars = s.vars) (hf : s'.fuel ≤ s.fuel) (ho : s'.out = s.out) (hE : s.env <+: s'.env)
    (h1 : p'.fuel = s'.fuel) (h2 : p'.vars = p.vars) (h3 : p'.out = p.out) (h4 : p'.ended = p.ended) (h5 : p'.calls = p.calls) : Fy P q s' p' fr td gl := by
  obtain ⟨⟨a1, a2, a3, a4, a5, a6, a7, a8, a9, Be⟩, b1, b2, b3, b4, b5⟩ := h
  exact { ok := by
            have e : ({ s' with choices := fU P fr } : Sv) = s' := by rw [← b1, ← hc]
            rw [e]; exact hok
          q := by omega, vK := a3, fuel := h1, vars := by omega, out := by rw [ho, h3]; exact a6, ended := by rw [h4]; exact a7, pre := fun x hx => (a8 x hx).trans hE, fJ := fun x hx => by have := a9 x hx; omega, calls := by rw [h5]; exact Be,
          sN := by rw [hc]; exact b1, oL := by rw [hv]; exact fun x hx => b2 x (by simp [hx]), rel := b3.2, desc := (F9.1 b4).2, IC := by rw [h5]; exact fun x hx => b5 x (by simp [hx]) }
theorem Fy.self{s:Sv}{p:Pv}{fr:List Fr}{td:List Td}{gl:List Gl}(h:Fy P q s p fr td gl):gZ P s:=h.ok.self h.sN
theorem allA:∀n,af7 P q n
 |0,gl,td,s,p,fr,k,h,ho,hn,hk=>by omega
 |n+1,gl,td,s,p,fr,0,h,ho,hn,hk=>by omega
 |n+1,gl,td,s,p,fr,k+1,h,ho,hn,hk=>by
  have hA:=allA n;have hB:=YF hA;match gl,td,h with
   |[],a::td,h=>exact h.rel.elim
   |g::gl,[],h=>exact h.rel.elim
   |[],[],h=>
    rw[rM,dh];unfold rJ yS;have hO:=h.out;have hEn:=h.ended;cases bL s.env 200 ((List.range q).map fun i=>fw (i:Nat))with
     |none=>simp only;rw[xm _ _ rfl];simp only[Sv.put,Pv.put,hO]
     |some r=>
      obtain⟨l,w'⟩:=r;simp only;rw[<-hO];by_cases h12:(s.out++[(⟨1,tidy l⟩:Ev)]).length≥12;·rw[ai h12,ai h12];simp only;rw[xm _ _ rfl];rfl
      ·rw[ag h12,ag h12];simp only;show(xn P q n (iK P _ _)).out=_;obtain⟨a1,a2,a3,a4,a5,a6,a7,a8,a9,Be⟩:=h.toLnk;obtain⟨c1,c2,c3,c4,c5,c6,c7,c8⟩:=a1;rw[h.sN];have hlen:(s.out++[(⟨1,tidy l⟩:Ev)]).length=s.out.length+1:=by simp
       have :=hB fr {s with out:=s.out++[⟨1,tidy l⟩]} {p with out:=s.out++[⟨1,tidy l⟩]} {ok:=⟨c1,c2,c3,c4,c5,c6,c7,c8⟩,q:=a2,vK:=a3,fuel:=a4,vars:=a5,out:=rfl,ended:=a7,pre:=a8,fJ:=a9,calls:=Be} (by simp only;omega) (by simp only;omega);rw[h.sN]at this;exact this
   |g::gl,a::td,h=>
    have hO:=h.out;have hEn:=h.ended;have hF:=h.fuel;have hV:=h.vars;have hat:=h.rel.1.1;rw[rM,dh];unfold uY;by_cases hf:s.fuel=0;·rw[ai hf,ai (show p.fuel=0 by omega)];rw[xm _ _ rfl];simp only[Sv.put,Pv.put,hO]
    ·rw[ag hf,ag (show ¬p.fuel=0 by omega)];simp only;rw[hF];have hs:=h.self;have hp:=QH s.fuel s.choices hf;have hs1:gZ P {s with fuel:=s.fuel - 1}:=by obtain⟨h1,h2,h3,h4,h5,h6,h7,h8⟩:=hs;rw[hp]at h6 h7;exact⟨h1,h2,h3,h4,h5,by simp only;omega,by simp only;omega,by simp only;omega⟩
     have hpe:({s with fuel:=s.fuel - 1}:Sv).env.length+400+400*bY ({s with fuel:=s.fuel - 1}:Sv).fuel ({s with fuel:=s.fuel - 1}:Sv).choices<=1500000:=by have :=hs.Wq;rw[hp]at this;simp only;omega
     have aqz:g.t.In s.vars:=(h.oL g (by simp)).1;have RQ:∀(s':Sv),gZ P s'->s'.choices=s.choices->s'.vars=s.vars->s'.fuel=s.fuel - 1->s'.out=s.out->s.env <+: s'.env->(rM P q n gl s').out=(resume P q fr (dh P q k td s'.env {p with fuel:=s.fuel - 1})).out:=fun s' k1 k2 k3 k4 k5 k6=>hA gl td s' _ fr k (h.turn k1 k2 k3 (by omega) k5 k6 (by simp only;omega) rfl rfl rfl rfl) (by rw[k5];exact ho) (by rw[k5];omega) (by omega);have RS:∀(s':Sv),gZ P s'->s'.choices=s.choices->s'.vars=s.vars->s'.fuel=s.fuel - 1->s'.out=s.out->s.env <+: s'.env->(xn P q n (iK P s'.choices s')).out=(resume P q fr (-1,{p with fuel:=s.fuel - 1})).out:=fun s' k1 k2 k3 k4 k5 k6=>by have hL:=(h.turn k1 k2 k3 (by omega) k5 k6 (p':={p with fuel:=s.fuel - 1}) (by simp only;omega) rfl rfl rfl rfl);rw[hL.sN];exact hB fr s' _ hL.toLnk (by rw[k5];exact ho) (by rw[k5];omega)
     by_cases hkn:g.t.gF
     ·rw[ai hkn,ai (show a.t.gF by rw[hat];exact hkn)];have hko:=fun s' r e hr=>K3 (s':=s') (r:=r) hs1 aqz hkn hpe e hr;unfold mi;unfold zA at hko ⊢;rw[hat];simp only at hko ⊢;by_cases n1:g.t.s.toList=[33]
      ·rw[ai n1]at hko ⊢;rw[ai n1];simp only;have hb:=h.rel.1.2;have hk1:=(hko _ _ rfl (by simp)).1;have hcut:s.choices.drop (s.choices.length - g.bar)=fU P (below a.call fr):=by rw[h.sN,hb,aqu]
       have hpr:=RI (P:=P) (q:=q) k td s.env {p with fuel:=s.fuel - 1};rw[aqv a.call _ hpr.ge fr h.vK];have hd:=F9.1 h.desc;refine hA gl td {s with fuel:=s.fuel - 1,choices:=s.choices.drop (s.choices.length - g.bar)} {p with fuel:=s.fuel - 1} (below a.call fr) k ?_ ho (by simp only;omega) (by simp only;omega);exact{ok:=by rw[<-hcut];exact hk1,q:=h.q,vK:=RH _ h.vK,fuel:=rfl,vars:=h.vars,out:=h.out,ended:=h.ended,pre:=fun x hx=>h.pre x (YC hx),fJ:=fun x hx=>by have :=h.fJ x (YC hx);simp only;omega,calls:=fun x hx=>h.calls x (YC hx),sN:=hcut,oL:=fun x hx=>h.oL x (by simp[hx]),rel:=h.rel.2.frames fun x hx=>by rw[YA (hd.1 x hx)],desc:=hd.2,IC:=fun x hx=>h.IC x (by simp[hx])}
      rw[ag n1]at hko ⊢;rw[ag n1];by_cases n2:g.t.s.toList=[116,114,117,101];·rw[ai n2]at hko ⊢;rw[ai n2];exact RQ {s with fuel:=s.fuel - 1} hs1 rfl rfl rfl rfl Jz
      rw[ag n2]at hko ⊢;rw[ag n2];by_cases n3:g.t.s.toList=[102,97,105,108];·rw[ai n3]at hko ⊢;rw[ai n3];simp only;show(xn P q n (iK P _ _)).out=_;exact RS {s with fuel:=s.fuel - 1} hs1 rfl rfl rfl rfl Jz
      rw[ag n3]at hko ⊢;rw[ag n3];by_cases n4:g.t.s.toList=[101,113]
      ·rw[ai n4]at hko ⊢;rw[ai n4];have hpre:=YD 400 [((g.t.args[0]?).getD default,(g.t.args[1]?).getD default)] s.env;generalize bM 400 [((g.t.args[0]?).getD default,(g.t.args[1]?).getD default)] s.env=u at*;by_cases hw:u.work<0;·rw[ai hw,ai hw];simp only;rw[xm _ _ rfl];simp only[Sv.put,Pv.put,hO]
       ·rw[ag hw]at hko ⊢;rw[ag hw];have hk1:=(hko _ _ rfl (by simp)).1;cases hu:u.ok with|true=>simp only[ag (show ¬(true=false)by simp)];exact RQ {s with fuel:=s.fuel - 1,env:=u.env} hk1 rfl rfl rfl rfl hpre|false=>simp only[if_true];show(xn P q n (iK P _ _)).out=_;exact RS {s with fuel:=s.fuel - 1,env:=u.env} hk1 rfl rfl rfl rfl hpre
      rw[ag n4]at hko ⊢;rw[ag n4];generalize ax s.env ((g.t.args[0]?).getD default)=x at*;generalize ax s.env ((g.t.args[1]?).getD default)=y at*;by_cases n5:x.kind≠2\/y.kind≠2;·rw[ai n5,ai n5];simp only;rw[xm _ _ rfl];simp only[Sv.put,Pv.put,hO]
      rw[ag n5]at hko ⊢;rw[ag n5];by_cases n6:g.t.s.toList=[108,101,115,115]
      ·rw[ai n6]at hko ⊢;rw[ai n6];by_cases hl:x.n<y.n;·rw[ai hl,acn hl];exact RQ {s with fuel:=s.fuel - 1} hs1 rfl rfl rfl rfl Jz
       ·rw[ag hl,decide_eq_false hl];simp only;show(xn P q n (iK P _ _)).out=_;exact RS {s with fuel:=s.fuel - 1} hs1 rfl rfl rfl rfl Jz
      rw[ag n6]at hko ⊢;rw[ag n6];by_cases n7:x.n+y.n>1099511627776\/x.n+y.n< -1099511627776;·rw[ai n7,ai n7];simp only;rw[xm _ _ rfl];simp only[Sv.put,Pv.put,hO]
      rw[ag n7]at hko ⊢;rw[ag n7];have hpre:=YD 400 [((g.t.args[2]?).getD default,Tm.mk 2 (x.n+y.n) .empty [])] s.env;generalize bM 400 [((g.t.args[2]?).getD default,Tm.mk 2 (x.n+y.n) .empty [])] s.env=u at*;have hk1:=(hko _ _ rfl (by simp)).1;cases hu:u.ok with|true=>simp only[ag (show ¬(true=false)by simp)];exact RQ {s with fuel:=s.fuel - 1,env:=u.env} hk1 rfl rfl rfl rfl hpre|false=>simp only[if_true];show(xn P q n (iK P _ _)).out=_;exact RS {s with fuel:=s.fuel - 1,env:=u.env} hk1 rfl rfl rfl rfl hpre
     ·rw[ag hkn,ag (show ¬a.t.gF by rw[hat];exact hkn)];have aga:gJ P a.t 0=[]↔∀c∈P,¬iJ c.head g.t:=by unfold gJ;rw[Gg,Ve,hat];simp
      by_cases hno:∀c∈P,¬iJ c.head g.t;·rw[ai hno,ai (aga.2 hno)];simp only;rw[xm _ _ rfl];simp only[Sv.put,Pv.put,hO]
      rw[ag hno,ag (fun e=>hno (aga.1 e))];have L6:Lnk P q {s with fuel:=s.fuel - 1} {p with fuel:=s.fuel - 1,calls:=p.calls+1} fr:={ok:=by rw[<-h.sN];exact hs1,q:=h.q,vK:=h.vK,fuel:=rfl,vars:=h.vars,out:=h.out,ended:=h.ended,pre:=h.pre,fJ:=fun x hx=>by have :=h.fJ x hx;simp only;omega,calls:=fun x hx=>by have :=h.calls x hx;simp only;omega};have hac:∀x∈a::td,x.call<p.calls+1:=fun x hx=>by have :=h.IC x hx;omega
      rcases YE (P:=P) (dh P q k) g gl a td (p.calls+1) k hat fr {s with fuel:=s.fuel - 1} {p with fuel:=s.fuel - 1,calls:=p.calls+1} h.sN h.vars h.out P.length 0 (by omega) (by omega)with⟨e1,e2⟩|⟨s',e1,e2,e3⟩|⟨c,m,E',e0,e1,e2,e3⟩;·simp only at e1 e2;rw[e1,e2];simp only;show(xn P q n (iK P _ _)).out=_;have :=hB fr {s with fuel:=s.fuel - 1} _ L6 ho (by simp only;omega);rw[h.sN]at this ⊢;exact this
      ·simp only at e1 e2 e3;rw[e1,e3];simp only;rw[xm _ _ rfl,e2];rfl
      ·simp only at e1 e2 e3;obtain⟨b1,b2,b3,b4,b5,b6,b7,b8,b9,b10,b11,b12⟩:=KY P.length 0 {s with fuel:=s.fuel - 1} _ _ (by omega) hs1.prog hs1.He (by have :=hs1.KW;simp only at this ⊢;omega) hs1.env hs1.cO hs1.QG h.oL (by have :=hs.few;simp only;omega) e2;obtain⟨k1,k2, -⟩:=Wv (P:=P) (g:=g) (rest:=gl) hs h.oL (s':={s with fuel:=s.fuel - 1,env:=E',choices:=fU P (⟨p.calls+1,a,td,g,gl,s.env,m,k⟩::fr),vars:=s.vars+c.vars}) (gl:=xX s.choices.length s.vars c.body gl) (by unfold uY;rw[ag hf];simp only;rw[ag hkn,ag hno,e2]);simp only at b8;have hcl:(fU P fr).length=s.choices.length:=by rw[h.sN]
       have hG:=af8 (g:=g) (rest:=gl) (a:=a) (j6:=td) (call:=p.calls+1) (fJ:=k) (m:=m) (E':=E') L6 (hok:=k1) (hgl:=by rw[hcl];exact k2) (by omega) e1 h.rel h.desc (fun x hx=>by have :=h.calls x hx;omega) hac (zL _) (by simp only;omega);rw[e2,e3];simp only;have RO:=hA _ _ _ _ _ k hG ho (by simp only;omega) (by simp only;omega);rw[hcl]at RO;refine RO.trans ?_;have hb:=af9 (P:=P) (q:=q) (k:=k) (call:=p.calls+1) (d:=p.vars) (l:=c.body) (j6:=td) (fun x hx=>hac x (by simp[hx])) E' {p with fuel:=s.fuel - 1,calls:=p.calls+1,vars:=p.vars+c.vars};have hR:=af6 (P:=P) (q:=q) fr ⟨p.calls+1,a,td,g,gl,s.env,m,k⟩ _ hb.1 hb.2;rw[hat]at hR ⊢;simp only at hR;rw[hR]
noncomputable def vL(P:List Cl)(Q:List Tm)(vars fuel:Int):List Ev×Int:=haveI :=Classical.propDecidable (dW P/\fP Q vars);if ¬(dW P/\fP Q vars)then([],1)else if fuel<0\/fuel>150 then([],2)else let r:=dh P vars.toNat (fuel.toNat+1) (Q.map fun t=>⟨t,0⟩) [] ⟨fuel.toNat,vars,[],false,0⟩;((if r.2.ended=true then r.2 else r.2.put 2).out,0)
theorem aqA(P:List Cl)(Q:List Tm)(vars fuel:Int):wH P Q vars fuel=vL P Q vars fuel:=by
 unfold vL;rcases RF P Q vars fuel with⟨hn,e⟩|⟨hg,hf,e⟩|⟨hg,h0,h1,e⟩;·rw[e,ai hn]
 ·rw[e,ag (by simpa using hg),ai hf]
 ·rw[e,ag (by simpa using hg),ag (by omega)];obtain⟨a1,a2⟩:=afZ (f:=fuel.toNat) hg.1 hg.2 (by omega);have h:=allA (P:=P) (q:=vars.toNat) (fuel.toNat+14) (Q.map fun t=>⟨t,0⟩) (Q.map fun t=>⟨t,0⟩) ⟨[],[],vars,fuel.toNat,[]⟩ ⟨fuel.toNat,vars,[],false,0⟩ [] (fuel.toNat+1) {ok:=a1,q:=by have :=a1.He;simp only at this ⊢;omega,vK:=trivial,fuel:=rfl,vars:=rfl,out:=rfl,ended:=rfl,pre:=by simp,fJ:=by simp,calls:=by simp,sN:=rfl,oL:=a2,rel:=by clear hg e a2;induction Q with|nil=>trivial|cons t l ih=>exact⟨⟨rfl,rfl⟩,ih⟩,desc:=by unfold RG;rw[List.pairwise_map];exact List.pairwise_of_forall fun _ _=>zL _,IC:=by intro x hx;obtain⟨t,_,rfl⟩:=fZ.1 hx;exact zL _} (by simp) (by simp) (by simp);simp only[resume]at h;rw[h]
end
theorem aqB{h:Hp}(hg:h.Good)(tr:Nat):Hp.Good ⟨iw h.cells (h.trail.drop tr),h.trail.take tr⟩:=by
 obtain⟨g1,g2,g3,g4⟩:=hg;refine⟨fun i hi=>?_,fun j hj=>?_,by rw[uT];exact g3,by simp only[eY];omega⟩
 ·have hi':i<h.cells.length:=by rw[uT]at hi;exact hi
  have e:Ce.fF (iw h.cells (h.trail.drop tr)).length=Ce.fF h.cells.length:=by rw[uT]
  show Ce.fF (iw h.cells (h.trail.drop tr)).length i _;rw[e,JV];have h1:=g1 i hi';split
  ·rename_i hm;obtain⟨j,hj,e⟩:=ng.1 (F7 hm);obtain⟨v,e2,hv,hk⟩:=g2 j hj;have hvi:(v:Int)=i:=e2.symm.trans e;have :v=i:=by omega
   subst this;left;rcases h1 with⟨a1,a2,a3,a4⟩|⟨a1,_⟩|⟨a1,_⟩|⟨a1,_⟩;·exact⟨a1,by simp only;omega,by simp only;omega,a4⟩
   all_goals(rw[hk]at a1;simp at a1)
  ·exact h1
 ·simp only[eY]at hj;obtain⟨v,e,hv,hk⟩:=g2 j (by omega);refine⟨v,by simp only[List.getElem_take];exact e,by rw[uT];exact hv,?_⟩;simp only;rw[JV];split<;>exact hk
theorem agb{h:Hp}(hg:h.Good){top tr:Nat}(htop:top<=h.cells.length)(htr:tr<=h.trail.length)(ho:(eu h top tr).Good):(qL (qK h (tr:Int)).1 (top:Int)).1=eu h top tr:=by
 have hu:=aqB hg tr;have e1:(qK h (tr:Int)).1=⟨iw h.cells (h.trail.drop tr),h.trail.take tr⟩:=by rw[qK,ag (dJ hg),ag (dJ ⟨zN _,by omega⟩),dG]
 rw[e1,qL,ag (dJ hu),ag (dJ ⟨zN _,by simp only[uT];omega⟩),ag (dJ ?_)];·simp only[dG];rfl
 ·simp only[dG];exact ho
theorem IE{P:List Cl}{n:Nat}{g:Gm}:∀(j k:Nat)(m m':Mv),fI P n g j k m=(.no,m')->m'=m
 |0,k,m,m',h=>by simp[fI]at h;exact h.symm
 |j+1,k,m,m',h=>by
  rw[fI]at h;have ih:=IE (P:=P) (n:=n) (g:=g) j (k+1) m m';split at h;·simpa using h.symm
  ·split at h;·exact ih h
   ·simp only at h;split at h;·simp at h
    ·split at h;·simp at h
     ·split at h;·exact ih h
      ·simp at h
theorem RU{P:List Cl}{q:Nat}(hP:dW P):∀(cs:List Cm)(ds:List jO)(m:Mv)(s:Sv),LC P q m s cs ds->(q:Int)<=s.vars->Both q (kF P cs m) (iK P ds s)
 |[],[],m,s,B,_=>by rw[kF,iK];show m.out++_=s.out++_;rw[B.out]
 |[],_::_,m,s,B,_=>B.cO.elim
 |_::_,[],m,s,B,_=>B.cO.elim
 |c::cs,d::ds,m,s,B,dB=>by
  obtain⟨k,hle,hrest⟩:=B.cO;have hdo:=B.ok.cO d (by simp);have pX:=B.ok.pop;have hpw:=(F9.1 B.ok.QG).1;have hv1:=B.ok.KW;simp only at hdo pX hpw hv1;rw[kF,iK,agb B.good k.top k.tr k.good];cases hg:d.g with
   |nil=>exact absurd hg hdo.ne
   |cons g rest=>
    simp only;have hlen:=Bl (h:=m.h) c.top c.trail k.top;have LF:kG (eu m.h c.top c.trail) (s.env.take d.trail) s.vars q m.query m.goals cs ds:=hrest.imp fun x y hx hy r=>by
     obtain⟨h1,h2⟩:=hle x hx;refine r.move (afe h1 h2) (by rw[hlen];exact h1) ?_ ?_ ?_ (kr _) (fun _ _=>rfl) (zL _);·show x.trail<=(m.h.trail.take c.trail).length;rw[eY];have :=k.tr;omega
     ·rw[Vo,Gd (hpw y hy)]
     ·rw[eY];have :=hpw y hy;have :=r.zX;omega
    have L8:=k.snap;rw[hg]at L8;have C:Fg q {m with choices:=cs,h:=eu m.h c.top c.trail} {s with choices:=ds,env:=s.env.take d.trail} c.goal g rest:={good:=k.good,env:=pX.env,v0:=pX.He,v1:=by simp only;omega,qv:=dB,gt:=(hdo.oL g (by rw[hg];simp)).1,fuel:=B.fuel,out:=B.out,tr:=by show(m.h.trail.take c.trail).length<=(s.env.take d.trail).length;rw[eY,eY];have :=k.XJ;have :=k.zX;omega,cur:=L8,cO:=LF,bY:=by show(eu m.h c.top c.trail).cells.length+300+mV m.fuel m.out<=60000;rw[hlen];exact B.mW c (by simp),mW:=fun x hx=>B.mW x (by simp[hx]),lL:=B.lL};have hcall:=XN hP C (P.length - d.at_) d.at_ rfl;rw[k.from_];have hno:=IE (P:=P) (n:=c.goal) (g:=cB m c.goal) (P.length - d.at_) d.at_ {m with choices:=cs,h:=eu m.h c.top c.trail};have YG:=KX (P:=P) (g:=g) (rest:=rest) (P.length - d.at_) d.at_ {s with choices:=ds,env:=s.env.take d.trail};have e1:cB {m with choices:=cs,h:=eu m.h c.top c.trail} c.goal=cB m c.goal:=rfl;rw[e1]at hcall;generalize fI P c.goal (cB m c.goal) (P.length - d.at_) d.at_ {m with choices:=cs,h:=eu m.h c.top c.trail}=rm at*;generalize lG P g rest (P.length - d.at_) d.at_ {s with choices:=ds,env:=s.env.take d.trail}=rs at*;obtain⟨ra,m'⟩:=rm;obtain⟨rb,s'⟩:=rs;cases ra with
     |next=>cases rb with|next gl=>exact hcall|no=>exact hcall.elim|off=>exact hcall.elim
     |off=>cases rb with|next gl=>exact hcall.elim|no=>exact hcall.elim|off=>exact hcall
     |no=>cases rb with|next gl=>exact hcall.elim|off=>exact hcall.elim|no=>obtain rfl:=hno m' rfl;obtain rfl:=YG s' rfl;simp only;exact RU hP cs ds _ _ ⟨pX,k.good,B.fuel,B.out,LF,fun x hx=>B.mW x (by simp[hx]),B.lL⟩ dB
