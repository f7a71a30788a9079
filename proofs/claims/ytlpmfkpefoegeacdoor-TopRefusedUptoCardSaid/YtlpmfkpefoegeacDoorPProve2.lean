import Derived.Test.YtlpmfkpefoegeacDoorHLoad
namespace Go.Proofs.YtlpmfkpefoegeacDoor
set_option maxRecDepth 100000
set_option maxHeartbeats 16000000
set_option linter.all false
theorem Zl6(E:Env):∀(w:Nat)(s ts:List Tm)(w':Nat),flL E w s=some (ts,w')->Tm.nodesL ts+w'=w:=by
 intro w;induction w using Nat.strongRecOn with
  |_ w ih=>
   intro s ts w' h;match w,s,ih,h with
    |w,[],_,h=>rw[Zdt]at h;simp at h;obtain⟨rfl,rfl⟩:=h;simp[Tm.nodesL]
    |0,_::_,_,h=>rw[ZdV]at h;cases h
    |w+1,a::r,ih,h=>
     rw[flL]at h;try simp only at h
     split at h;·simp at h
     ·rename_i _ ts1 w1 h1;have k0:=ZlD E w _ _ _ h1;have k1:=ih w (by omega) _ _ _ h1;rw[Nat.min_eq_right k0.1]at h;split at h;·simp at h
      ·rename_i _ rs w2 h2;have k2:=ih w1 (by omega) _ _ _ h2;simp only[Option.some.injEq,Prod.mk.injEq]at h;obtain⟨rfl,rfl⟩:=h;simp only[Tm.nodesL,Tm.nodes];omega
theorem Znr{N:Int}{E:Env}(hE:EnvOk N E):∀(w:Nat)(s ts:List Tm)(w':Nat),(∀t∈s,t.In N)->flL E w s=some (ts,w')->∀t∈ts,t.In N:=by
 intro w;induction w using Nat.strongRecOn with
  |_ w ih=>
   intro s ts w' hs h;match w,s,ih,h,hs with
    |w,[],_,h,_=>rw[Zdt]at h;simp at h;obtain⟨rfl,rfl⟩:=h;simp
    |0,_::_,_,h,_=>rw[ZdV]at h;cases h
    |w+1,a::r,ih,h,hs=>
     have hx:=ZbU hE (hs a (by simp));rw[flL]at h;try simp only at h
     generalize slook E a=x at*;split at h;·simp at h
     ·rename_i _ ts1 w1 h1;have k0:=ZlD E w _ _ _ h1;have k1:=ih w (by omega) _ _ _ (fun t ht=>hx.arg ht) h1;rw[Nat.min_eq_right k0.1]at h;split at h;·simp at h
      ·rename_i _ rs w2 h2;have k2:=ih w1 (by omega) _ _ _ (fun t ht=>hs t (by simp[ht])) h2;simp only[Option.some.injEq,Prod.mk.injEq]at h;obtain⟨rfl,rfl⟩:=h;intro t ht;rcases List.mem_cons.1 ht with rfl|ht;·have k3:=k0.2;cases hx with|var n h0 h1'=>simp only[Tm.args,List.length_nil,List.length_eq_zero_iff]at k3;subst k3;exact .var n h0 h1'|atom s h9=>simp only[Tm.args,List.length_nil,List.length_eq_zero_iff]at k3;subst k3;exact .atom s h9|int n h0 h1'=>simp only[Tm.args,List.length_nil,List.length_eq_zero_iff]at k3;subst k3;exact .int n h0 h1'|comp s l a1 a2 a3 a4 a5=>simp only[Tm.args]at k3;exact .comp s ts1 a1 a2 (by omega) (by omega) k1
       ·exact k2 t ht
namespace Tm
theorem Zk4{σ:Type}(f:σ->Int->Int×σ):∀(t:Tm)(st:σ),(renS f st t).1.nodes=t.nodes:=by
 intro t;induction t using induct with
  |h k n s l ih=>
   intro st;have hL:∀(r:List Tm),(∀t∈r,t∈l)->∀st:σ,nodesL (renSL f st r).1=nodesL r:=by intro r;induction r with|nil=>intro _ st;rfl|cons x r ihr=>intro hm st;simp only[renSL,nodesL,ih x (hm x (by simp)),ihr (fun t ht=>hm t (by simp[ht]))]
   simp only[renS,nodes,hL l (fun _ h=>h)]
theorem renSL_nodes{σ:Type}(f:σ->Int->Int×σ):∀(l:List Tm)(st:σ),nodesL (renSL f st l).1=nodesL l|[],st=>rfl|x::r,st=>by simp only[renSL,nodesL,Zk4,renSL_nodes f r]
theorem Zl7(st:List Int)(n:Int):st.length<=(Zaq st n).2.length/\0<=(Zaq st n).1/\(Zaq st n).1<(Zaq st n).2.length:=by
 unfold Zaq;split;·rename_i h;have :=List.idxOf_lt_length_of_mem h;exact⟨zL _,by simp only;omega,by simp only;omega⟩
 ·simp;omega
theorem Zl8{N:Int}:∀(t:Tm)(st:List Int),t.Good N->st.length<=(renS Zaq st t).2.length/\(renS Zaq st t).2.length<=st.length+t.nodes/\∀M:Int,((renS Zaq st t).2.length:Int)<=M->(renS Zaq st t).1.Good M:=by
 intro t;induction t using induct with
  |h k n s l ih=>
   intro st hg;have hL:∀(r:List Tm),(∀t∈r,t∈l)->∀st:List Int,(∀t∈r,t.Good N)->st.length<=(renSL Zaq st r).2.length/\(renSL Zaq st r).2.length<=st.length+nodesL r/\∀M:Int,((renSL Zaq st r).2.length:Int)<=M->∀t∈(renSL Zaq st r).1,t.Good M:=by
    intro r;induction r with
     |nil=>intro _ st _;simp[renSL,nodesL]
     |cons x r ihr=>
      intro hm st hg;obtain⟨a1,a2,a3⟩:=ih x (hm x (by simp)) st (hg x (by simp));obtain⟨b1,b2,b3⟩:=ihr (fun t ht=>hm t (by simp[ht])) (renS Zaq st x).2 (fun t ht=>hg t (by simp[ht]));refine⟨by simp only[renSL];omega,by simp only[renSL,nodesL];omega,fun M hM t ht=>?_⟩;simp only[renSL]at hM ht;rcases List.mem_cons.1 ht with rfl|ht;·exact a3 M (by omega)
      ·exact b3 M hM t ht
   cases hg with
    |var n h0 h1=>have :=Zl7 st n;simp only[renS,num,if_true,renSL,nodes,nodesL];refine⟨this.1,?_,fun M hM=> .var _ this.2.1 (by omega)⟩;unfold Zaq;split<;>simp
    |atom s h=>simp only[renS,num,renSL,nodes,nodesL];exact⟨by simp,by simp,fun M hM=> .atom s h⟩
    |int n h0 h1=>simp only[renS,num,renSL,nodes,nodesL];exact⟨by simp,by simp,fun M hM=> .int n h0 h1⟩
    |comp s l a1 a2 a3 a4 a5=>
     obtain⟨b1,b2,b3⟩:=hL l (fun _ h=>h) st a5;have e3:num Zaq st 3 0=((0:Int),st):=rfl;simp only[renS,e3,nodes];refine⟨b1,by omega,fun M hM=> .comp s _ a1 a2 ?_ ?_ (b3 M hM)⟩;·rw[renSL_length];exact a3
     ·rw[renSL_length];exact a4
theorem renSL_good{N:Int}:∀(r:List Tm)(st:List Int),(∀t∈r,t.Good N)->st.length<=(renSL Zaq st r).2.length/\(renSL Zaq st r).2.length<=st.length+nodesL r/\∀M:Int,((renSL Zaq st r).2.length:Int)<=M->∀t∈(renSL Zaq st r).1,t.Good M
 |[],st,_=>by simp[renSL,nodesL]
 |x::r,st,hg=>by
  obtain⟨a1,a2,a3⟩:=Zl8 x st (hg x (by simp));obtain⟨b1,b2,b3⟩:=renSL_good r (renS Zaq st x).2 (fun t ht=>hg t (by simp[ht]));refine⟨by simp only[renSL];omega,by simp only[renSL,nodesL];omega,fun M hM t ht=>?_⟩;simp only[renSL]at hM ht;rcases List.mem_cons.1 ht with rfl|ht;·exact a3 M (by omega)
  ·exact b3 M hM t ht
end Tm
def Zns(q:Nat)(l:List Tm):Prop:=l.length=q/\(∀t∈l,t.Good 200)/\Tm.nodesL l<=200
theorem Zk5{N:Int}{q:Nat}{s s':Sv}{b:Bool}(hE:EnvOk N s.env)(hq:(q:Int)<=N)(e:Zby q s=(b,s')):(b=false/\s'.out=s.out++[⟨4,[]⟩])\/(∃l,Zns q l/\((b=true/\s'.out=s.out++[⟨1,l⟩]/\s.out.length<11/\s'.env=s.env/\s'.choices=s.choices/\s'.vars=s.vars/\s'.fuel=s.fuel)\/(b=false/\11<=s.out.length/\s'.out=s.out++[⟨1,l⟩]++[⟨6,[]⟩]))):=by
 unfold Zby at e;split at e;·simp only[Prod.mk.injEq]at e;obtain⟨rfl,rfl⟩:=e;exact .inl ⟨rfl,rfl⟩
 ·rename_i l w' h;have h1:=ZlD _ _ _ _ _ h;have h2:=Zl6 _ _ _ _ _ h;have h3:=Znr hE _ _ _ _ (by intro t ht;simp only[List.mem_map,List.mem_range]at ht;obtain⟨i,hi,rfl⟩:=ht;exact .var _ (by omega) (by omega)) h;obtain⟨k1,k2,k3⟩:=Tm.renSL_good l [] h3;have hA:Zns q (tidy l):=by
   refine⟨?_,k3 200 (by simp only[List.length_nil]at k2;omega),?_⟩;·unfold tidy;rw[Tm.renSL_length,h1.2];simp
   ·unfold tidy;rw[Tm.renSL_nodes];omega
  refine .inr ⟨_,hA,?_⟩;simp only[List.length_append,List.length_singleton]at e;split at e;·simp only[Prod.mk.injEq]at e;obtain⟨rfl,rfl⟩:=e;exact .inr ⟨rfl,by omega,rfl⟩
  ·simp only[Prod.mk.injEq]at e;obtain⟨rfl,rfl⟩:=e;exact .inl ⟨rfl,rfl,by omega,rfl,rfl,rfl,rfl⟩
section
variable {P : List Cl}
theorem Zgo{g:Gl}{rest:List Gl}:∀(n k:Nat)(s s':Sv),ZcM P g rest n k s=(.off,s')->s'.out=s.out++[⟨4,[]⟩]
 |0,k,s,s',h=>by simp[ZcM]at h
 |n+1,k,s,s',h=>by
  rw[ZcM]at h;have ih:=Zgo (g:=g) (rest:=rest) n (k+1) s s';split at h;·simp at h
  ·split at h;·exact ih h
   ·simp only at h;split at h;·simp only[Prod.mk.injEq,true_and]at h;subst h;rfl
    ·split at h;·exact ih h
     ·simp at h
theorem ZdF:∀(cs:List Chc)(s s':Sv)(r:Res),(∀c∈cs,c.g≠[])->ZcB P cs s=(r,s')->(∀gl,r≠ .next gl)->r= .off/\∃k,s'.out=s.out++[⟨k,[]⟩]/\2<=k/\k<=5
 |[],s,s',r,hg,h,hr=>by simp only[ZcB,Prod.mk.injEq]at h;obtain⟨rfl,rfl⟩:=h;exact⟨rfl,2,rfl,by omega,by omega⟩
 |c::cs,s,s',r,hg,h,hr=>by
  rw[ZcB]at h;split at h;·exact absurd (by assumption) (hg c (by simp))
  ·split at h;·rename_i s2 he;have :=Zc5 _ _ _ _ he;subst this;obtain⟨h1,k,h2,h3,h4⟩:=ZdF cs _ s' r (fun c hc=>hg c (by simp[hc])) h hr;exact⟨h1,k,h2,h3,h4⟩
   ·rename_i hne;cases r with|next gl=>exact absurd rfl (hr gl)|no=>exact absurd h (hne _)|off=>have h9:=Zgo _ _ _ _ h;exact⟨rfl,4,h9,by omega,by omega⟩
theorem Zi8{g:Gl}{s s':Sv}(h:ZcU g s=(none,s')):∃k,s'.out=s.out++[⟨k,[]⟩]/\2<=k/\k<=5:=by
 unfold ZcU at h;split at h;·simp at h
 split at h;·simp at h
 split at h;·simp at h
 split at h
 ·simp only at h;split at h;·simp only[Prod.mk.injEq,true_and]at h;subst h;exact⟨4,rfl,by omega,by omega⟩
  ·simp at h
 ·simp only at h;split at h;·simp only[Prod.mk.injEq,true_and]at h;subst h;exact⟨5,rfl,by omega,by omega⟩
  split at h;·simp at h
  split at h;·simp only[Prod.mk.injEq,true_and]at h;subst h;exact⟨5,rfl,by omega,by omega⟩
  ·simp at h
theorem Zl9{g:Gl}{rest:List Gl}{s s':Sv}{r:Res}(h:SvOk P s)(hg:GlsOk s.vars (g::rest))(e:ZeB P g rest s=(r,s'))(hr:∀gl,r≠ .next gl):∃k,s'.out=s.out++[⟨k,[]⟩]/\2<=k/\k<=5:=by
 unfold ZeB at e;split at e;·simp only[Prod.mk.injEq]at e;rw[<-e.2];exact⟨3,rfl,by omega,by omega⟩
 ·rename_i hf;have hp:=ZfF s.fuel s.choices hf;obtain⟨h1,h2,h3,h4,h5,h6,h7,h8⟩:=h;rw[hp]at h6 h7;have hs1:SvOk P {s with fuel:=s.fuel - 1}:=⟨h1,h2,h3,h4,h5,by simp only;omega,by simp only;omega,by simp only;omega⟩;simp only at e;split at e
  ·rename_i hk;split at e;·rename_i s2 he;simp only[Prod.mk.injEq]at e;rw[<-e.2];have h9:=Zi8 he;exact h9
   ·simp only[Prod.mk.injEq]at e;exact absurd e.1.symm (hr _)
   ·rename_i s2 he;obtain⟨a1,a2,a3,a4⟩:=Zdu hs1 (hg g (by simp)).1 hk (by simp only;omega) he (by simp);obtain⟨-,k,h1,h2⟩:=ZdF s2.choices s2 s' r (fun c hc=>(a1.chc c hc).ne) e hr;exact⟨k,by rw[h1,a3],h2⟩
  ·split at e;·simp only[Prod.mk.injEq]at e;rw[<-e.2];exact⟨5,rfl,by omega,by omega⟩
   ·split at e;·rename_i s2 he;have :=Zc5 _ _ _ _ he;subst this;obtain⟨-,k,h1,h2⟩:=ZdF _ _ s' r (fun c hc=>(h4 c hc).ne) e hr;exact⟨k,h1,h2⟩
    ·rename_i hne;cases r with|next gl=>exact absurd rfl (hr gl)|no=>exact absurd e (hne _)|off=>have h9:=Zgo _ _ _ _ e;exact⟨4,h9,by omega,by omega⟩
def Ends(q d:Nat)(more:List Ev):Prop:=∃(ans:List (List Tm))(k:Int),more=ans.map (fun l=>(⟨1,l⟩:Ev))++[⟨k,[]⟩]/\2<=k/\k<=6/\d+ans.length<=12/\(k=6↔d+ans.length=12)/\∀l∈ans,Zns q l
theorem Ends.one{q d:Nat}{k:Int}(hk:2<=k/\k<=5)(hd:d<=11):Ends q d [⟨k,[]⟩]:=⟨[],k,rfl,by omega,by omega,by simp;omega,by simp;omega,by simp⟩
theorem Ends.cons{q d:Nat}{l:List Tm}{more:List Ev}(hl:Zns q l)(h:Ends q (d+1) more):Ends q d (⟨1,l⟩::more):=by
 obtain⟨ans,k,rfl,h1,h2,h3,h4,h5⟩:=h;refine⟨l::ans,k,by simp,h1,h2,by simp;omega,by rw[h4,List.length_cons];omega,fun x hx=>?_⟩;rcases List.mem_cons.1 hx with rfl|hx;·exact hl
 ·exact h5 x hx
theorem Zgp(q:Nat):∀(n:Nat)(gl:List Gl)(s:Sv),SvOk P s->GlsOk s.vars gl->(q:Int)<=s.vars->s.out.length<=11->s.fuel+13<=n+s.out.length->∃more,(ZjQ P q n gl s).out=s.out++more/\Ends q s.out.length more
 |0,gl,s,h,hg,hq,ho,hn=>by omega
 |n+1,[],s,h,hg,hq,ho,hn=>by
  rw[ZjQ];cases e:Zby q s with
   |mk b s'=>
    rcases Zk5 h.env hq e with⟨rfl,h1⟩|⟨l,hl,⟨rfl,h1,h2,h3,h4,h5,h6⟩|⟨rfl,h1,h2⟩⟩;·exact⟨_,h1,Ends.one (by omega) ho⟩
    ·have hs':SvOk P s':=by obtain⟨a1,a2,a3,a4,a5,a6,a7,a8⟩:=h;exact⟨a1,by rw[h5];exact a2,by rw[h5,h3];exact a3,by rw[h4,h5,h3];exact a4,by rw[h4];exact a5,by rw[h5,h6,h4];exact a6,by rw[h3,h6,h4];exact a7,by rw[h4,h6];exact a8⟩
     have hne:∀c∈s'.choices,c.g≠[]:=fun c hc=>(hs'.chc c hc).ne;simp only;cases e2:ZcB P s'.choices s' with
      |mk r s2=>
       cases r with
        |next gl=>
         obtain⟨b1,b2,b3,b4,hv⟩:=Zcu s'.choices s' s2 gl hs' e2;have hlen:s2.out.length=s.out.length+1:=by rw[b4,h1];simp
         obtain⟨more,k1,k2⟩:=Zgp q n gl s2 b1 b2 (by omega) (by omega) (by omega);refine⟨⟨1,l⟩::more,?_,Ends.cons hl (by rw[<-hlen];exact k2)⟩;simp only;rw[k1,b4,h1];simp
        |no=>have :=ZdF s'.choices s' s2 .no hne e2 (by simp);simp at this
        |off=>obtain⟨-,k,h7,h8⟩:=ZdF s'.choices s' s2 .off hne e2 (by simp);refine⟨[⟨1,l⟩,⟨k,[]⟩],?_,Ends.cons hl (Ends.one h8 (by omega))⟩;simp only;rw[h7,h1];simp
    ·refine⟨[⟨1,l⟩,⟨6,[]⟩],by rw[h2];simp,[l],6,rfl,by omega,by omega,by simp;omega,by simp;omega,by simpa using hl⟩
 |n+1,g::rest,s,h,hg,hq,ho,hn=>by
  rw[ZjQ];cases e:ZeB P g rest s with
   |mk r s'=>
    have hoff:(∀gl,r≠ .next gl)->∃more,s'.out=s.out++more/\Ends q s.out.length more:=fun hr=>by obtain⟨k,h1,h2⟩:=Zl9 h hg e hr;exact⟨_,h1,Ends.one h2 ho⟩
    cases r with|next gl=>obtain⟨b1,b2,b3,b4,hv⟩:=Ze7 h hg e;obtain⟨more,k1,k2⟩:=Zgp q n gl s' b1 b2 (by omega) (by rw[b4];exact ho) (by rw[b4];omega);rw[b4]at k1 k2;exact⟨more,k1,k2⟩|no=>exact hoff (by simp)|off=>exact hoff (by simp)
end
section
variable {P : List Cl}
def Sv.more(s:Sv)(m:Nat):Sv:={s with fuel:=s.fuel+m}
end
theorem Zkb{P:List Cl}{Q:List Tm}{vars:Int}{f:Nat}(hP:GoodP P)(hQ:ZbQ Q vars)(hf:f<=150):SvOk P ⟨[],[],vars,f,[]⟩/\GlsOk vars (Q.map fun t=>⟨t,0⟩):=by
 obtain⟨h0,h8,h5,hl⟩:=hQ;refine⟨⟨hP,h0,EnvOk.nil _,by simp,by simp,?_,?_,?_⟩,?_⟩;·simp only[pot,List.map_nil,List.sum_nil];omega
 ·simp only[pot,List.map_nil,List.sum_nil,List.length_nil];omega
 ·simpa using hf
 ·intro g hg;obtain⟨t,ht,rfl⟩:=List.mem_map.1 hg;exact⟨(hl t ht).2.1,by simp⟩
theorem Zcc(P:List Cl)(Q:List Tm)(vars fuel:Int):(¬(GoodP P/\ZbQ Q vars)/\Zda P Q vars fuel=([],1))\/((GoodP P/\ZbQ Q vars)/\(fuel<0\/fuel>150)/\Zda P Q vars fuel=([],2))\/((GoodP P/\ZbQ Q vars)/\0<=fuel/\fuel<=150/\Zda P Q vars fuel=((ZjQ P vars.toNat (fuel.toNat+14) (Q.map fun t=>⟨t,0⟩) ⟨[],[],vars,fuel.toNat,[]⟩).out,0)):=by
 unfold Zda;by_cases h:GoodP P/\ZbQ Q vars
 ·rw[if_neg (by simpa using h)];by_cases h2:fuel<0\/fuel>150;·rw[if_pos h2];exact .inr (.inl ⟨h,h2,rfl⟩)
  ·rw[if_neg h2];exact .inr (.inr ⟨h,by omega,by omega,rfl⟩)
 ·rw[if_pos h];exact .inl ⟨h,rfl⟩
theorem Zgq{P:List Cl}{Q:List Tm}{vars fuel:Int}(h:(Zda P Q vars fuel).2=0):Ends vars.toNat 0 (Zda P Q vars fuel).1:=by
 rcases Zcc P Q vars fuel with⟨_,e⟩|⟨_,_,e⟩|⟨⟨hP,hQ⟩,h0,h1,e⟩;·rw[e]at h;simp at h
 ·rw[e]at h;simp at h
 ·rw[e];obtain⟨a1,a2⟩:=Zkb (f:=fuel.toNat) hP hQ (by omega);obtain⟨more,k1,k2⟩:=Zgp vars.toNat (fuel.toNat+14) _ _ a1 a2 (by have :=a1.vars0;simp only at this ⊢;omega) (by simp) (by simp);simp only;rw[k1];simpa using k2
structure Td where
  t : Tm
  call : Nat
structure Pv where
  fuel : Nat
  vars : Int
  out : List Ev
  ended : Bool
  calls : Nat
def Pv.put(p:Pv)(kind:Int):Pv:={p with out:=p.out++[⟨kind,[]⟩],ended:=true}
structure Fr where
  call : Nat
  g : Td
  rest : List Td
  gg : Gl
  grest : List Gl
  env : Env
  next : Nat
  lev : Nat
def ZoI(P:List Cl)(fr:List Fr):List Chc:=fr.filterMap fun f=>if f.next<P.length then some ⟨f.gg::f.grest,f.next,f.env.length⟩else none
def below(c:Nat)(fr:List Fr):List Fr:=fr.dropWhile fun f=>decide (c<=f.call)
def ZpH(P:List Cl)(fr:List Fr):List Td->List Gl->Prop|[],[]=>True|a::td,b::gl=>(a.t=b.t/\b.bar=(ZoI P (below a.call fr)).length)/\ZpH P fr td gl|_,_=>False
def Desc(td:List Td):Prop:=td.Pairwise fun a b=>b.call<=a.call
def Zpf(P:List Cl):List Fr->Prop|[]=>True|f::fr=>Zpf P fr/\ZpH P fr (f.g::f.rest) (f.gg::f.grest)/\(∀x∈fr,x.call<f.call)/\(∀a∈f.g::f.rest,a.call<f.call)/\Desc (f.g::f.rest)/\(∀x∈fr,x.env <+: f.env)
section
variable {P : List Cl} {q : Nat}
end
section
variable {P : List Cl} {q : Nat}
structure Lnk (P : List Cl) (q : Nat) (s : Sv) (p : Pv) (fr : List Fr) : Prop where
  ok : SvOk P { s with choices := ZoI P fr }
  q : (q : Int) ≤ s.vars
  frs : Zpf P fr
  fuel : p.fuel = s.fuel
  vars : s.vars = p.vars
  out : s.out = p.out
  ended : p.ended = false
  pre : ∀ x ∈ fr, x.env <+: s.env
  lev : ∀ x ∈ fr, s.fuel < x.lev
  calls : ∀ x ∈ fr, x.call ≤ p.calls
structure LnkG (P : List Cl) (q : Nat) (s : Sv) (p : Pv) (fr : List Fr) (td : List Td) (gl : List Gl) : Prop extends Lnk P q s p fr where
  chs : s.choices = ZoI P fr
  gls : GlsOk s.vars gl
  rel : ZpH P fr td gl
  desc : Desc td
  tcalls : ∀ a ∈ td, a.call ≤ p.calls
theorem SvOk.pop{s:Sv}{c:Chc}{cs:List Chc}(h:SvOk P {s with choices:=c::cs}):SvOk P {s with choices:=cs,env:=s.env.take c.trail}:=by
 have hc:=h.chc c (by simp);obtain⟨h1,h2,h3,h4,h5,h6,h7,h8⟩:=h;simp only at h1 h2 h3 h4 h5 h6 h7 h8;rw[Zc6]at h6 h7;have hT:=List.pairwise_cons.1 h5;have htr:=hc.trail;simp only at htr;have hEl:(s.env.take c.trail).length=c.trail:=by rw[List.length_take];omega
 refine⟨h1,h2,h3.take _,fun x hx=>?_,hT.2,by simp only;omega,by simp only[hEl];omega,by simp only[List.length_cons]at h8 ⊢;omega⟩;have k:=h4 x (by simp[hx]);exact⟨k.ne,k.gls,k.one,k.lt,by simp only[hEl];exact hT.1 x hx⟩
end
end Go.Proofs.YtlpmfkpefoegeacDoor
