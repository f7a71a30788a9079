import Derived.Test.YtlpmfkpefoegeacGreatDoorPPrint
namespace Go.Proofs.YtlpmfkpefoegeacGreatDoor
set_option maxRecDepth 99999
set_option maxHeartbeats 0
set_option linter.all false
def jD(fuel:Nat)(cs:List jN):Nat:=25*fuel+(cs.map fun c=>24 - c.at_).sum
def pg(N:Int)(gl:List Gl):Prop:=∀g∈gl,g.t.In N/\g.bar<=150
theorem pg.mono{N N':Int}{gl:List Gl}(h:pg N gl)(hN:N<=N'):pg N' gl:=fun g hg=>⟨(h g hg).1.mono hN,(h g hg).2⟩
structure Cx (P : List Cl) (N : Int) (L : Nat) (c : jN) : Prop where
  ne : c.g ≠ []
  AB : pg N c.g
  one : 1 ≤ c.at_
  lt : c.at_ < P.length
  trail : c.trail ≤ L
structure fZ (P : List Cl) (s : Sv) : Prop where
  prog : fV P
  RD : 0 ≤ s.vars
  env : cu s.vars s.env
  bC : ∀ c ∈ s.choices, Cx P s.vars s.env.length c
  ae6 : s.choices.Pairwise fun c d => d.trail ≤ c.trail
  GH : s.vars + 8 * (jD s.fuel s.choices : Nat) ≤ 30008
  ae7 : s.env.length + 400 * jD s.fuel s.choices ≤ 1500000
  few : s.choices.length + s.fuel ≤ 150
theorem Cx.mono{P:List Cl}{N N':Int}{L L':Nat}{c:jN}(h:Cx P N L c)(hN:N<=N')(hL:L<=L'):Cx P N' L' c:=⟨h.ne,h.AB.mono hN,h.one,h.lt,dm h.trail hL⟩
theorem JD{n:Int}(h0:0<=n)(h1:n<1099511627776):low n=n:=by unfold low;omega
theorem Na{t:Tm}{v d:Int}(h:t.Good v)(hv:v<=8)(hd0:0<=d)(hd:d<1000000):(fG t d).In (d+v):=by unfold fG;induction h with|var n h0 h1=>simp only[Tm.ren,if_true,Tm.uE,JD h0 (show n<1099511627776 by omega),JD hd0 (show d<1099511627776 by omega)];exact .var _ (by omega) (by omega)|atom s h=>exact .atom s h|int n h0 h1=>exact .int n h0 h1|comp s l h h1 h2 h3 _ ih=>simp only[Tm.ren,Tm.Jl];refine .comp s _ h h1 (by simpa using h2) (by simpa using h3) fun t ht=>?_;obtain⟨x,hx,rfl⟩:=iZ.1 ht;exact ih x hx
theorem fV.at{P:List Cl}(h:fV P){k:Nat}{c:Cl}(hc:P[k]?=some c):c.Good:=h.2 c (Wh hc)
theorem ae8(P:List Cl)(t:Tm):∀(n k:Nat),k<=jT P t n k/\jT P t n k<=k+n
 |0,k=>by simp[jT]
 |n+1,k=>by
  unfold jT;have :=ae8 P t n (k+1);split;·omega
  ·split<;>omega
section
variable {P : List Cl} {g : Gl} {rest : List Gl}
theorem Cy:∀(n k:Nat)(s s':Sv),fC P g rest n k s=(.no,s')->s'=s
 |0,k,s,s',h=>by simp[fC]at h;exact h.symm
 |n+1,k,s,s',h=>by
  rw[fC]at h;have ih:=Cy n (k+1) s s';split at h;·simpa using h.symm
  ·split at h;·exact ih h
   ·simp only at h;split at h;·simp at h
    ·split at h;·exact ih h
     ·simp at h
theorem XA:∀(n k:Nat)(s s':Sv)(gl:List Gl),n=P.length - k->fV P->0<=s.vars->s.vars<999000->cu s.vars s.env->(∀c∈s.choices,Cx P s.vars s.env.length c)->(s.choices.Pairwise fun c d=>d.trail<=c.trail)->pg s.vars (g::rest)->s.choices.length<150->fC P g rest n k s=(.next gl,s')->pg s'.vars gl/\0<=s'.vars/\cu s'.vars s'.env/\(∀c∈s'.choices,Cx P s'.vars s'.env.length c)/\(s'.choices.Pairwise fun c d=>d.trail<=c.trail)/\s'.fuel=s.fuel/\s'.out=s.out/\s.vars<=s'.vars/\s'.vars<=s.vars+8/\s'.env.length<=s.env.length+400/\(s'.choices=s.choices\/∃c,s'.choices=c::s.choices/\k<c.at_)/\k<P.length
 |0,k,s,s',gl,hn,hP,hv0,hv1,hE,hC,hT,hG,hl,h=>by simp[fC]at h
 |n+1,k,s,s',gl,hn,hP,hv0,hv1,hE,hC,hT,hG,hl,h=>by
  rw[fC]at h;have ih:=XA n (k+1) s s' gl (by omega) hP hv0 hv1 hE hC hT hG hl;have ih':fC P g rest n (k+1) s=(.next gl,s')->_:=fun e=>by have :=ih e;obtain⟨a1,a2,a3,a4,a5,a6,a7,a8,a9,Nb,yM,a12⟩:=this;exact(⟨a1,a2,a3,a4,a5,a6,a7,a8,a9,Nb,yM.imp id fun⟨c,h1,h2⟩=>⟨c,h1,by omega⟩,by omega⟩:pg s'.vars gl/\0<=s'.vars/\cu s'.vars s'.env/\(∀c∈s'.choices,Cx P s'.vars s'.env.length c)/\(s'.choices.Pairwise fun c d=>d.trail<=c.trail)/\s'.fuel=s.fuel/\s'.out=s.out/\s.vars<=s'.vars/\s'.vars<=s.vars+8/\s'.env.length<=s.env.length+400/\(s'.choices=s.choices\/∃c,s'.choices=c::s.choices/\k<c.at_)/\k<P.length)
  split at h;·simp at h
  ·rename_i c hc;have hcg:=hP.at hc;obtain⟨⟨aoI,XB, -,hbody⟩, -,⟨hhead, -⟩, -⟩:=hcg;have hg0:=hG g (by simp);split at h;·exact ih' h
   ·simp only at h;split at h;·simp at h
    ·rename_i hw;split at h;·exact ih' h
     ·obtain⟨hE',F,hF,hFl⟩:=Es (N:=s.vars+c.vars) 400 [(fG c.head s.vars,g.t)] s.env (hE.mono (by omega)) (by intro p hp;simp only[iX]at hp;subst hp;exact⟨Na hhead XB hv0 (by omega),hg0.1.mono (by omega)⟩);simp only[gI,vP.next.injEq]at h;obtain⟨rfl,rfl⟩:=h;have hEl:(aO 400 [(fG c.head s.vars,g.t)] s.env).env.length=s.env.length+F.length:=by rw[hF,bB]
      have hb:=ae8 P g.t (P.length - (k+1)) (k+1);have hkP:k<P.length:=(jQ.1 hc).1;have hC':∀x∈s.choices,Cx P (s.vars+c.vars) (aO 400 [(fG c.head s.vars,g.t)] s.env).env.length x:=fun x hx=>(hC x hx).mono (by omega) (by omega);refine⟨?_,by simp only;omega,hE',?_,?_,rfl,rfl,by simp only;omega,by simp only;omega,by simp only;omega,?_,hkP⟩
      ·intro x hx;simp only[yL,iw,iZ]at hx;rcases hx with⟨t,ht,rfl⟩|hx;·exact⟨Na (hbody t ht).2.1 XB hv0 (by omega),by simp only;omega⟩
       ·have :=hG x (by simp[hx]);exact⟨this.1.mono (by simp only;omega),this.2⟩
      ·simp only;split
       ·intro x hx;rcases jr.1 hx with rfl|hx;·exact⟨by simp,hG.mono (by omega),by simp only;omega,by assumption,by simp only;omega⟩
        ·exact hC' x hx
       ·exact hC'
      ·simp only;split;·exact Wn.2 ⟨fun d hd=>(hC d hd).trail,hT⟩
       ·exact hT
      ·simp only;split;·exact .inr ⟨_,rfl,by simp only;omega⟩
       ·exact .inl rfl
end
theorem GI(f:Nat)(c:jN)(cs:List jN):jD f (c::cs)=jD f cs+(24 - c.at_):=by simp only[jD,sH,List.sum_cons];omega
theorem Nc(f:Nat)(cs:List jN)(h:f≠0):jD f cs=jD (f - 1) cs+25:=by unfold jD;omega
theorem XC(f:Nat):∀(cs:List jN)(k:Nat),jD f (cs.drop k)<=jD f cs|[],k=>by simp|c::cs,0=>by simp|c::cs,k+1=>by rw[List.drop_succ_cons,GI];have :=XC f cs k;omega
section
variable {P : List Cl}
theorem GJ:∀(cs:List jN)(s s':Sv)(gl:List Gl),fZ P {s with choices:=cs}->eQ P cs s=(.next gl,s')->fZ P s'/\pg s'.vars gl/\s'.fuel=s.fuel/\s'.out=s.out/\s.vars<=s'.vars
 |[],s,s',gl,h,e=>by simp[eQ]at e
 |c::cs,s,s',gl,h,e=>by
  have hc:=h.bC c (by simp);obtain⟨h1,h2,h3,h4,h5,h6,h7,h8⟩:=h;simp only at h1 h2 h3 h4 h5 h6 h7 h8;rw[GI]at h6 h7;have hT:=Wn.1 h5;have hEl:(s.env.take c.trail).length=c.trail:=by rw[dX];have :=hc.trail;simp only at this;omega
  have hC:∀x∈cs,Cx P s.vars (s.env.take c.trail).length x:=fun x hx=>by have k:=h4 x (by simp[hx]);exact⟨k.ne,k.AB,k.one,k.lt,by rw[hEl];exact hT.1 x hx⟩
  have hlt:=hc.lt;have htr:=hc.trail;simp only at htr;have ae9:=h1.1;rw[eQ]at e;split at e;·exact absurd (by assumption) hc.ne
  ·rename_i g rest hg;split at e;·rename_i s2 he;have :=Cy _ _ _ _ he;subst this;have :=GJ cs {s with choices:=cs,env:=s.env.take c.trail} s' gl ⟨h1,h2,h3.take _,hC,hT.2,by simp only;omega,by simp only[hEl];omega,by simp only[bn]at h8 ⊢;omega⟩ e;simpa using this
   ·rename_i hne;obtain⟨a1,a2,a3,a4,a5,a6,a7,a8,a9,Nb,yM,a12⟩:=XA (P.length - c.at_) c.at_ {s with choices:=cs,env:=s.env.take c.trail} s' gl rfl h1 h2 (by simp only;omega) (h3.take _) hC hT.2 (by rw[<-hg];exact hc.AB) (by simp only[bn]at h8 ⊢;omega) e;simp only[hEl]at a6 a7 a8 a9 Nb yM;refine⟨⟨h1,a2,a3,a4,a5,?_,?_,?_⟩,a1,a6,a7,a8⟩
    ·rw[a6];rcases yM with e2|⟨d,e2,hd⟩;·rw[e2];omega
     ·rw[e2,GI];omega
    ·rw[a6];rcases yM with e2|⟨d,e2,hd⟩;·rw[e2];omega
     ·rw[e2,GI];omega
    ·rw[a6];simp only[bn]at h8;rcases yM with e2|⟨d,e2,hd⟩;·rw[e2];omega
     ·rw[e2,bn];omega
theorem XD{N:Int}{t:Tm}(h:t.In N)(hN:0<=N)(i:Nat)(hi:i<t.args.length):((t.args[i]?).getD default).In N:=by rw[aJ hi];exact h.arg (bN hi)
theorem JE{g:Gl}{s s':Sv}{r:Option Bool}(h:fZ P s)(hg:g.t.In s.vars)(hk:g.t.jL)(hpe:s.env.length+400+400*jD s.fuel s.choices<=1500000)(e:jh g s=(r,s'))(hr:r≠none):fZ P s'/\s'.fuel=s.fuel/\s'.out=s.out/\s'.vars=s.vars:=by
 obtain⟨h1,h2,h3,h4,h5,h6,h7,h8⟩:=h;have hbind:∀(a b:Tm),a.In s.vars->b.In s.vars->fZ P {s with env:=(aO 400 [(a,b)] s.env).env}:=fun a b ha hb=>by
  obtain⟨hE',F,hF,hFl⟩:=Es (N:=s.vars) 400 [(a,b)] s.env h3 (by intro p hp;simp only[iX]at hp;subst hp;exact⟨ha,hb⟩);have hEl:(aO 400 [(a,b)] s.env).env.length=s.env.length+F.length:=by rw[hF,bB]
  exact⟨h1,h2,hE',fun c hc=>(h4 c hc).mono (qI _) (by simp only;omega),h5,h6,by simp only;omega,h8⟩
 unfold jh at e;have hlen:∀{x},g.t.s.toList=x->(x=[101,113]\/x=[108,101,115,115]->g.t.args.length=2):=by
  rintro x rfl hx;rcases hk with⟨_,hk⟩|⟨k0,hk⟩|⟨_,hk⟩;·rcases hx with hx|hx<;>rw[hx]at hk<;>simp at hk
  ·exact k0
  ·rcases hx with hx|hx<;>rw[hx]at hk<;>simp at hk
 split at e
 ·simp only[gI]at e;obtain⟨rfl,rfl⟩:=e;refine⟨⟨h1,h2,h3,fun c hc=>h4 c (Md hc),h5.sublist (List.drop_sublist _ _),?_,?_,?_⟩,rfl,rfl,rfl⟩;·have :=XC s.fuel s.choices (s.choices.length - g.bar);simp only;omega
  ·have :=XC s.fuel s.choices (s.choices.length - g.bar);simp only;omega
  ·simp only[yA];omega
 ·split at e;·simp only[gI]at e;obtain⟨rfl,rfl⟩:=e;exact⟨⟨h1,h2,h3,h4,h5,h6,h7,h8⟩,rfl,rfl,rfl⟩
  ·split at e;·simp only[gI]at e;obtain⟨rfl,rfl⟩:=e;exact⟨⟨h1,h2,h3,h4,h5,h6,h7,h8⟩,rfl,rfl,rfl⟩
   ·split at e
    ·rename_i hs;have h2l:=hlen hs (.inl rfl);simp only at e;split at e;·simp only[gI]at e;exact absurd e.1.symm hr
     ·simp only[gI]at e;obtain⟨rfl,rfl⟩:=e;exact⟨hbind _ _ (XD hg h2 0 (by omega)) (XD hg h2 1 (by omega)),rfl,rfl,rfl⟩
    ·rename_i n1 n2 n3 n4;simp only at e;split at e;·simp only[gI]at e;exact absurd e.1.symm hr
     ·split at e;·simp only[gI]at e;obtain⟨rfl,rfl⟩:=e;exact⟨⟨h1,h2,h3,h4,h5,h6,h7,h8⟩,rfl,rfl,rfl⟩
      ·rename_i n5;have h3l:g.t.args.length=3:=by
        rcases hk with⟨_,hk⟩|⟨_,hk⟩|⟨k0,_⟩
        ·rcases hk with hk|hk|hk;·exact absurd hk n1
         ·exact absurd hk n2
         ·exact absurd hk n3
        ·rcases hk with hk|hk;·exact absurd hk n4
         ·exact absurd hk n5
        ·exact k0
       split at e;·simp only[gI]at e;exact absurd e.1.symm hr
       ·simp only[gI]at e;obtain⟨rfl,rfl⟩:=e;exact⟨hbind _ _ (XD hg h2 2 (by omega)) (.int _ (by omega) (by omega)),rfl,rfl,rfl⟩
theorem RF{g:Gl}{rest gl:List Gl}{s s':Sv}(h:fZ P s)(hg:pg s.vars (g::rest))(e:ig P g rest s=(.next gl,s')):fZ P s'/\pg s'.vars gl/\s'.fuel+1=s.fuel/\s'.out=s.out/\s.vars<=s'.vars:=by
 unfold ig at e;have hrest:pg s.vars rest:=fun x hx=>hg x (by simp[hx]);split at e;·simp at e
 ·rename_i hf;have hp:=Nc s.fuel s.choices hf;obtain⟨h1,h2,h3,h4,h5,h6,h7,h8⟩:=h;rw[hp]at h6 h7;have hs1:fZ P {s with fuel:=s.fuel - 1}:=⟨h1,h2,h3,h4,h5,by simp only;omega,by simp only;omega,by simp only;omega⟩;simp only at e;split at e
  ·rename_i hk;split at e;·simp at e
   ·rename_i s2 he;simp only[gI,vP.next.injEq]at e;obtain⟨rfl,rfl⟩:=e;obtain⟨a1,a2,a3,a4⟩:=JE hs1 (hg g (by simp)).1 hk (by simp only;omega) he (by simp);exact⟨a1,by rw[a4];exact hrest,by rw[a2];simp only;omega,a3,by rw[a4];exact qI _⟩
   ·rename_i s2 he;obtain⟨a1,a2,a3,a4⟩:=JE hs1 (hg g (by simp)).1 hk (by simp only;omega) he (by simp);obtain⟨b1,b2,b3,b4,b5⟩:=GJ s2.choices s2 s' gl a1 e;exact⟨b1,b2,by rw[b3,a2];simp only;omega,b4.trans a3,by rw[a4]at b5;exact b5⟩
  ·split at e;·simp at e
   ·split at e;·rename_i s2 he;have :=Cy _ _ _ _ he;subst this;obtain⟨b1,b2,b3,b4,b5⟩:=GJ _ _ s' gl hs1 e;exact⟨b1,b2,by rw[b3];simp only;omega,b4,b5⟩
    ·obtain⟨a1,a2,a3,a4,a5,a6,a7,a8,a9,Nb,yM,a12⟩:=XA P.length 0 {s with fuel:=s.fuel - 1} s' gl (by omega) h1 h2 (by simp only;omega) h3 h4 h5 hg (by simp only;omega) e;simp only at a6 a7 a8 a9 Nb yM;refine⟨⟨h1,a2,a3,a4,a5,?_,?_,?_⟩,a1,by omega,a7,a8⟩
     ·rw[a6];rcases yM with e2|⟨d,e2,hd⟩;·rw[e2];omega
      ·rw[e2,GI];omega
     ·rw[a6];rcases yM with e2|⟨d,e2,hd⟩;·rw[e2];omega
      ·rw[e2,GI];omega
     ·rw[a6];rcases yM with e2|⟨d,e2,hd⟩;·rw[e2];omega
      ·rw[e2,bn];omega
end
theorem aoL:∀(w:Nat)(s:List (Tm×Tm))(E:Env),(aO w s E).ok=true->(aO w s E).env.length+(aO w s E).work.toNat<=E.length+w:=by
 intro w;induction w using Nat.strongRecOn with
  |_ w ih=>
   intro s E;match w,s,ih with
    |w,[],_=>rw[Cu];simp
    |0,_::_,_=>rw[Jz];simp
    |w+1,(a,b)::r,ih=>
     rw[aO];simp only;generalize ai E a=x;generalize ai E b=y;split
     ·split;·intro h;have :=ih w (by omega) r E h;omega
      ·intro h;have :=ih w (by omega) r _ h;simp only[bB,dZ]at this;omega
     ·split
      ·generalize dh E (if y.kind=0 then y.n else x.n) w [if y.kind=0 then x else y]=p;split;·simp
       ·intro h;have :=ih (min w p.2.toNat) (by omega) r _ h;simp only[bB,dZ]at this;omega
      ·split;·simp
       ·intro h;have :=ih w (by omega) (x.args.zip y.args++r) E h;omega
