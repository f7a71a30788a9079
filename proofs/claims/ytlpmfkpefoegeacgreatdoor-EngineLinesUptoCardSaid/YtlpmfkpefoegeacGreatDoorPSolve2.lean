import Derived.Test.YtlpmfkpefoegeacGreatDoorPPrint
namespace Go.Proofs.YtlpmfkpefoegeacGreatDoor
set_option maxRecDepth 99999
set_option maxHeartbeats 0
set_option linter.all false
def iN(fuel:Nat)(cs:List jf):Nat:=25*fuel+(cs.map fun c=>24 - c.at_).sum
def oG(N:Int)(gl:List Gl):Prop:=∀g∈gl,g.t.In N/\g.bar<=150
theorem oG.mono{N N':Int}{gl:List Gl}(h:oG N gl)(hN:N<=N'):oG N' gl:=fun g hg=>⟨(h g hg).1.mono hN,(h g hg).2⟩
structure yU (P : List Cl) (N : Int) (L : Nat) (c : jf) : Prop where
  ne : c.g ≠ []
  yV : oG N c.g
  one : 1 ≤ c.at_
  lt : c.at_ < P.length
  trail : c.trail ≤ L
structure iR (P : List Cl) (s : Sv) : Prop where
  prog : fJ P
  Ml : 0 ≤ s.vars
  env : dI s.vars s.env
  cu : ∀ c ∈ s.choices, yU P s.vars s.env.length c
  Ze : s.choices.Pairwise fun c d => d.trail ≤ c.trail
  Q9 : s.vars + 8 * (iN s.fuel s.choices : Nat) ≤ 30008
  Zf : s.env.length + 400 * iN s.fuel s.choices ≤ 1500000
  few : s.choices.length + s.fuel ≤ 150
theorem yU.mono{P:List Cl}{N N':Int}{L L':Nat}{c:jf}(h:yU P N L c)(hN:N<=N')(hL:L<=L'):yU P N' L' c:=⟨h.ne,h.yV.mono hN,h.one,h.lt,dM h.trail hL⟩
theorem EY{n:Int}(h0:0<=n)(h1:n<1099511627776):low n=n:=by unfold low;omega
theorem Mm{t:Tm}{v d:Int}(h:t.Good v)(hv:v<=8)(hd0:0<=d)(hd:d<1000000):(fM t d).In (d+v):=by unfold fM;induction h with|var n h0 h1=>simp only[Tm.ren,if_true,Tm.qC,EY h0 (show n<1099511627776 by omega),EY hd0 (show d<1099511627776 by omega)];exact .var _ (by omega) (by omega)|atom s h=>exact .atom s h|int n h0 h1=>exact .int n h0 h1|comp s l h h1 h2 h3 _ ih=>simp only[Tm.ren,Tm.Hy];refine .comp s _ h h1 (by simpa using h2) (by simpa using h3) fun t ht=>?_;obtain⟨x,hx,rfl⟩:=gQ.1 ht;exact ih x hx
theorem fJ.at{P:List Cl}(h:fJ P){k:Nat}{c:Cl}(hc:P[k]?=some c):c.Good:=h.2 c (Qc hc)
theorem Zg(P:List Cl)(t:Tm):∀(n k:Nat),k<=lY P t n k/\lY P t n k<=k+n
 |0,k=>by simp[lY]
 |n+1,k=>by
  unfold lY;have :=Zg P t n (k+1);split;·omega
  ·split<;>omega
section
variable {P : List Cl} {g : Gl} {rest : List Gl}
theorem CO:∀(n k:Nat)(s s':Sv),kN P g rest n k s=(.no,s')->s'=s
 |0,k,s,s',h=>by simp[kN]at h;exact h.symm
 |n+1,k,s,s',h=>by
  rw[kN]at h;have ih:=CO n (k+1) s s';split at h;·simpa using h.symm
  ·split at h;·exact ih h
   ·simp only at h;split at h;·simp at h
    ·split at h;·exact ih h
     ·simp at h
theorem Ra:∀(n k:Nat)(s s':Sv)(gl:List Gl),n=P.length - k->fJ P->0<=s.vars->s.vars<999000->dI s.vars s.env->(∀c∈s.choices,yU P s.vars s.env.length c)->(s.choices.Pairwise fun c d=>d.trail<=c.trail)->oG s.vars (g::rest)->s.choices.length<150->kN P g rest n k s=(.next gl,s')->oG s'.vars gl/\0<=s'.vars/\dI s'.vars s'.env/\(∀c∈s'.choices,yU P s'.vars s'.env.length c)/\(s'.choices.Pairwise fun c d=>d.trail<=c.trail)/\s'.fuel=s.fuel/\s'.out=s.out/\s.vars<=s'.vars/\s'.vars<=s.vars+8/\s'.env.length<=s.env.length+400/\(s'.choices=s.choices\/∃c,s'.choices=c::s.choices/\k<c.at_)/\k<P.length
 |0,k,s,s',gl,hn,hP,hv0,hv1,hE,hC,hT,hG,hl,h=>by simp[kN]at h
 |n+1,k,s,s',gl,hn,hP,hv0,hv1,hE,hC,hT,hG,hl,h=>by
  rw[kN]at h;have ih:=Ra n (k+1) s s' gl (by omega) hP hv0 hv1 hE hC hT hG hl;have ih':kN P g rest n (k+1) s=(.next gl,s')->_:=fun e=>by have :=ih e;obtain⟨a1,a2,a3,a4,a5,a6,a7,a8,a9,IB,vM,a12⟩:=this;exact(⟨a1,a2,a3,a4,a5,a6,a7,a8,a9,IB,vM.imp id fun⟨c,h1,h2⟩=>⟨c,h1,by omega⟩,by omega⟩:oG s'.vars gl/\0<=s'.vars/\dI s'.vars s'.env/\(∀c∈s'.choices,yU P s'.vars s'.env.length c)/\(s'.choices.Pairwise fun c d=>d.trail<=c.trail)/\s'.fuel=s.fuel/\s'.out=s.out/\s.vars<=s'.vars/\s'.vars<=s.vars+8/\s'.env.length<=s.env.length+400/\(s'.choices=s.choices\/∃c,s'.choices=c::s.choices/\k<c.at_)/\k<P.length)
  split at h;·simp at h
  ·rename_i c hc;have hcg:=hP.at hc;obtain⟨⟨arS,Zh, -,hbody⟩, -,⟨hhead, -⟩, -⟩:=hcg;have hg0:=hG g (by simp);split at h;·exact ih' h
   ·simp only at h;split at h;·simp at h
    ·rename_i hw;split at h;·exact ih' h
     ·obtain⟨hE',F,hF,hFl⟩:=EW (N:=s.vars+c.vars) 400 [(fM c.head s.vars,g.t)] s.env (hE.mono (by omega)) (by intro p hp;simp only[iF]at hp;subst hp;exact⟨Mm hhead Zh hv0 (by omega),hg0.1.mono (by omega)⟩);simp only[fG,yT.next.injEq]at h;obtain⟨rfl,rfl⟩:=h;have hEl:(fE 400 [(fM c.head s.vars,g.t)] s.env).env.length=s.env.length+F.length:=by rw[hF,bA]
      have hb:=Zg P g.t (P.length - (k+1)) (k+1);have hkP:k<P.length:=(iO.1 hc).1;have hC':∀x∈s.choices,yU P (s.vars+c.vars) (fE 400 [(fM c.head s.vars,g.t)] s.env).env.length x:=fun x hx=>(hC x hx).mono (by omega) (by omega);refine⟨?_,by simp only;omega,hE',?_,?_,rfl,rfl,by simp only;omega,by simp only;omega,by simp only;omega,?_,hkP⟩
      ·intro x hx;simp only[Mi,gy,gQ]at hx;rcases hx with⟨t,ht,rfl⟩|hx;·exact⟨Mm (hbody t ht).2.1 Zh hv0 (by omega),by simp only;omega⟩
       ·have :=hG x (by simp[hx]);exact⟨this.1.mono (by simp only;omega),this.2⟩
      ·simp only;split
       ·intro x hx;rcases iG.1 hx with rfl|hx;·exact⟨by simp,hG.mono (by omega),by simp only;omega,by assumption,by simp only;omega⟩
        ·exact hC' x hx
       ·exact hC'
      ·simp only;split;·exact Qg.2 ⟨fun d hd=>(hC d hd).trail,hT⟩
       ·exact hT
      ·simp only;split;·exact .inr ⟨_,rfl,by simp only;omega⟩
       ·exact .inl rfl
end
theorem CP(f:Nat)(c:jf)(cs:List jf):iN f (c::cs)=iN f cs+(24 - c.at_):=by simp only[iN,qy,List.sum_cons];omega
theorem Mq(f:Nat)(cs:List jf)(h:f≠0):iN f cs=iN (f - 1) cs+25:=by unfold iN;omega
theorem Rb(f:Nat):∀(cs:List jf)(k:Nat),iN f (cs.drop k)<=iN f cs|[],k=>by simp|c::cs,0=>by simp|c::cs,k+1=>by rw[XF,CP];have :=Rb f cs k;omega
section
variable {P : List Cl}
theorem EZ:∀(cs:List jf)(s s':Sv)(gl:List Gl),iR P {s with choices:=cs}->jN P cs s=(.next gl,s')->iR P s'/\oG s'.vars gl/\s'.fuel=s.fuel/\s'.out=s.out/\s.vars<=s'.vars
 |[],s,s',gl,h,e=>by simp[jN]at e
 |c::cs,s,s',gl,h,e=>by
  have hc:=h.cu c (by simp);obtain⟨h1,h2,h3,h4,h5,h6,h7,h8⟩:=h;simp only at h1 h2 h3 h4 h5 h6 h7 h8;rw[CP]at h6 h7;have hT:=Qg.1 h5;have hEl:(s.env.take c.trail).length=c.trail:=by rw[dS];have :=hc.trail;simp only at this;omega
  have hC:∀x∈cs,yU P s.vars (s.env.take c.trail).length x:=fun x hx=>by have k:=h4 x (by simp[hx]);exact⟨k.ne,k.yV,k.one,k.lt,by rw[hEl];exact hT.1 x hx⟩
  have hlt:=hc.lt;have htr:=hc.trail;simp only at htr;have aic:=h1.1;rw[jN]at e;split at e;·exact absurd (by assumption) hc.ne
  ·rename_i g rest hg;split at e;·rename_i s2 he;have :=CO _ _ _ _ he;subst this;have :=EZ cs {s with choices:=cs,env:=s.env.take c.trail} s' gl ⟨h1,h2,h3.take _,hC,hT.2,by simp only;omega,by simp only[hEl];omega,by simp only[bn]at h8 ⊢;omega⟩ e;simpa using this
   ·rename_i hne;obtain⟨a1,a2,a3,a4,a5,a6,a7,a8,a9,IB,vM,a12⟩:=Ra (P.length - c.at_) c.at_ {s with choices:=cs,env:=s.env.take c.trail} s' gl rfl h1 h2 (by simp only;omega) (h3.take _) hC hT.2 (by rw[<-hg];exact hc.yV) (by simp only[bn]at h8 ⊢;omega) e;simp only[hEl]at a6 a7 a8 a9 IB vM;refine⟨⟨h1,a2,a3,a4,a5,?_,?_,?_⟩,a1,a6,a7,a8⟩
    ·rw[a6];rcases vM with e2|⟨d,e2,hd⟩;·rw[e2];omega
     ·rw[e2,CP];omega
    ·rw[a6];rcases vM with e2|⟨d,e2,hd⟩;·rw[e2];omega
     ·rw[e2,CP];omega
    ·rw[a6];simp only[bn]at h8;rcases vM with e2|⟨d,e2,hd⟩;·rw[e2];omega
     ·rw[e2,bn];omega
theorem Rc{N:Int}{t:Tm}(h:t.In N)(hN:0<=N)(i:Nat)(hi:i<t.args.length):((t.args[i]?).getD default).In N:=by rw[aS hi];exact h.arg (bZ hi)
theorem IC{g:Gl}{s s':Sv}{r:Option Bool}(h:iR P s)(hg:g.t.In s.vars)(hk:g.t.jM)(hpe:s.env.length+400+400*iN s.fuel s.choices<=1500000)(e:rU g s=(r,s'))(hr:r≠none):iR P s'/\s'.fuel=s.fuel/\s'.out=s.out/\s'.vars=s.vars:=by
 obtain⟨h1,h2,h3,h4,h5,h6,h7,h8⟩:=h;have hbind:∀(a b:Tm),a.In s.vars->b.In s.vars->iR P {s with env:=(fE 400 [(a,b)] s.env).env}:=fun a b ha hb=>by
  obtain⟨hE',F,hF,hFl⟩:=EW (N:=s.vars) 400 [(a,b)] s.env h3 (by intro p hp;simp only[iF]at hp;subst hp;exact⟨ha,hb⟩);have hEl:(fE 400 [(a,b)] s.env).env.length=s.env.length+F.length:=by rw[hF,bA]
  exact⟨h1,h2,hE',fun c hc=>(h4 c hc).mono (qA _) (by simp only;omega),h5,h6,by simp only;omega,h8⟩
 unfold rU at e;have hlen:∀{x},g.t.s.toList=x->(x=[101,113]\/x=[108,101,115,115]->g.t.args.length=2):=by
  rintro x rfl hx;rcases hk with⟨_,hk⟩|⟨k0,hk⟩|⟨_,hk⟩;·rcases hx with hx|hx<;>rw[hx]at hk<;>simp at hk
  ·exact k0
  ·rcases hx with hx|hx<;>rw[hx]at hk<;>simp at hk
 split at e
 ·simp only[fG]at e;obtain⟨rfl,rfl⟩:=e;refine⟨⟨h1,h2,h3,fun c hc=>h4 c (G9 hc),h5.sublist (List.drop_sublist _ _),?_,?_,?_⟩,rfl,rfl,rfl⟩;·have :=Rb s.fuel s.choices (s.choices.length - g.bar);simp only;omega
  ·have :=Rb s.fuel s.choices (s.choices.length - g.bar);simp only;omega
  ·simp only[Av];omega
 ·split at e;·simp only[fG]at e;obtain⟨rfl,rfl⟩:=e;exact⟨⟨h1,h2,h3,h4,h5,h6,h7,h8⟩,rfl,rfl,rfl⟩
  ·split at e;·simp only[fG]at e;obtain⟨rfl,rfl⟩:=e;exact⟨⟨h1,h2,h3,h4,h5,h6,h7,h8⟩,rfl,rfl,rfl⟩
   ·split at e
    ·rename_i hs;have h2l:=hlen hs (.inl rfl);simp only at e;split at e;·simp only[fG]at e;exact absurd e.1.symm hr
     ·simp only[fG]at e;obtain⟨rfl,rfl⟩:=e;exact⟨hbind _ _ (Rc hg h2 0 (by omega)) (Rc hg h2 1 (by omega)),rfl,rfl,rfl⟩
    ·rename_i n1 n2 n3 n4;simp only at e;split at e;·simp only[fG]at e;exact absurd e.1.symm hr
     ·split at e;·simp only[fG]at e;obtain⟨rfl,rfl⟩:=e;exact⟨⟨h1,h2,h3,h4,h5,h6,h7,h8⟩,rfl,rfl,rfl⟩
      ·rename_i n5;have h3l:g.t.args.length=3:=by
        rcases hk with⟨_,hk⟩|⟨_,hk⟩|⟨k0,_⟩
        ·rcases hk with hk|hk|hk;·exact absurd hk n1
         ·exact absurd hk n2
         ·exact absurd hk n3
        ·rcases hk with hk|hk;·exact absurd hk n4
         ·exact absurd hk n5
        ·exact k0
       split at e;·simp only[fG]at e;exact absurd e.1.symm hr
       ·simp only[fG]at e;obtain⟨rfl,rfl⟩:=e;exact⟨hbind _ _ (Rc hg h2 2 (by omega)) (.int _ (by omega) (by omega)),rfl,rfl,rfl⟩
theorem Re{g:Gl}{rest gl:List Gl}{s s':Sv}(h:iR P s)(hg:oG s.vars (g::rest))(e:qI P g rest s=(.next gl,s')):iR P s'/\oG s'.vars gl/\s'.fuel+1=s.fuel/\s'.out=s.out/\s.vars<=s'.vars:=by
 unfold qI at e;have hrest:oG s.vars rest:=fun x hx=>hg x (by simp[hx]);split at e;·simp at e
 ·rename_i hf;have hp:=Mq s.fuel s.choices hf;obtain⟨h1,h2,h3,h4,h5,h6,h7,h8⟩:=h;rw[hp]at h6 h7;have hs1:iR P {s with fuel:=s.fuel - 1}:=⟨h1,h2,h3,h4,h5,by simp only;omega,by simp only;omega,by simp only;omega⟩;simp only at e;split at e
  ·rename_i hk;split at e;·simp at e
   ·rename_i s2 he;simp only[fG,yT.next.injEq]at e;obtain⟨rfl,rfl⟩:=e;obtain⟨a1,a2,a3,a4⟩:=IC hs1 (hg g (by simp)).1 hk (by simp only;omega) he (by simp);exact⟨a1,by rw[a4];exact hrest,by rw[a2];simp only;omega,a3,by rw[a4];exact qA _⟩
   ·rename_i s2 he;obtain⟨a1,a2,a3,a4⟩:=IC hs1 (hg g (by simp)).1 hk (by simp only;omega) he (by simp);obtain⟨b1,b2,b3,b4,b5⟩:=EZ s2.choices s2 s' gl a1 e;exact⟨b1,b2,by rw[b3,a2];simp only;omega,b4.trans a3,by rw[a4]at b5;exact b5⟩
  ·split at e;·simp at e
   ·split at e;·rename_i s2 he;have :=CO _ _ _ _ he;subst this;obtain⟨b1,b2,b3,b4,b5⟩:=EZ _ _ s' gl hs1 e;exact⟨b1,b2,by rw[b3];simp only;omega,b4,b5⟩
    ·obtain⟨a1,a2,a3,a4,a5,a6,a7,a8,a9,IB,vM,a12⟩:=Ra P.length 0 {s with fuel:=s.fuel - 1} s' gl (by omega) h1 h2 (by simp only;omega) h3 h4 h5 hg (by simp only;omega) e;simp only at a6 a7 a8 a9 IB vM;refine⟨⟨h1,a2,a3,a4,a5,?_,?_,?_⟩,a1,by omega,a7,a8⟩
     ·rw[a6];rcases vM with e2|⟨d,e2,hd⟩;·rw[e2];omega
      ·rw[e2,CP];omega
     ·rw[a6];rcases vM with e2|⟨d,e2,hd⟩;·rw[e2];omega
      ·rw[e2,CP];omega
     ·rw[a6];rcases vM with e2|⟨d,e2,hd⟩;·rw[e2];omega
      ·rw[e2,bn];omega
end
