import Derived.Test.YtlpmfkpefoegeacDoorPSolve
import Derived.Test.YtlpmfkpefoegeacDoorQIsHeap
namespace Go.Proofs.YtlpmfkpefoegeacDoor
set_option maxRecDepth 100000
set_option maxHeartbeats 16000000
set_option linter.all false
def pot(fuel:Nat)(cs:List Chc):Nat:=25*fuel+(cs.map fun c=>24 - c.at_).sum
def GlsOk(N:Int)(gl:List Gl):Prop:=∀g∈gl,g.t.In N/\g.bar<=150
theorem GlsOk.mono{N N':Int}{gl:List Gl}(h:GlsOk N gl)(hN:N<=N'):GlsOk N' gl:=fun g hg=>⟨(h g hg).1.mono hN,(h g hg).2⟩
structure ChcOk (P : List Cl) (N : Int) (L : Nat) (c : Chc) : Prop where
  ne : c.g ≠ []
  gls : GlsOk N c.g
  one : 1 ≤ c.at_
  lt : c.at_ < P.length
  trail : c.trail ≤ L
structure SvOk (P : List Cl) (s : Sv) : Prop where
  prog : GoodP P
  vars0 : 0 ≤ s.vars
  env : EnvOk s.vars s.env
  chc : ∀ c ∈ s.choices, ChcOk P s.vars s.env.length c
  trails : s.choices.Pairwise fun c d => d.trail ≤ c.trail
  potV : s.vars + 8 * (pot s.fuel s.choices : Nat) ≤ 30008
  potE : s.env.length + 400 * pot s.fuel s.choices ≤ 1500000
  few : s.choices.length + s.fuel ≤ 150
theorem ChcOk.mono{P:List Cl}{N N':Int}{L L':Nat}{c:Chc}(h:ChcOk P N L c)(hN:N<=N')(hL:L<=L'):ChcOk P N' L' c:=⟨h.ne,h.gls.mono hN,h.one,h.lt,Nat.le_trans h.trail hL⟩
theorem ZgY{n:Int}(h0:0<=n)(h1:n<1099511627776):low n=n:=by unfold low;omega
theorem ZeE{t:Tm}{v d:Int}(h:t.Good v)(hv:v<=8)(hd0:0<=d)(hd:d<1000000):(Za1 t d).In (d+v):=by unfold Za1;induction h with|var n h0 h1=>simp only[Tm.ren,if_true,Tm.renL,ZgY h0 (show n<1099511627776 by omega),ZgY hd0 (show d<1099511627776 by omega)];exact .var _ (by omega) (by omega)|atom s h=>exact .atom s h|int n h0 h1=>exact .int n h0 h1|comp s l h h1 h2 h3 _ ih=>simp only[Tm.ren,Tm.renL_map];refine .comp s _ h h1 (by simpa using h2) (by simpa using h3) fun t ht=>?_;obtain⟨x,hx,rfl⟩:=List.mem_map.1 ht;exact ih x hx
theorem GoodP.at{P:List Cl}(h:GoodP P){k:Nat}{c:Cl}(hc:P[k]?=some c):c.Good:=h.2 c (List.mem_of_getElem? hc)
theorem ZjS(P:List Cl)(t:Tm):∀(n k:Nat),k<=Zc3 P t n k/\Zc3 P t n k<=k+n
 |0,k=>by simp[Zc3]
 |n+1,k=>by
  unfold Zc3;have :=ZjS P t n (k+1);split;·omega
  ·split<;>omega
section
variable {P : List Cl} {g : Gl} {rest : List Gl}
theorem Zc5:∀(n k:Nat)(s s':Sv),ZcM P g rest n k s=(.no,s')->s'=s
 |0,k,s,s',h=>by simp[ZcM]at h;exact h.symm
 |n+1,k,s,s',h=>by
  rw[ZcM]at h;have ih:=Zc5 n (k+1) s s';split at h;·simpa using h.symm
  ·split at h;·exact ih h
   ·simp only at h;split at h;·simp at h
    ·split at h;·exact ih h
     ·simp at h
theorem Ze6:∀(n k:Nat)(s s':Sv)(gl:List Gl),n=P.length - k->GoodP P->0<=s.vars->s.vars<999000->EnvOk s.vars s.env->(∀c∈s.choices,ChcOk P s.vars s.env.length c)->(s.choices.Pairwise fun c d=>d.trail<=c.trail)->GlsOk s.vars (g::rest)->s.choices.length<150->ZcM P g rest n k s=(.next gl,s')->GlsOk s'.vars gl/\0<=s'.vars/\EnvOk s'.vars s'.env/\(∀c∈s'.choices,ChcOk P s'.vars s'.env.length c)/\(s'.choices.Pairwise fun c d=>d.trail<=c.trail)/\s'.fuel=s.fuel/\s'.out=s.out/\s.vars<=s'.vars/\s'.vars<=s.vars+8/\s'.env.length<=s.env.length+400/\(s'.choices=s.choices\/∃c,s'.choices=c::s.choices/\k<c.at_)/\k<P.length
 |0,k,s,s',gl,hn,hP,hv0,hv1,hE,hC,hT,hG,hl,h=>by simp[ZcM]at h
 |n+1,k,s,s',gl,hn,hP,hv0,hv1,hE,hC,hT,hG,hl,h=>by
  rw[ZcM]at h;have ih:=Ze6 n (k+1) s s' gl (by omega) hP hv0 hv1 hE hC hT hG hl;have ih':ZcM P g rest n (k+1) s=(.next gl,s')->_:=fun e=>by have :=ih e;obtain⟨a1,a2,a3,a4,a5,a6,a7,a8,a9,a10,a11,a12⟩:=this;exact(⟨a1,a2,a3,a4,a5,a6,a7,a8,a9,a10,a11.imp id fun⟨c,h1,h2⟩=>⟨c,h1,by omega⟩,by omega⟩:GlsOk s'.vars gl/\0<=s'.vars/\EnvOk s'.vars s'.env/\(∀c∈s'.choices,ChcOk P s'.vars s'.env.length c)/\(s'.choices.Pairwise fun c d=>d.trail<=c.trail)/\s'.fuel=s.fuel/\s'.out=s.out/\s.vars<=s'.vars/\s'.vars<=s.vars+8/\s'.env.length<=s.env.length+400/\(s'.choices=s.choices\/∃c,s'.choices=c::s.choices/\k<c.at_)/\k<P.length)
  split at h;·simp at h
  ·rename_i c hc;have hcg:=hP.at hc;obtain⟨⟨hcv0,hcv8, -,hbody⟩, -,⟨hhead, -⟩, -⟩:=hcg;have hg0:=hG g (by simp);split at h;·exact ih' h
   ·simp only at h;split at h;·simp at h
    ·rename_i hw;split at h;·exact ih' h
     ·obtain⟨hE',F,hF,hFl⟩:=ZdU (N:=s.vars+c.vars) 400 [(Za1 c.head s.vars,g.t)] s.env (hE.mono (by omega)) (by intro p hp;simp only[List.mem_singleton]at hp;subst hp;exact⟨ZeE hhead hcv8 hv0 (by omega),hg0.1.mono (by omega)⟩);simp only[Prod.mk.injEq,Res.next.injEq]at h;obtain⟨rfl,rfl⟩:=h;have hEl:(Zds 400 [(Za1 c.head s.vars,g.t)] s.env).env.length=s.env.length+F.length:=by rw[hF,List.length_append]
      have hb:=ZjS P g.t (P.length - (k+1)) (k+1);have hkP:k<P.length:=(List.getElem?_eq_some_iff.1 hc).1;have hC':∀x∈s.choices,ChcOk P (s.vars+c.vars) (Zds 400 [(Za1 c.head s.vars,g.t)] s.env).env.length x:=fun x hx=>(hC x hx).mono (by omega) (by omega);refine⟨?_,by simp only;omega,hE',?_,?_,rfl,rfl,by simp only;omega,by simp only;omega,by simp only;omega,?_,hkP⟩
      ·intro x hx;simp only[Zm5,List.mem_append,List.mem_map]at hx;rcases hx with⟨t,ht,rfl⟩|hx;·exact⟨ZeE (hbody t ht).2.1 hcv8 hv0 (by omega),by simp only;omega⟩
       ·have :=hG x (by simp[hx]);exact⟨this.1.mono (by simp only;omega),this.2⟩
      ·simp only;split
       ·intro x hx;rcases List.mem_cons.1 hx with rfl|hx;·exact⟨by simp,hG.mono (by omega),by simp only;omega,by assumption,by simp only;omega⟩
        ·exact hC' x hx
       ·exact hC'
      ·simp only;split;·exact List.pairwise_cons.2 ⟨fun d hd=>(hC d hd).trail,hT⟩
       ·exact hT
      ·simp only;split;·exact .inr ⟨_,rfl,by simp only;omega⟩
       ·exact .inl rfl
end
theorem Zc6(f:Nat)(c:Chc)(cs:List Chc):pot f (c::cs)=pot f cs+(24 - c.at_):=by simp only[pot,List.map_cons,List.sum_cons];omega
theorem ZfF(f:Nat)(cs:List Chc)(h:f≠0):pot f cs=pot (f - 1) cs+25:=by unfold pot;omega
theorem Zhp(f:Nat):∀(cs:List Chc)(k:Nat),pot f (cs.drop k)<=pot f cs|[],k=>by simp|c::cs,0=>by simp|c::cs,k+1=>by rw[List.drop_succ_cons,Zc6];have :=Zhp f cs k;omega
section
variable {P : List Cl}
theorem Zcu:∀(cs:List Chc)(s s':Sv)(gl:List Gl),SvOk P {s with choices:=cs}->ZcB P cs s=(.next gl,s')->SvOk P s'/\GlsOk s'.vars gl/\s'.fuel=s.fuel/\s'.out=s.out/\s.vars<=s'.vars
 |[],s,s',gl,h,e=>by simp[ZcB]at e
 |c::cs,s,s',gl,h,e=>by
  have hc:=h.chc c (by simp);obtain⟨h1,h2,h3,h4,h5,h6,h7,h8⟩:=h;simp only at h1 h2 h3 h4 h5 h6 h7 h8;rw[Zc6]at h6 h7;have hT:=List.pairwise_cons.1 h5;have hEl:(s.env.take c.trail).length=c.trail:=by rw[List.length_take];have :=hc.trail;simp only at this;omega
  have hC:∀x∈cs,ChcOk P s.vars (s.env.take c.trail).length x:=fun x hx=>by have k:=h4 x (by simp[hx]);exact⟨k.ne,k.gls,k.one,k.lt,by rw[hEl];exact hT.1 x hx⟩
  have hlt:=hc.lt;have htr:=hc.trail;simp only at htr;have hP24:=h1.1;rw[ZcB]at e;split at e;·exact absurd (by assumption) hc.ne
  ·rename_i g rest hg;split at e;·rename_i s2 he;have :=Zc5 _ _ _ _ he;subst this;have :=Zcu cs {s with choices:=cs,env:=s.env.take c.trail} s' gl ⟨h1,h2,h3.take _,hC,hT.2,by simp only;omega,by simp only[hEl];omega,by simp only[List.length_cons]at h8 ⊢;omega⟩ e;simpa using this
   ·rename_i hne;obtain⟨a1,a2,a3,a4,a5,a6,a7,a8,a9,a10,a11,a12⟩:=Ze6 (P.length - c.at_) c.at_ {s with choices:=cs,env:=s.env.take c.trail} s' gl rfl h1 h2 (by simp only;omega) (h3.take _) hC hT.2 (by rw[<-hg];exact hc.gls) (by simp only[List.length_cons]at h8 ⊢;omega) e;simp only[hEl]at a6 a7 a8 a9 a10 a11;refine⟨⟨h1,a2,a3,a4,a5,?_,?_,?_⟩,a1,a6,a7,a8⟩
    ·rw[a6];rcases a11 with e2|⟨d,e2,hd⟩;·rw[e2];omega
     ·rw[e2,Zc6];omega
    ·rw[a6];rcases a11 with e2|⟨d,e2,hd⟩;·rw[e2];omega
     ·rw[e2,Zc6];omega
    ·rw[a6];simp only[List.length_cons]at h8;rcases a11 with e2|⟨d,e2,hd⟩;·rw[e2];omega
     ·rw[e2,List.length_cons];omega
theorem ZlE{N:Int}{t:Tm}(h:t.In N)(hN:0<=N)(i:Nat)(hi:i<t.args.length):((t.args[i]?).getD default).In N:=by rw[List.getElem?_eq_getElem hi];exact h.arg (List.getElem_mem hi)
theorem Zdu{g:Gl}{s s':Sv}{r:Option Bool}(h:SvOk P s)(hg:g.t.In s.vars)(hk:g.t.Known)(hpe:s.env.length+400+400*pot s.fuel s.choices<=1500000)(e:ZcU g s=(r,s'))(hr:r≠none):SvOk P s'/\s'.fuel=s.fuel/\s'.out=s.out/\s'.vars=s.vars:=by
 obtain⟨h1,h2,h3,h4,h5,h6,h7,h8⟩:=h;have hbind:∀(a b:Tm),a.In s.vars->b.In s.vars->SvOk P {s with env:=(Zds 400 [(a,b)] s.env).env}:=fun a b ha hb=>by
  obtain⟨hE',F,hF,hFl⟩:=ZdU (N:=s.vars) 400 [(a,b)] s.env h3 (by intro p hp;simp only[List.mem_singleton]at hp;subst hp;exact⟨ha,hb⟩);have hEl:(Zds 400 [(a,b)] s.env).env.length=s.env.length+F.length:=by rw[hF,List.length_append]
  exact⟨h1,h2,hE',fun c hc=>(h4 c hc).mono (Int.le_refl _) (by simp only;omega),h5,h6,by simp only;omega,h8⟩
 unfold ZcU at e;have hlen:∀{x},g.t.s.toList=x->(x=[101,113]\/x=[108,101,115,115]->g.t.args.length=2):=by
  rintro x rfl hx;rcases hk with⟨_,hk⟩|⟨k0,hk⟩|⟨_,hk⟩;·rcases hx with hx|hx<;>rw[hx]at hk<;>simp at hk
  ·exact k0
  ·rcases hx with hx|hx<;>rw[hx]at hk<;>simp at hk
 split at e
 ·simp only[Prod.mk.injEq]at e;obtain⟨rfl,rfl⟩:=e;refine⟨⟨h1,h2,h3,fun c hc=>h4 c (List.mem_of_mem_drop hc),h5.sublist (List.drop_sublist _ _),?_,?_,?_⟩,rfl,rfl,rfl⟩;·have :=Zhp s.fuel s.choices (s.choices.length - g.bar);simp only;omega
  ·have :=Zhp s.fuel s.choices (s.choices.length - g.bar);simp only;omega
  ·simp only[List.length_drop];omega
 ·split at e;·simp only[Prod.mk.injEq]at e;obtain⟨rfl,rfl⟩:=e;exact⟨⟨h1,h2,h3,h4,h5,h6,h7,h8⟩,rfl,rfl,rfl⟩
  ·split at e;·simp only[Prod.mk.injEq]at e;obtain⟨rfl,rfl⟩:=e;exact⟨⟨h1,h2,h3,h4,h5,h6,h7,h8⟩,rfl,rfl,rfl⟩
   ·split at e
    ·rename_i hs;have h2l:=hlen hs (.inl rfl);simp only at e;split at e;·simp only[Prod.mk.injEq]at e;exact absurd e.1.symm hr
     ·simp only[Prod.mk.injEq]at e;obtain⟨rfl,rfl⟩:=e;exact⟨hbind _ _ (ZlE hg h2 0 (by omega)) (ZlE hg h2 1 (by omega)),rfl,rfl,rfl⟩
    ·rename_i n1 n2 n3 n4;simp only at e;split at e;·simp only[Prod.mk.injEq]at e;exact absurd e.1.symm hr
     ·split at e;·simp only[Prod.mk.injEq]at e;obtain⟨rfl,rfl⟩:=e;exact⟨⟨h1,h2,h3,h4,h5,h6,h7,h8⟩,rfl,rfl,rfl⟩
      ·rename_i n5;have h3l:g.t.args.length=3:=by
        rcases hk with⟨_,hk⟩|⟨_,hk⟩|⟨k0,_⟩
        ·rcases hk with hk|hk|hk;·exact absurd hk n1
         ·exact absurd hk n2
         ·exact absurd hk n3
        ·rcases hk with hk|hk;·exact absurd hk n4
         ·exact absurd hk n5
        ·exact k0
       split at e;·simp only[Prod.mk.injEq]at e;exact absurd e.1.symm hr
       ·simp only[Prod.mk.injEq]at e;obtain⟨rfl,rfl⟩:=e;exact⟨hbind _ _ (ZlE hg h2 2 (by omega)) (.int _ (by omega) (by omega)),rfl,rfl,rfl⟩
theorem Ze7{g:Gl}{rest gl:List Gl}{s s':Sv}(h:SvOk P s)(hg:GlsOk s.vars (g::rest))(e:ZeB P g rest s=(.next gl,s')):SvOk P s'/\GlsOk s'.vars gl/\s'.fuel+1=s.fuel/\s'.out=s.out/\s.vars<=s'.vars:=by
 unfold ZeB at e;have hrest:GlsOk s.vars rest:=fun x hx=>hg x (by simp[hx]);split at e;·simp at e
 ·rename_i hf;have hp:=ZfF s.fuel s.choices hf;obtain⟨h1,h2,h3,h4,h5,h6,h7,h8⟩:=h;rw[hp]at h6 h7;have hs1:SvOk P {s with fuel:=s.fuel - 1}:=⟨h1,h2,h3,h4,h5,by simp only;omega,by simp only;omega,by simp only;omega⟩;simp only at e;split at e
  ·rename_i hk;split at e;·simp at e
   ·rename_i s2 he;simp only[Prod.mk.injEq,Res.next.injEq]at e;obtain⟨rfl,rfl⟩:=e;obtain⟨a1,a2,a3,a4⟩:=Zdu hs1 (hg g (by simp)).1 hk (by simp only;omega) he (by simp);exact⟨a1,by rw[a4];exact hrest,by rw[a2];simp only;omega,a3,by rw[a4];exact Int.le_refl _⟩
   ·rename_i s2 he;obtain⟨a1,a2,a3,a4⟩:=Zdu hs1 (hg g (by simp)).1 hk (by simp only;omega) he (by simp);obtain⟨b1,b2,b3,b4,b5⟩:=Zcu s2.choices s2 s' gl a1 e;exact⟨b1,b2,by rw[b3,a2];simp only;omega,b4.trans a3,by rw[a4]at b5;exact b5⟩
  ·split at e;·simp at e
   ·split at e;·rename_i s2 he;have :=Zc5 _ _ _ _ he;subst this;obtain⟨b1,b2,b3,b4,b5⟩:=Zcu _ _ s' gl hs1 e;exact⟨b1,b2,by rw[b3];simp only;omega,b4,b5⟩
    ·obtain⟨a1,a2,a3,a4,a5,a6,a7,a8,a9,a10,a11,a12⟩:=Ze6 P.length 0 {s with fuel:=s.fuel - 1} s' gl (by omega) h1 h2 (by simp only;omega) h3 h4 h5 hg (by simp only;omega) e;simp only at a6 a7 a8 a9 a10 a11;refine⟨⟨h1,a2,a3,a4,a5,?_,?_,?_⟩,a1,by omega,a7,a8⟩
     ·rw[a6];rcases a11 with e2|⟨d,e2,hd⟩;·rw[e2];omega
      ·rw[e2,Zc6];omega
     ·rw[a6];rcases a11 with e2|⟨d,e2,hd⟩;·rw[e2];omega
      ·rw[e2,Zc6];omega
     ·rw[a6];rcases a11 with e2|⟨d,e2,hd⟩;·rw[e2];omega
      ·rw[e2,List.length_cons];omega
end
def shC(b:Nat)(c:Ce):Ce:=if c.kind=0 then{c with n:=c.n+b}else c
def ZgZ(b:Nat)(l:List Ce)(j:Nat):List Ce:=l.mapIdx fun i c=>if b<=i/\i<j then shC b c else c
theorem ZfG(b:Nat)(l:List Ce)(j:Nat):(ZgZ b l j).length=l.length:=by simp[ZgZ]
theorem ZdW(b:Nat)(l:List Ce)(j i:Nat)(h:i<(ZgZ b l j).length):(ZgZ b l j)[i]=if b<=i/\i<j then shC b (l[i]'(by rw[ZfG]at h;exact h))else l[i]'(by rw[ZfG]at h;exact h):=by simp[ZgZ]
theorem ZkL(b:Nat)(l:List Ce):ZgZ b l b=l:=by apply List.ext_getElem (by simp[ZgZ]);intro i h1 h2;rw[ZdW,if_neg (by omega)]
theorem Zib(b:Nat)(l:List Ce)(j:Nat)(hb:b<=j)(hj:j<l.length):ZgZ b l (j+1)=(ZgZ b l j).set j (shC b l[j]):=by
 apply List.ext_getElem (by simp[ZgZ]);intro i h1 h2;rw[ZdW,List.getElem_set];by_cases e:j=i;·subst e;rw[if_pos ⟨hb,by omega⟩,if_pos rfl]
 ·rw[if_neg e,ZdW];by_cases e2:b<=i/\i<j;·rw[if_pos e2,if_pos ⟨e2.1,by omega⟩]
  ·rw[if_neg e2,if_neg (by omega)]
theorem ZlF(b:Nat)(l:List Ce)(j:Nat)(hb:b<=j)(hj:j<l.length)(hk:(l[j]).kind≠0):ZgZ b l (j+1)=ZgZ b l j:=by
 rw[Zib b l j hb hj];apply List.ext_getElem (by simp);intro i h1 h2;rw[List.getElem_set];split;·rename_i e;subst e;rw[ZdW,if_neg (by omega),shC,if_neg hk]
 ·rfl
theorem Zm8(l bl:List Ce):ZgZ l.length (l++bl) (l++bl).length=l++bl.map (shC l.length):=by
 apply List.ext_getElem (by simp[ZgZ]);intro i h1 h2;rw[ZdW];by_cases e:l.length<=i;·rw[if_pos ⟨e,by simpa[ZgZ]using h1⟩,List.getElem_append_right e,List.getElem_append_right e,List.getElem_map]
 ·rw[if_neg (by omega),List.getElem_append_left (by omega),List.getElem_append_left (by omega)]
open Classical in /-- what Load answers -/ noncomputable def Zbz(h:Hp)(bl:List Ce):Hp×Int×Int:=if ¬(h.Good/\Hp.Good ⟨bl,[]⟩)then(h,0,1)else if 65536<h.cells.length+bl.length then(h,0,3)else(⟨h.cells++bl.map (shC h.cells.length),h.trail⟩,h.cells.length,0)
end Go.Proofs.YtlpmfkpefoegeacDoor
