import Derived.Test.YtlpmfkpefoegeacDoorPMLoad
import Derived.Test.YtlpmfkpefoegeacDoorPMAns
namespace Go.Proofs.YtlpmfkpefoegeacDoor
set_option maxRecDepth 100000
set_option maxHeartbeats 16000000
set_option linter.all false
structure GoalAt (N : Int) (l : List Ce) (φ : Int → Int) (E : Env) (a : Int) (t : Tm) : Prop where
  inb : Inb l a
  cell : Zaa l a = ⟨t.kind, (t.args.length : Int), t.s⟩
  goal : t.IsGoal
  tin : t.In N
  tells : Hr l φ E (fun _ => True) a t
def Chain(N:Int)(l:List Ce)(φ:Int->Int)(E:Env)(gs:List Gm):Int->List Gl->Prop|n,[]=>n= -1|n,g::r=>∃k:Nat,n=(k:Int)/\k<gs.length/\((gs[k]?).getD default).bar=g.bar/\GoalAt N l φ E ((gs[k]?).getD default).at_ g.t/\((gs[k]?).getD default).next<n/\Chain N l φ E gs ((gs[k]?).getD default).next r
theorem Chain.ge{N:Int}{l:List Ce}{φ:Int->Int}{E:Env}{gs:List Gm}{n:Int}{gl:List Gl}(h:Chain N l φ E gs n gl): -1<=n/\n<gs.length:=by cases gl with|nil=>have :n= -1:=h;omega|cons g r=>obtain⟨k,h1,h2,_⟩:=h;omega
theorem Chain.imp{N N':Int}{l l':List Ce}{φ φ':Int->Int}{E E':Env}{gs gs':List Gm}(hgs:∀k,k<gs.length->gs'[k]?=gs[k]?)(hlen:gs.length<=gs'.length)(hG:∀a t,GoalAt N l φ E a t->GoalAt N' l' φ' E' a t):∀{gl:List Gl}{n:Int},Chain N l φ E gs n gl->Chain N' l' φ' E' gs' n gl|[],n,h=>h|g::r,n,⟨k,h1,h2,h3,h4,h5,h6⟩=>by refine⟨k,h1,by omega,?_⟩;rw[hgs k h2];exact⟨h3,hG _ _ h4,h5,Chain.imp hgs hlen hG h6⟩
def Snap(N:Int)(l:List Ce)(E:Env)(q:Nat)(query:Int)(gs:List Gm)(n:Int)(gl:List Gl):Prop:=∃φ,Mon N l φ E/\(∀v:Nat,v<q->Inb l (query+(v:Nat))/\Hr l φ E (fun _=>True) (query+(v:Nat)) (tvar (v:Nat)))/\Chain N l φ E gs n gl
theorem Mon.mono{N N':Int}{l:List Ce}{φ:Int->Int}{E:Env}(h:Mon N l φ E)(hN:N<=N'):Mon N' l φ E:=⟨h.lt,fun x hx=>by have :=h.bd x hx;omega,h.free⟩
theorem Snap.mono{N N':Int}{l:List Ce}{E:Env}{q:Nat}{query:Int}{gs gs':List Gm}{n:Int}{gl:List Gl}(h:Snap N l E q query gs n gl)(hN:N<=N')(hgs:∀k,k<gs.length->gs'[k]?=gs[k]?)(hlen:gs.length<=gs'.length):Snap N' l E q query gs' n gl:=by obtain⟨φ,h1,h2,h3⟩:=h;exact⟨φ,h1.mono hN,h2,h3.imp hgs hlen fun _ _ h=>⟨h.inb,h.cell,h.goal,h.tin.mono hN,h.tells⟩⟩
structure ChR (h : Hp) (E : Env) (N : Int) (q : Nat) (query : Int) (gs : List Gm) (c : Cm) (d : Chc) : Prop where
  from_ : c.from_ = d.at_
  top : c.top ≤ h.cells.length
  tr : c.trail ≤ h.trail.length
  tre : c.trail ≤ d.trail
  dtr : d.trail ≤ E.length
  good : (ZcG h c.top c.trail).Good
  snap : Snap N (ZcG h c.top c.trail).cells (E.take d.trail) q query gs (c.goal : Int) d.g
def ChsR(h:Hp)(E:Env)(N:Int)(q:Nat)(query:Int)(gs:List Gm):List Cm->List Chc->Prop|[],[]=>True|c::cs,d::ds=>ChR h E N q query gs c d/\(∀x∈cs,x.top<=c.top/\x.trail<=c.trail)/\ChsR h E N q query gs cs ds|_,_=>False
section
variable {h h' : Hp} {E E' : Env} {N N' : Int} {q : Nat} {query : Int} {gs gs' : List Gm}
theorem ChsR.len:∀{cs:List Cm}{ds:List Chc},ChsR h E N q query gs cs ds->cs.length=ds.length|[],[],_=>rfl|c::cs,d::ds,h=>by simp[ChsR.len h.2.2]|[],_::_,h=>h.elim|_::_,[],h=>h.elim
theorem ChsR.drop:∀{cs:List Cm}{ds:List Chc}(k:Nat),ChsR h E N q query gs cs ds->ChsR h E N q query gs (cs.drop k) (ds.drop k)|cs,ds,0,h=>h|[],[],k+1,h=>by simp[ChsR]|c::cs,d::ds,k+1,h=>ChsR.drop k h.2.2|[],_::_,_+1,h=>h.elim|_::_,[],_+1,h=>h.elim
theorem ChsR.mem:∀{cs:List Cm}{ds:List Chc},ChsR h E N q query gs cs ds->∀c∈cs,∃d∈ds,ChR h E N q query gs c d
 |[],[],_,c,hc=>by cases hc
 |c::cs,d::ds,h,x,hx=>by
  rcases List.mem_cons.1 hx with rfl|hx;·exact⟨d,by simp,h.1⟩
  ·obtain⟨e,he,h3⟩:=ChsR.mem h.2.2 x hx;exact⟨e,by simp[he],h3⟩
 |[],_::_,h,_,_=>h.elim
 |_::_,[],h,_,_=>h.elim
theorem ChsR.imp:∀{cs:List Cm}{ds:List Chc},(∀c d,c∈cs->d∈ds->ChR h E N q query gs c d->ChR h' E' N' q query gs' c d)->ChsR h E N q query gs cs ds->ChsR h' E' N' q query gs' cs ds|[],[],_,_=>trivial|c::cs,d::ds,k,h=>⟨k c d (by simp) (by simp) h.1,h.2.1,ChsR.imp (fun c d hc hd=>k c d (by simp[hc]) (by simp[hd])) h.2.2⟩|[],_::_,_,h=>h.elim|_::_,[],_,h=>h.elim
theorem ChR.move{c:Cm}{d:Chc}(k:ChR h E N q query gs c d)(ho:ZcG h' c.top c.trail=ZcG h c.top c.trail)(h1:c.top<=h'.cells.length)(h2:c.trail<=h'.trail.length)(hE:E'.take d.trail=E.take d.trail)(h3:d.trail<=E'.length)(hN:N<=N')(hgs:∀k,k<gs.length->gs'[k]?=gs[k]?)(hlen:gs.length<=gs'.length):ChR h' E' N' q query gs' c d:=⟨k.from_,h1,h2,k.tre,h3,by rw[ho];exact k.good,by rw[ho,hE];exact k.snap.mono hN hgs hlen⟩
theorem ZeL{l:List Ce}{vs:List Int}{i:Nat}:(ZbG l vs)[i]?=(l[i]?).map fun c=>if(i:Int)∈vs then{c with n:=(i:Int)}else c:=by unfold ZbG;rw[List.getElem?_mapIdx]
theorem Zl4{top tr top' tr':Nat}(h1:top'<=top)(h2:tr'<=tr):ZcG (ZcG h top tr) top' tr'=ZcG h top' tr':=by
 unfold ZcG;simp only[Hp.mk.injEq];refine⟨?_,by rw[List.take_take,Nat.min_eq_left h2]⟩;apply List.ext_getElem?;intro i;by_cases hi:i<top'
 ·rw[List.getElem?_take_of_lt hi,List.getElem?_take_of_lt hi,ZeL,ZeL,List.getElem?_take_of_lt (by omega),ZeL];cases h.cells[i]? with
   |none=>rfl
   |some c=>
    simp only[Option.map_some,Option.some.injEq];have hm:(i:Int)∈h.trail.drop tr'↔(i:Int)∈(h.trail.take tr).drop tr'\/(i:Int)∈h.trail.drop tr:=by
     have e:h.trail.drop tr'=(h.trail.take tr).drop tr'++h.trail.drop tr:=by
      conv=>lhs;rw[<-List.take_append_drop tr h.trail]
      rw[List.drop_append];by_cases hl:tr<=h.trail.length;·rw[show tr' - (List.take tr h.trail).length=0 by rw[List.length_take];omega];rfl
      ·rw[show h.trail.drop tr=[]from List.drop_eq_nil_of_le (by omega),List.drop_nil]
     rw[e,List.mem_append]
    by_cases a1:(i:Int)∈(h.trail.take tr).drop tr';·rw[if_pos a1,if_pos (hm.2 (.inl a1))];split<;>rfl
    ·by_cases a2:(i:Int)∈h.trail.drop tr;·rw[if_neg a1,if_pos a2,if_pos (hm.2 (.inr a2))]
     ·rw[if_neg a1,if_neg a2,if_neg (fun k=>(hm.1 k).elim a1 a2)]
 ·rw[List.getElem?_eq_none (by rw[List.length_take];omega),List.getElem?_eq_none (by rw[List.length_take];omega)]
theorem Zgm{F:List Ce}{u:List Ce}{vs:List Int}(hB:Bound (h.cells++F) vs u){top tr:Nat}(h1:top<=h.cells.length)(h2:tr<=h.trail.length):ZcG ⟨u,h.trail++vs⟩ top tr=ZcG h top tr:=by
 unfold ZcG;simp only[Hp.mk.injEq];refine⟨?_,by rw[List.take_append_of_le_length h2]⟩;apply List.ext_getElem?;intro i;by_cases hi:i<top
 ·rw[List.getElem?_take_of_lt hi,List.getElem?_take_of_lt hi,ZeL,ZeL,List.drop_append_of_le_length h2];have hil:i<(h.cells++F).length:=by simp;omega
  have hiu:i<u.length:=by rw[hB.1];exact hil
  have hih:i<h.cells.length:=by omega
  rw[List.getElem?_eq_getElem hiu,List.getElem?_eq_getElem hih];simp only[Option.map_some,Option.some.injEq];have hg:(h.cells++F)[i]=h.cells[i]:=List.getElem_append_left hih;rcases hB.2 i hil hiu with⟨k1,k2⟩|⟨k1,k2,k3,n,k4,k5,k6⟩
  ·rw[k2,hg];by_cases a1:(i:Int)∈h.trail.drop tr;·rw[if_pos (List.mem_append_left _ a1),if_pos a1]
   ·rw[if_neg (fun k=>(List.mem_append.1 k).elim a1 k1),if_neg a1]
  ·rw[if_pos (List.mem_append_right _ k1),k6];rw[hg]at k3 ⊢;have :({h.cells[i]with n:=(i:Int)}:Ce)=h.cells[i]:=by cases hc:h.cells[i];rw[hc]at k3;simp only at k3;rw[k3]
   rw[this];split<;>rfl
 ·rw[List.getElem?_eq_none (by rw[List.length_take];omega),List.getElem?_eq_none (by rw[List.length_take];omega)]
theorem Zj9(h:Hp):ZcG h h.cells.length h.trail.length=h:=by unfold ZcG;rw[List.drop_length,ZhU,List.take_length,List.take_length]
end
def ZbO(fuel:Nat)(out:List Ev):Nat:=300*(fuel+(12 - out.length))
def ZeM(fuel:Nat)(out:List Ev):Nat:=5*(fuel+(12 - out.length))
structure Sim0 (q : Nat) (m : Mv) (s : Sv) (gl : List Gl) : Prop where
  good : m.h.Good
  fuel : m.fuel = s.fuel
  out : m.out = s.out
  tr : m.h.trail.length ≤ s.env.length
  cur : Snap s.vars m.h.cells s.env q m.query m.goals m.now gl
  chc : ChsR m.h s.env s.vars q m.query m.goals m.choices s.choices
  pot : m.h.cells.length + ZbO m.fuel m.out ≤ 60000
  pots : ∀ c ∈ m.choices, c.top + 300 + ZbO m.fuel m.out ≤ 60000
  gcnt : m.goals.length + ZeM m.fuel m.out ≤ 5000
structure Sim (P : List Cl) (q : Nat) (m : Mv) (s : Sv) (gl : List Gl) : Prop where
  ok : SvOk P s
  gls : GlsOk s.vars gl
  sim : Sim0 q m s gl
structure Bak (P : List Cl) (q : Nat) (m : Mv) (s : Sv) (cs : List Cm) (ds : List Chc) : Prop where
  ok : SvOk P { s with choices := ds }
  good : m.h.Good
  fuel : m.fuel = s.fuel
  out : m.out = s.out
  chc : ChsR m.h s.env s.vars q m.query m.goals cs ds
  pots : ∀ c ∈ cs, c.top + 300 + ZbO m.fuel m.out ≤ 60000
  gcnt : m.goals.length + 5 + ZeM m.fuel m.out ≤ 5000
def Both(q:Nat):RM×Mv->Res×Sv->Prop|(.next,m),(.next gl,s)=>Sim0 q m s gl|(.no,_),(.no,_)=>True|(.off,m),(.off,s)=>m.out=s.out|_,_=>False
theorem Ziq{N:Int}{l:List Ce}{φ:Int->Int}{E:Env}{a:Int}{t:Tm}(h:GoalAt N l φ E a t)(c:Cl):ZfA c (Zaa l a)↔Zfy c.head t:=by unfold ZfA Zfy;rw[h.cell];simp only;exact⟨fun⟨h1,h2⟩=>⟨h1,by omega⟩,fun⟨h1,h2⟩=>⟨h1,by omega⟩⟩
theorem Zgn{N:Int}{l:List Ce}{φ:Int->Int}{E:Env}{a:Int}{t:Tm}(h:GoalAt N l φ E a t)(P:List Cl):∀(n k:Nat),ZaX P (Zaa l a) n k=Zc3 P t n k|0,k=>rfl|n+1,k=>by rw[ZaX,Zc3,Zgn h P n (k+1)];cases P[k]? with|none=>rfl|some c=>simp only[Ziq h]
theorem Zl5{N:Int}{E:Env}(h:EnvOk N E)(hN:0<=N):(E.length:Int)<=N:=by obtain⟨n,rfl⟩:=Int.eq_ofNat_of_zero_le hN;have :=Zhi n (E.map (·.1)) h.nodup (fun x hx=>by obtain⟨p,hp,rfl⟩:=List.mem_map.1 hx;exact h.key p hp);rw[List.length_map]at this;omega
theorem Zhx{h:Hp}{F:List Ce}(hg:h.Good)(hF:GoodC F)(hl:h.cells.length+F.length<=65536):Zbz h F=(⟨h.cells++F.map (shC h.cells.length),h.trail⟩,(h.cells.length:Int),0):=by rw[Zbz,if_neg (not_not_intro ⟨hg,hF,fun j hj=>by simp at hj,by simp only;omega,by simp⟩),if_neg (by omega)]
theorem Zka{h:Hp}{a b:Int}(hg:h.Good)(ha:Inb h.cells a)(hb:Inb h.cells b):Za6 h a b=if(uniL 400 [(a,b)] h.cells h.trail).work<0 then(h,false,3)else if(uniL 400 [(a,b)] h.cells h.trail).ok=false then(h,false,0)else if 65536<(uniL 400 [(a,b)] h.cells h.trail).trail.length then(h,false,3)else(⟨(uniL 400 [(a,b)] h.cells h.trail).cells,(uniL 400 [(a,b)] h.cells h.trail).trail⟩,true,0):=by rw[Za6,if_neg (not_not_intro hg),if_neg (not_not_intro ⟨ha,hb⟩)]
theorem Zg3{l l':List Ce}{vs:List Int}(hB:Bound l vs l'){a:Int}(ha:Inb l a)(hk:(Zaa l a).kind≠0):Zaa l' a=Zaa l a/\Inb l' a:=by
 obtain⟨k,rfl,hkl,e⟩:=ZaY ha;have hkl':k<l'.length:=by rw[hB.1];exact hkl
 rw[e]at hk ⊢;rw[ZaC hkl'];rcases hB.2 k hkl hkl' with⟨_,k2⟩|⟨_,k2,_⟩;·exact⟨k2,zN _,by omega⟩
 ·exact absurd k2 hk
theorem Zg4{l l':List Ce}{t vs:List Int}(hg:Hp.Good ⟨l,t⟩)(h2:Bound l vs l')(h3:∀v∈vs,Inb l v)(htl:(t++vs).length<=65536):Hp.Good ⟨l',t++vs⟩:=by
 refine⟨h2.good hg.1,fun j hj=>?_,by rw[h2.1];exact hg.2.2.1,htl⟩;simp only at hj;by_cases hlt:j<t.length;·obtain⟨v,e1,e2,e3⟩:=hg.2.1 j hlt;refine⟨v,by simp only;rw[List.getElem_append_left hlt];exact e1,by rw[h2.1];exact e2,?_⟩;rw[h2.kind v e2 (by rw[h2.1];exact e2)];exact e3
 ·have hj':j - t.length<vs.length:=by simp only[List.length_append]at hj;omega
  obtain⟨k1,k2⟩:=h3 vs[j - t.length] (List.getElem_mem _);obtain⟨v,hv⟩:=Int.eq_ofNat_of_zero_le k1;have hvl:v<l.length:=by omega
  refine⟨v,by simp only;rw[List.getElem_append_right (by omega)];exact hv,by rw[h2.1];exact hvl,?_⟩;rcases h2.2 v hvl (by rw[h2.1];exact hvl)with⟨k3,_⟩|⟨_,k4,_,n,_,_,k5⟩;·exact absurd (hv▸List.getElem_mem _) k3
  ·rw[k5];exact k4
theorem IsGoal.ne{t:Tm}(h:t.IsGoal):t.kind≠0:=by rcases h with h|h<;>rw[h]<;>decide
theorem GoalAt.kind{N:Int}{l:List Ce}{φ:Int->Int}{E:Env}{a:Int}{t:Tm}(h:GoalAt N l φ E a t):(Zaa l a).kind≠0:=by rw[h.cell];exact IsGoal.ne h.goal
theorem GoalAt.move{N N':Int}{l l':List Ce}{φ φ':Int->Int}{E E':Env}{a:Int}{t:Tm}(h:GoalAt N l φ E a t)(hN:N<=N')(hc:Zaa l' a=Zaa l a)(hi:Inb l' a)(hr:Hr l' φ' E' (fun _=>True) a t):GoalAt N' l' φ' E' a t:=⟨hi,hc.trans h.cell,h.goal,h.tin.mono hN,hr⟩
theorem Zff{N:Int}{l:List Ce}{φ:Int->Int}{E:Env}{base:Int}{bar:Nat}{gs0:List Gm}{nx:Int}{rest:List Gl}(hch:Chain N l φ E gs0 nx rest):∀(xs:List Int)(ts:List Tm),xs.length=ts.length->(∀(j:Nat)(hj:j<ts.length),∃a,xs[j]?=some a/\GoalAt N l φ E (base+a) ts[j])->Chain N l φ E (Zbg base bar xs gs0 nx).1 (Zbg base bar xs gs0 nx).2 ((ts.map fun t=>(⟨t,bar⟩:Gl))++rest)/\gs0.length<=(Zbg base bar xs gs0 nx).1.length/\∀k,k<gs0.length->(Zbg base bar xs gs0 nx).1[k]?=gs0[k]?|[],[],_,_=>⟨hch,zL _,fun _ _=>rfl⟩|a::xs,t::ts,hl,h=>by obtain⟨k1,k2,k3⟩:=Zff hch xs ts (by simpa using hl) (fun j hj=>by obtain⟨a',e1,e2⟩:=h (j+1) (by simp;omega);exact⟨a',by simpa using e1,by simpa using e2⟩);rw[Zbg];generalize Zbg base bar xs gs0 nx=p at k1 k2 k3 ⊢;obtain⟨a',e1,e2⟩:=h 0 (by simp);simp only[List.getElem?_cons_zero,Option.some.injEq,List.getElem_cons_zero]at e1 e2;subst e1;have hge:=k1.ge;refine⟨⟨p.1.length,rfl,by simp,?_⟩,by simp;omega,fun k hk=>by rw[List.getElem?_append_left (by omega)];exact k3 k hk⟩;simp only[List.getElem?_concat_length,Option.getD_some];refine⟨trivial,e2,hge.2,k1.imp (fun k hk=>List.getElem?_append_left hk) (by simp) fun _ _ h=>h⟩|[],_::_,hl,_=>by simp at hl|_::_,[],hl,_=>by simp at hl
theorem ZdE{base:Int}{bar:Nat}{gs0:List Gm}{nx:Int}:∀(xs:List Int),(Zbg base bar xs gs0 nx).1.length=gs0.length+xs.length|[]=>rfl|a::xs=>by rw[Zbg];simp only[List.length_append,List.length_cons,List.length_nil,ZdE xs];omega
theorem Zfu(t:Tm)(d:Int)(hk:t.kind≠0):(Za1 t d).kind=t.kind/\(Za1 t d).args.length=t.args.length/\(Za1 t d).s=t.s:=by obtain⟨k,n,s,l⟩:=t;simp[Za1,Tm.ren,Tm.renL_map,Tm.kind,Tm.args,Tm.s]
theorem Zi7{t:Tm}{d:Int}(h:t.IsGoal):(Za1 t d).IsGoal:=by unfold Tm.IsGoal at h ⊢;rw[(Zfu t d (IsGoal.ne h)).1];exact h
structure CallOk (q : Nat) (m : Mv) (s : Sv) (n : Nat) (g : Gl) (rest : List Gl) : Prop where
  good : m.h.Good
  env : EnvOk s.vars s.env
  v0 : 0 ≤ s.vars
  v1 : s.vars ≤ 40000
  qv : (q : Int) ≤ s.vars
  gt : g.t.In s.vars
  fuel : m.fuel = s.fuel
  out : m.out = s.out
  tr : m.h.trail.length ≤ s.env.length
  cur : Snap s.vars m.h.cells s.env q m.query m.goals (n : Int) (g :: rest)
  chc : ChsR m.h s.env s.vars q m.query m.goals m.choices s.choices
  pot : m.h.cells.length + 300 + ZbO m.fuel m.out ≤ 60000
  pots : ∀ c ∈ m.choices, c.top + 300 + ZbO m.fuel m.out ≤ 60000
  gcnt : m.goals.length + 5 + ZeM m.fuel m.out ≤ 5000
theorem Zhy{P:List Cl}{q:Nat}{m:Mv}{s:Sv}{n:Nat}{g:Gl}{rest:List Gl}(hP:GoodP P)(C:CallOk q m s n g rest):∀(j k:Nat),j=P.length - k->Both q (Zbs P n (ZaP m n) j k m) (ZcM P g rest j k s)
 |0,k,_=>by rw[Zbs,ZcM];trivial
 |j+1,k,hj=>by
  have ih:=Zhy hP C j (k+1) (by omega);have hkl:k<P.length:=by omega
  rw[Zbs,ZcM,List.getElem?_eq_getElem hkl];simp only;obtain⟨φ,hM,hq,kk,e1,hlt,hbar,hga,hnx,hch⟩:=C.cur;have e2:kk=n:=by omega
  subst e2;have hgm:ZaP m kk=(m.goals[kk]?).getD default:=rfl;rw[<-hgm]at hbar hga hnx hch;generalize ZaP m kk=gm at*;have hls:=Ziq hga P[k];by_cases hlike:Zfy (P[k]).head g.t
  ·have hlm:=hls.2 hlike;rw[if_neg (not_not_intro hlm),if_neg (not_not_intro hlike)];have hnext:ZaX P (Zaa m.h.cells gm.at_) (P.length - (k+1)) (k+1)=Zc3 P g.t (P.length - (k+1)) (k+1):=Zgn hga P _ _;rw[hnext];have hcg:(P[k]).Good:=hP.2 _ (List.getElem_mem hkl);generalize P[k]=c at*;obtain⟨head,body,vars⟩:=c;obtain⟨v,rfl⟩:=Int.eq_ofNat_of_zero_le (show 0<=vars from hcg.1.1);obtain⟨F,hF⟩:∃F,F=(Zak (ZaH (ZaR v) head) body).1:=⟨_,rfl⟩;obtain⟨b1,b2,b3,b4⟩:=Zg2 hcg F hF;have hcells:(Zaf ⟨head,body,(v:Int)⟩).cells=F:=by rw[hF];simp[Zaf]
   have hgoals:(Zaf ⟨head,body,(v:Int)⟩).goals=(Zak (ZaH (ZaR v) head) body).2:=by simp[Zaf]
   have hhd:(Zaf ⟨head,body,(v:Int)⟩).head=(v:Int):=by simp[Zaf]
   have hbody:∀t∈body,t.IsGoal/\t.Good (v:Int):=fun t ht=>⟨(hcg.1.2.2.2 t ht).1,(hcg.1.2.2.2 t ht).2.1⟩;have hv8:(v:Int)<=8:=hcg.1.2.1;obtain⟨n1,n2⟩:=Zi5 v head (ZaR v) hcg.2.2.1.1 hcg.2.1 (Zi6 v) (by rw[ZaQ];exact zL _);have n3:=ZfK v body (ZaH (ZaR v) head) hbody n1 (by have :=ZeJ head (ZaR v);rw[ZaQ]at this;omega);rw[<-hF]at n3;obtain⟨n3,n4⟩:=n3;have hlen:m.h.cells.length+F.length<=65536:=by have :=C.pot;omega
   have hld:=Zhx C.good b2 hlen;have hg1:=Zgk C.good b2 hlen;rw[hcells,hgoals,hhd,hld];simp only[ne_eq,not_true_eq_false,if_false];have hM1:=Zhv hM C.env C.v0 n3;have hE1:EnvOk (s.vars+(v:Int)) s.env:=C.env.mono (by omega);have hφ:∀n:Int,0<=n->n<(v:Int)->Zgl m.h.cells s.vars φ (n+(m.h.cells.length:Int))=s.vars+n:=fun n h0 h1=>by unfold Zgl;rw[if_neg (by omega)];omega
   have tell:∀(t:Tm)(a:Int),t.Good (v:Int)->Laid F id a t->Hr (m.h.cells++F.map (shC m.h.cells.length)) (Zgl m.h.cells s.vars φ) s.env (fun _=>True) ((m.h.cells.length:Int)+a) (Za1 t s.vars):=fun t a ht ha=>by have :=Zl0 (v:=(v:Int)) C.env C.v0 (by have :=C.v1;omega) hv8 hφ t _ ht (Zg1 (H:=m.h.cells) t a ha);rwa[Int.add_comm]at this
   have hhead:=tell head (v:Int) hcg.2.2.1.1 b3;have hgoal:Hr (m.h.cells++F.map (shC m.h.cells.length)) (Zgl m.h.cells s.vars φ) s.env (fun _=>True) gm.at_ g.t:=Zhw C.good.1 hga.inb hga.tells;have hinb:Inb (m.h.cells++F.map (shC m.h.cells.length)) ((m.h.cells.length:Int)+(v:Int)):=by obtain⟨x,hx⟩:=hhead.looks;exact hx.start
   have hinb2:Inb (m.h.cells++F.map (shC m.h.cells.length)) gm.at_:=(ZbH hga.inb).2;rw[Zka hg1 hinb hinb2];have hIs:∀p∈[(Za1 head s.vars,g.t)],p.1.In (s.vars+(v:Int))/\p.2.In (s.vars+(v:Int)):=by intro p hp;simp only[List.mem_singleton]at hp;subst hp;exact⟨ZeE hcg.2.2.1.1 hv8 C.v0 (by have :=C.v1;omega),C.gt.mono (by omega)⟩
   have U:=ZjY (N:=s.vars+(v:Int)) 400 [((m.h.cells.length:Int)+(v:Int),gm.at_)] [(Za1 head s.vars,g.t)] (m.h.cells++F.map (shC m.h.cells.length)) s.env m.h.trail hE1 hM1 ⟨⟨hhead,hgoal⟩,trivial⟩ hIs;have hUE:=ZdU (N:=s.vars+(v:Int)) 400 [(Za1 head s.vars,g.t)] s.env hE1 hIs;have hUB:=ZdP 400 [((m.h.cells.length:Int)+(v:Int),gm.at_)] (m.h.cells++F.map (shC m.h.cells.length)) m.h.trail;simp only at hUB ⊢;generalize uniL 400 [((m.h.cells.length:Int)+(v:Int),gm.at_)] (m.h.cells++F.map (shC m.h.cells.length)) m.h.trail=u at U hUB ⊢;generalize Zds 400 [(Za1 head s.vars,g.t)] s.env=u' at U hUE ⊢;by_cases hw:u'.work<0;·rw[if_pos (show u.work<0 by rw[U.work];exact hw),if_pos hw];simp only[ne_eq,show ¬((3:Int)=0)by decide,not_false_eq_true,if_true];show m.out++_=s.out++_;rw[C.out]
   rw[if_neg (show ¬u.work<0 by rw[U.work];exact hw),if_neg hw];by_cases hok:u'.ok=false;·rw[if_pos (show u.ok=false by rw[U.ok];exact hok),if_pos hok];simp only[not_true_eq_false,if_false,if_true];exact ih
   have hok':u.ok=true:=by rw[U.ok];simpa using hok
   rw[if_neg (show ¬u.ok=false by rw[hok'];decide),if_neg hok];obtain⟨vs,t1,t2,t3⟩:=U.trail hok';obtain⟨vs',t1',hB, -, -⟩:=hUB hok';have hvs:vs'=vs:=List.append_cancel_left (t1'.symm.trans t1);subst hvs;have hel:=Zl5 hUE.1 (by have :=C.v0;omega);have htl:u.trail.length<=65536:=by rw[t1,List.length_append];have :=C.tr;have :=C.v1;omega
   rw[if_neg (show ¬65536<u.trail.length by omega)];simp only[ne_eq,not_true_eq_false,if_false,Bool.true_eq_false];have hcellU:∀a,Inb (m.h.cells++F.map (shC m.h.cells.length)) a->(Zaa (m.h.cells++F.map (shC m.h.cells.length)) a).kind≠0->Zaa u.cells a=Zaa (m.h.cells++F.map (shC m.h.cells.length)) a/\Inb u.cells a:=fun a ha hk=>Zg3 hB ha hk;have hgold:∀a t,GoalAt s.vars m.h.cells φ s.env a t->GoalAt (s.vars+(v:Int)) u.cells (Zgl m.h.cells s.vars φ) u'.env a t:=fun a t h=>by have hl:=ZbH (F:=F) h.inb;obtain⟨k1,k2⟩:=hcellU a hl.2 (by rw[hl.1];exact h.kind);exact h.move (by omega) (k1.trans hl.1) k2 (U.tells hok' a t (h.tin.mono (by omega)) (Zhw C.good.1 h.inb h.tells))
   have hgnew:∀(j:Nat)(hj:j<(body.map fun t=>Za1 t s.vars).length),∃a,(Zak (ZaH (ZaR v) head) body).2[j]?=some a/\GoalAt (s.vars+(v:Int)) u.cells (Zgl m.h.cells s.vars φ) u'.env ((m.h.cells.length:Int)+a) (body.map fun t=>Za1 t s.vars)[j]:=fun j hj=>by
    have hj':j<body.length:=by simpa using hj
    obtain⟨a,e1,e2⟩:=n4 j hj';obtain⟨a',f1,f2⟩:=b4 j hj';rw[e1]at f1;obtain rfl:=Option.some.inj f1;have hbj:=hbody _ (List.getElem_mem hj');have hkne:=IsGoal.ne hbj.1;obtain⟨c1,c2⟩:=Zba e2;obtain⟨d1,d2⟩:=Zbp (H:=m.h.cells) c2;rw[c1,Zcr _ (by simpa using hkne),Int.add_comm]at d1;rw[Int.add_comm]at d2;obtain⟨k1,k2⟩:=hcellU _ d2 (by rw[d1];simpa using hkne);have hin:=ZeE (d:=s.vars) hbj.2 hv8 C.v0 (by have :=C.v1;omega);obtain⟨p1,p2,p3⟩:=Zfu body[j] s.vars hkne;refine⟨(a:Int),e1,?_⟩;rw[List.getElem_map];exact⟨k2,by rw[k1,d1,p1,p2,p3],Zi7 hbj.1,hin,U.tells hok' _ _ hin (tell _ _ hbj.2 f2)⟩
   have hrest:Chain (s.vars+(v:Int)) u.cells (Zgl m.h.cells s.vars φ) u'.env m.goals gm.next rest:=hch.imp (fun _ _=>rfl) (zL _) hgold;have hlg:=Za9 body (ZaH (ZaR v) head);obtain⟨p1,p2,p3⟩:=Zff (base:=(m.h.cells.length:Int)) (bar:=m.choices.length) hrest (Zak (ZaH (ZaR v) head) body).2 (body.map fun t=>Za1 t s.vars) (by simpa using hlg) hgnew;rw[List.map_map]at p1;have hul:u.cells.length=m.h.cells.length+F.length:=by rw[hB.1];simp
   have hold:∀top tr,top<=m.h.cells.length->tr<=m.h.trail.length->ZcG ⟨u.cells,u.trail⟩ top tr=ZcG m.h top tr:=fun top tr h1 h2=>by rw[t1];exact Zgm hB h1 h2
   obtain⟨hE2,F2,hF2, -⟩:=hUE;have htake:∀k,k<=s.env.length->u'.env.take k=s.env.take k:=fun k hk=>by rw[hF2,List.take_append_of_le_length hk]
   have hchl:=C.chc.len;have hchs:ChsR ⟨u.cells,u.trail⟩ u'.env (s.vars+(v:Int)) q m.query (Zbg (m.h.cells.length:Int) m.choices.length (Zak (ZaH (ZaR v) head) body).2 m.goals gm.next).1 m.choices s.choices:=C.chc.imp fun c d hc hd k=>k.move (hold _ _ k.top k.tr) (by simp only;have :=k.top;omega) (by simp only[t1,List.length_append];have :=k.tr;omega) (htake _ k.dtr) (by rw[hF2,List.length_append];have :=k.dtr;omega) (by omega) p3 p2;have hnew:Both q (.next,{m with h:=⟨u.cells,u.trail⟩,choices:=if Zc3 P g.t (P.length - (k+1)) (k+1)<P.length then⟨kk,Zc3 P g.t (P.length - (k+1)) (k+1),m.h.cells.length,m.h.trail.length⟩::m.choices else m.choices,goals:=(Zbg (m.h.cells.length:Int) m.choices.length (Zak (ZaH (ZaR v) head) body).2 m.goals gm.next).1,now:=(Zbg (m.h.cells.length:Int) m.choices.length (Zak (ZaH (ZaR v) head) body).2 m.goals gm.next).2}) (.next (Zm5 s.choices.length s.vars body rest),{s with env:=u'.env,choices:=if Zc3 P g.t (P.length - (k+1)) (k+1)<P.length then⟨g::rest,Zc3 P g.t (P.length - (k+1)) (k+1),s.env.length⟩::s.choices else s.choices,vars:=s.vars+(v:Int)}):=by
    refine⟨?_,C.fuel,C.out,?_,?_,?_,?_,?_,by have :=C.gcnt;have h5:body.length<=5:=hcg.1.2.2.1;simp only[ZdE,hlg];omega⟩;·simp only;rw[t1]at htl ⊢;exact Zg4 hg1 hB (fun x hx=>(t3 x hx).1) htl
    ·simp only[t1,List.length_append];have :=C.tr;omega
    ·refine⟨Zgl m.h.cells s.vars φ,U.mon hok',fun w hw=>?_,?_⟩
     ·obtain⟨q1,q2⟩:=hq w hw;refine⟨?_,?_⟩;·unfold Inb at q1 ⊢;simp only;omega
      ·exact U.tells hok' _ _ (.var _ (by omega) (by have :=C.qv;omega)) (Zhw C.good.1 q1 q2)
     ·unfold Zm5;rw[<-hchl];exact p1
    ·by_cases hmore:Zc3 P g.t (P.length - (k+1)) (k+1)<P.length
     ·simp only[if_pos hmore];refine⟨⟨rfl,by simp only;omega,by simp only[t1,List.length_append];omega,C.tr,by rw[hF2,List.length_append];simp only;omega,?_,?_⟩,fun x hx=>?_,hchs⟩;·simp only;rw[hold _ _ (zL _) (zL _),Zj9];exact C.good
      ·simp only;rw[hold _ _ (zL _) (zL _),Zj9,htake _ (zL _),List.take_length];exact C.cur.mono (by omega) p3 p2
      ·obtain⟨d,_,hd⟩:=C.chc.mem x hx;exact⟨hd.top,hd.tr⟩
     ·simp only[if_neg hmore];exact hchs
    ·simp only;have :=C.pot;omega
    ·intro x hx;simp only at hx ⊢;split at hx
     ·rcases List.mem_cons.1 hx with rfl|hx;·exact C.pot
      ·exact C.pots x hx
     ·exact C.pots x hx
   exact hnew
  ·rw[if_pos (fun h=>hlike (hls.1 h)),if_pos hlike];exact ih
end Go.Proofs.YtlpmfkpefoegeacDoor
