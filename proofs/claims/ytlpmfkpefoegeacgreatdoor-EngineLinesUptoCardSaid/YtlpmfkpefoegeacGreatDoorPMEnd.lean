import Derived.Test.YtlpmfkpefoegeacGreatDoorQHUnify
namespace Go.Proofs.YtlpmfkpefoegeacGreatDoor
set_option maxRecDepth 99999
set_option maxHeartbeats 0
set_option linter.all false
structure Gm where
  at_ : Int
  bar : Nat
  next : Int
  deriving Inhabited
structure Cm where
  goal : Nat
  from_ : Nat
  top : Nat
  trail : Nat
structure Mv where
  h : Hp
  goals : List Gm
  choices : List Cm
  now : Int
  query : Int
  fuel : Nat
  out : List Ev
inductive RM where
  | next
  | no
  | off
def Mv.put(m:Mv)(kind:Int):Mv:={m with out:=m.out++[⟨kind,[]⟩]}
def eH(base:Int)(bar:Nat):List Int->List Gm->Int->List Gm×Int|[],gs,nx=>(gs,nx)|a::r,gs,nx=>((eH base bar r gs nx).1++[⟨base+a,bar,(eH base bar r gs nx).2⟩],((eH base bar r gs nx).1.length:Int))
def uN(c:Cl)(x:Ce):Prop:=c.head.s=x.s/\(c.head.args.length:Int)=x.n
noncomputable instance(c:Cl)(x:Ce):Decidable (uN c x):=by unfold uN;infer_instance
noncomputable def cB(P:List Cl)(x:Ce):Nat->Nat->Nat|0,k=>k|n+1,k=>match P[k]? with|none=>k|some c=>if uN c x then k else cB P x n (k+1)
noncomputable def fw(P:List Cl)(n:Nat)(g:Gm):Nat->Nat->Mv->RM×Mv|0,_,m=>(.no,m)|j+1,k,m=>match P[k]? with|none=>(.no,m)|some c=>if ¬uN c (cellAt m.h.cells g.at_)then fw P n g j (k+1) m else let L:=fZ m.h (aG c).cells;if L.2.2≠0 then(.off,m.put 4)else let u:=gq L.1 (L.2.1+(aG c).head) g.at_;if u.2.2≠0 then(.off,m.put 4)else if u.2.1=false then fw P n g j (k+1) m else(.next,{m with h:=u.1,choices:=if cB P (cellAt m.h.cells g.at_) (P.length - (k+1)) (k+1)<P.length then⟨n,cB P (cellAt m.h.cells g.at_) (P.length - (k+1)) (k+1),m.h.cells.length,m.h.trail.length⟩::m.choices else m.choices,goals:=(eH L.2.1 m.choices.length (aG c).goals m.goals g.next).1,now:=(eH L.2.1 m.choices.length (aG c).goals m.goals g.next).2})
def bY(m:Mv)(n:Nat):Gm:=(m.goals[n]?).getD default
noncomputable def jJ(P:List Cl):List Cm->Mv->RM×Mv|[],m=>(.off,{m with choices:=[]}.put 2)|c::cs,m=>match fw P c.goal (bY m c.goal) (P.length - c.from_) c.from_ {m with choices:=cs,h:=(oP (oO m.h c.trail).1 c.top).1}with|(.no,m')=>jJ P cs m'|r=>r
noncomputable def mg(g:Gm)(m:Mv):Option Bool×Mv:=let s:=(cellAt m.h.cells g.at_).s.toList;if s=[33]then(some true,{m with choices:=m.choices.drop (m.choices.length - min g.bar m.choices.length)})else if s=[116,114,117,101]then(some true,m)else if s=[102,97,105,108]then(some false,m)else if s=[101,113]then let u:=gq m.h (g.at_+1) (g.at_+2);if u.2.2≠0 then(none,m.put 4)else(some u.2.1,{m with h:=u.1})else let a:=cellAt m.h.cells (look m.h.cells (g.at_+1));let b:=cellAt m.h.cells (look m.h.cells (g.at_+2));if a.kind≠2\/b.kind≠2 then(none,m.put 5)else if s=[108,101,115,115]then(some (decide (a.n<b.n)),m)else if a.n+b.n>1099511627776\/a.n+b.n< -1099511627776 then(none,m.put 5)else let L:=fZ m.h [⟨2,a.n+b.n,.empty⟩];if L.2.2≠0 then(none,m.put 4)else let u:=gq L.1 (g.at_+3) L.2.1;if u.2.2≠0 then(none,{m with h:=L.1}.put 4)else(some u.2.1,{m with h:=u.1})
def wD(x:Ce):Prop:=(Tm.mk 0 0 x.s (List.replicate x.n.toNat xL)).jM
noncomputable def jP(P:List Cl)(m:Mv):RM×Mv:=if m.fuel=0 then(.off,m.put 3)else let m:={m with fuel:=m.fuel - 1};let g:=bY m m.now.toNat;haveI :=Classical.propDecidable (wD (cellAt m.h.cells g.at_));if wD (cellAt m.h.cells g.at_)then match mg g m with|(none,m')=>(.off,m')|(some true,m')=>(.next,{m' with now:=g.next})|(some false,m')=>jJ P m'.choices m' else if cB P (cellAt m.h.cells g.at_) P.length 0=P.length then(.off,m.put 5)else match fw P m.now.toNat g P.length 0 m with|(.no,m')=>jJ P m'.choices m'|r=>r
noncomputable def mU(h:Hp)(query:Int):Nat->Option (List Tm×Int)|0=>some ([],200)|v+1=>match mU h query v with|none=>none|some (l,left)=>if(dF h (query+(v:Nat)) left).2.2≠0 then none else some (l++[(dF h (query+(v:Nat)) left).1],left - (dF h (query+(v:Nat)) left).2.1)
noncomputable def qV(P:List Cl)(q:Nat)(m:Mv):RM×Mv:=match mU m.h m.query q with|none=>(.off,m.put 4)|some (l,_)=>let m:={m with out:=m.out++[⟨1,tidy l⟩]};if m.out.length≥12 then(.off,m.put 6)else jJ P m.choices m
def visitM(gs:List Gm):Nat->Int->List Nat->List Nat|0,_,ay=>ay|k+1,n,ay=>if n<0\/n.toNat∈ay then ay else visitM gs k ((gs[n.toNat]?).getD default).next (ay++[n.toNat])
def iE(m:Mv):List Int:=(m.choices.reverse.map fun c=>(c.goal:Int))++[m.now]
def mV(gs:List Gm)(l:List Int):List Nat:=l.foldl (fun ay n=>visitM gs (gs.length+1) n ay) []
def iV(q:Nat)(m:Mv):List Int:=((List.range q).map fun v=>m.query+(v:Nat))++(mV m.goals (iE m)).map fun i=>(bY m i).at_
noncomputable def wE(q:Nat)(m:Mv):Mv:=let c:=lL m.h (iV q m) (m.choices.reverse.map fun c=>(c.top:Int)) (m.choices.reverse.map fun c=>(c.trail:Int));if c.err≠0 then m else{m with h:=c.heap,query:=if q>0 then(c.roots[0]?).getD 0 else m.query,goals:=m.goals.mapIdx fun i g=>if i∈mV m.goals (iE m)then{g with at_:=(c.roots[q+(mV m.goals (iE m)).idxOf i]?).getD 0}else g,choices:=(m.choices.reverse.mapIdx fun i x=>{x with top:=((c.dP[i]?).getD 0).toNat,trail:=((c.dQ[i]?).getD 0).toNat}).reverse}
noncomputable def runM(P:List Cl)(q:Nat)(fuel every:Int):Nat->Mv->Mv|0,m=>m|n+1,m=>if m.now<0 then match qV P q m with|(.next,m')=>runM P q fuel every n m'|(_,m')=>m' else match jP P (if every>0/\(fuel - m.fuel)%every=0 then wE q m else m)with|(.next,m')=>runM P q fuel every n m'|(_,m')=>m'
noncomputable def wG(Q:List Tm)(vars:Int)(fuel:Nat):Mv:=let b:=bL Q vars;let L:=fZ ⟨[],[]⟩ b.cells;{h:=L.1,goals:=(eH L.2.1 0 b.goals [] (-1)).1,choices:=[],now:=(eH L.2.1 0 b.goals [] (-1)).2,query:=L.2.1,fuel:=fuel,out:=[]}
theorem akH(E:Env):∀(w:Nat)(s r:List Tm),fe E w (s++r)=match fe E w s with|none=>none|some (ts,w1)=>match fe E w1 r with|none=>none|some (rs,w2)=>some (ts++rs,w2):=by intro w;induction w using Nat.strongRecOn with|_ w ih=>intro s r;match w,s,ih with
 |w,[],_=>rw[A7,xn];simp only[xn];cases fe E w r with|none=>rfl|some p=>rfl
 |0,a::s,_=>rw[mE,EX,EX]
 |w+1,a::s,ih=>rw[mE,fe.eq_def E (w+1) (a::(s++r)),fe.eq_def E (w+1) (a::s)];simp only;cases h1:fe E w (aB E a).args with|none=>rfl|some p=>obtain⟨EK,w1⟩:=p;simp only;rw[ih (min w w1) (by omega) s r];cases h2:fe E (min w w1) s with|none=>rfl|some p=>obtain⟨ts2,w2⟩:=p;simp only;cases h3:fe E w2 r with|none=>rfl|some p=>rfl
def akI(l:List Ce)(φ:Int->Int):Option (List Tm×Nat)->Option (List Tm×Nat)->Prop|none,none=>True|some (xs,w1),some (ys,w2)=>w1=w2/\ys=xs.map (Tm.ren φ)/\∀x∈xs,x.Vars (gD l)|_,_=>False
section
variable {l : List Ce} {φ : Int → Int} {E : Env} {N : Int}
theorem akJ(hE:dI N E):∀(w:Nat)(s:List Int)(ts:List Tm),gP l φ E (fun _=>True) s ts->(∀t∈ts,t.In N)->akI l φ (dX l w s) (fe E w ts):=by
 intro w;induction w using Nat.strongRecOn with
  |_ w ih=>
   intro s ts hH hI;match w,s,ts,ih,hH,hI with
    |w,[],[],_,_,_=>rw[yK,A7];exact⟨rfl,rfl,by simp⟩
    |w,[],_::_,_,h,_=>exact h.elim
    |w,_::_,[],_,h,_=>exact h.elim
    |0,a::s,t::ts,_,_,_=>rw[Ie,EX];trivial
    |w+1,a::s,t::ts,ih,⟨ha,hr⟩,hI=>
     have Bj:∀t∈ts,t.In N:=fun x hx=>hI x (by simp[hx]);have hi:=vL hE (hI t (by simp));rw[dX,fe];cases ha with
      |@var _ x _ k1 k2 k3 k4 k5=>
       have hx0:=k1.lW;rw[il k1,ae (by omega),ae (by rw[k2];decide)];have hz:aB E t= .mk 0 (φ x) .empty []:=by rw[<-k5];generalize aB E t=z at hi k4;cases hi with|var=>rfl|atom=>cases k4|int=>cases k4|comp=>cases k4
       rw[hz];simp only[Tm.args,A7,Nat.min_self];have :=ih w (by omega) s ts hr Bj;revert this;cases dX l w s with
        |none=>cases fe E w ts with|none=>intro _;trivial|some p=>intro h;exact h.elim
        |some p=>
         obtain⟨xs,w1⟩:=p;cases fe E w ts with
          |none=>intro h;exact h.elim
          |some q=>
           obtain⟨ys,w2⟩:=q;rintro⟨e1,e2,e3⟩;simp only[k2,if_true];refine⟨e1,by rw[e2];rfl,fun y hy=>?_⟩;rcases iG.1 hy with rfl|hy;·exact .mk _ _ _ _ (fun _=>k1.free k2) (by simp)
           ·exact e3 y hy
      |@leaf _ x _ k1 k2 k3 k4 k5 k6 k7=>
       have hx0:=k1.lW;have hk0:(cellAt l x).kind≠0:=by rw[k2];exact k3
       rw[il k1,ae (by omega),ae (by rw[k2];exact k4),k7];simp only[A7,Nat.min_self];have :=ih w (by omega) s ts hr Bj;revert this;cases dX l w s with
        |none=>cases fe E w ts with|none=>intro _;trivial|some p=>intro h;exact h.elim
        |some p=>
         obtain⟨xs,w1⟩:=p;cases fe E w ts with
          |none=>intro h;exact h.elim
          |some q=>
           obtain⟨ys,w2⟩:=q;rintro⟨e1,e2,e3⟩;simp only[hk0,if_false];refine⟨e1,?_,fun y hy=>?_⟩;·rw[e2,qy,k2,k5,k6];simp only[Tm.ren,Tm.qC,k3,if_false]
           ·rcases iG.1 hy with rfl|hy;·exact .mk _ _ _ _ (fun h=>absurd h hk0) (by simp)
            ·exact e3 y hy
      |@comp _ x _ k1 k2 k3 k4 k5 k6 k7=>
       have hx0:=k1.lW;rw[il k1,ae (by omega),ah k2];have ha:=ih w (by omega) _ _ ((Ja k5).2 k7) (fun y hy=>hi.arg hy);revert ha;cases dX l w (argsAt x (cellAt l x).n)with
        |none=>cases fe E w (aB E t).args with|none=>intro _;trivial|some p=>intro h;exact h.elim
        |some p=>
         obtain⟨xs,w1⟩:=p;cases fe E w (aB E t).args with
          |none=>intro h;exact h.elim
          |some q=>
           obtain⟨ys,w2⟩:=q;rintro⟨rfl,e2,e3⟩;simp only;have :=ih (min w w1) (by omega) s ts hr Bj;revert this;cases dX l (min w w1) s with
            |none=>cases fe E (min w w1) ts with|none=>intro _;trivial|some p=>intro h;exact h.elim
            |some p=>
             obtain⟨xs',w1'⟩:=p;cases fe E (min w w1) ts with
              |none=>intro h;exact h.elim
              |some q=>
               obtain⟨ys',w2'⟩:=q;rintro⟨d1,d2,d3⟩;refine⟨d1,?_,fun y hy=>?_⟩;·rw[d2,qy,k3,k4,k6,e2];simp[Tm.ren,Tm.Hy]
               ·rcases iG.1 hy with rfl|hy;·exact .mk _ _ _ _ (fun h=>absurd h (by decide)) e3
                ·exact d3 y hy
theorem akK(hM:Mon N l φ E){xs ys:List Tm}(h:ys=xs.map (Tm.ren φ))(hv:∀x∈xs,x.Vars (gD l)):tidy ys=tidy xs:=by rw[h];exact ah1 (fun a b ha hb e=>hM.inj ha hb e) xs hv
end
structure jQ (N : Int) (l : List Ce) (φ : Int → Int) (E : Env) (a : Int) (t : Tm) : Prop where
  iU : Inb l a
  cell : cellAt l a = ⟨t.kind, (t.args.length : Int), t.s⟩
  goal : t.jd
  xU : t.In N
  tells : Hr l φ E (fun _ => True) a t
def mh(N:Int)(l:List Ce)(φ:Int->Int)(E:Env)(gs:List Gm):Int->List Gl->Prop|n,[]=>n= -1|n,g::r=>∃k:Nat,n=(k:Int)/\k<gs.length/\((gs[k]?).getD default).bar=g.bar/\jQ N l φ E ((gs[k]?).getD default).at_ g.t/\((gs[k]?).getD default).next<n/\mh N l φ E gs ((gs[k]?).getD default).next r
theorem mh.ge{N:Int}{l:List Ce}{φ:Int->Int}{E:Env}{gs:List Gm}{n:Int}{gl:List Gl}(h:mh N l φ E gs n gl): -1<=n/\n<gs.length:=by cases gl with|nil=>have :n= -1:=h;omega|cons g r=>obtain⟨k,h1,h2,_⟩:=h;omega
theorem mh.imp{N N':Int}{l l':List Ce}{φ φ':Int->Int}{E E':Env}{gs gs':List Gm}(hgs:∀k,k<gs.length->gs'[k]?=gs[k]?)(hlen:gs.length<=gs'.length)(hG:∀a t,jQ N l φ E a t->jQ N' l' φ' E' a t):∀{gl:List Gl}{n:Int},mh N l φ E gs n gl->mh N' l' φ' E' gs' n gl|[],n,h=>h|g::r,n,⟨k,h1,h2,h3,h4,h5,h6⟩=>by refine⟨k,h1,by omega,?_⟩;rw[hgs k h2];exact⟨h3,hG _ _ h4,h5,mh.imp hgs hlen hG h6⟩
def FR(N:Int)(l:List Ce)(E:Env)(q:Nat)(query:Int)(gs:List Gm)(n:Int)(gl:List Gl):Prop:=∃φ,Mon N l φ E/\(∀v:Nat,v<q->Inb l (query+(v:Nat))/\Hr l φ E (fun _=>True) (query+(v:Nat)) (jG (v:Nat)))/\mh N l φ E gs n gl
theorem Mon.mono{N N':Int}{l:List Ce}{φ:Int->Int}{E:Env}(h:Mon N l φ E)(hN:N<=N'):Mon N' l φ E:=⟨h.lt,fun x hx=>by have :=h.bd x hx;omega,h.free⟩
theorem FR.mono{N N':Int}{l:List Ce}{E:Env}{q:Nat}{query:Int}{gs gs':List Gm}{n:Int}{gl:List Gl}(h:FR N l E q query gs n gl)(hN:N<=N')(hgs:∀k,k<gs.length->gs'[k]?=gs[k]?)(hlen:gs.length<=gs'.length):FR N' l E q query gs' n gl:=by obtain⟨φ,h1,h2,h3⟩:=h;exact⟨φ,h1.mono hN,h2,h3.imp hgs hlen fun _ _ h=>⟨h.iU,h.cell,h.goal,h.xU.mono hN,h.tells⟩⟩
structure zA (h : Hp) (E : Env) (N : Int) (q : Nat) (query : Int) (gs : List Gm) (c : Cm) (d : jf) : Prop where
  from_ : c.from_ = d.at_
  top : c.top ≤ h.cells.length
  tr : c.trail ≤ h.trail.length
  SQ : c.trail ≤ d.trail
  xV : d.trail ≤ E.length
  good : (dR h c.top c.trail).Good
  snap : FR N (dR h c.top c.trail).cells (E.take d.trail) q query gs (c.goal : Int) d.g
def jK(h:Hp)(E:Env)(N:Int)(q:Nat)(query:Int)(gs:List Gm):List Cm->List jf->Prop|[],[]=>True|c::cs,d::ds=>zA h E N q query gs c d/\(∀x∈cs,x.top<=c.top/\x.trail<=c.trail)/\jK h E N q query gs cs ds|_,_=>False
section
variable {h h' : Hp} {E E' : Env} {N N' : Int} {q : Nat} {query : Int} {gs gs' : List Gm}
theorem jK.len:∀{cs:List Cm}{ds:List jf},jK h E N q query gs cs ds->cs.length=ds.length|[],[],_=>rfl|c::cs,d::ds,h=>by simp[jK.len h.2.2]|[],_::_,h=>h.elim|_::_,[],h=>h.elim
theorem jK.drop:∀{cs:List Cm}{ds:List jf}(k:Nat),jK h E N q query gs cs ds->jK h E N q query gs (cs.drop k) (ds.drop k)|cs,ds,0,h=>h|[],[],k+1,h=>by simp[jK]|c::cs,d::ds,k+1,h=>jK.drop k h.2.2|[],_::_,_+1,h=>h.elim|_::_,[],_+1,h=>h.elim
theorem jK.mem:∀{cs:List Cm}{ds:List jf},jK h E N q query gs cs ds->∀c∈cs,∃d∈ds,zA h E N q query gs c d
 |[],[],_,c,hc=>by cases hc
 |c::cs,d::ds,h,x,hx=>by
  rcases iG.1 hx with rfl|hx;·exact⟨d,by simp,h.1⟩
  ·obtain⟨e,he,h3⟩:=jK.mem h.2.2 x hx;exact⟨e,by simp[he],h3⟩
 |[],_::_,h,_,_=>h.elim
 |_::_,[],h,_,_=>h.elim
theorem jK.imp:∀{cs:List Cm}{ds:List jf},(∀c d,c∈cs->d∈ds->zA h E N q query gs c d->zA h' E' N' q query gs' c d)->jK h E N q query gs cs ds->jK h' E' N' q query gs' cs ds|[],[],_,_=>trivial|c::cs,d::ds,k,h=>⟨k c d (by simp) (by simp) h.1,h.2.1,jK.imp (fun c d hc hd=>k c d (by simp[hc]) (by simp[hd])) h.2.2⟩|[],_::_,_,h=>h.elim|_::_,[],_,h=>h.elim
theorem zA.move{c:Cm}{d:jf}(k:zA h E N q query gs c d)(ho:dR h' c.top c.trail=dR h c.top c.trail)(h1:c.top<=h'.cells.length)(h2:c.trail<=h'.trail.length)(hE:E'.take d.trail=E.take d.trail)(h3:d.trail<=E'.length)(hN:N<=N')(hgs:∀k,k<gs.length->gs'[k]?=gs[k]?)(hlen:gs.length<=gs'.length):zA h' E' N' q query gs' c d:=⟨k.from_,h1,h2,k.SQ,h3,by rw[ho];exact k.good,by rw[ho,hE];exact k.snap.mono hN hgs hlen⟩
theorem Jy{l:List Ce}{vs:List Int}{i:Nat}:(gK l vs)[i]?=(l[i]?).map fun c=>if(i:Int)∈vs then{c with n:=(i:Int)}else c:=by unfold gK;rw[List.getElem?_mapIdx]
theorem aa5{top tr Nq zC:Nat}(h1:Nq<=top)(h2:zC<=tr):dR (dR h top tr) Nq zC=dR h Nq zC:=by
 unfold dR;simp only[Hp.mk.injEq];refine⟨?_,by rw[XN,Lv h2]⟩;apply agx;intro i;by_cases hi:i<Nq
 ·rw[vz hi,vz hi,Jy,Jy,vz (by omega),Jy];cases h.cells[i]? with
   |none=>rfl
   |some c=>
    simp only[nV,cZ];have hm:(i:Int)∈h.trail.drop zC↔(i:Int)∈(h.trail.take tr).drop zC\/(i:Int)∈h.trail.drop tr:=by
     have e:h.trail.drop zC=(h.trail.take tr).drop zC++h.trail.drop tr:=by
      conv=>lhs;rw[<-G8 tr h.trail]
      rw[List.drop_append];by_cases hl:tr<=h.trail.length;·rw[show zC - (List.take tr h.trail).length=0 by rw[dS];omega];rfl
      ·rw[show h.trail.drop tr=[]from List.drop_eq_nil_of_le (by omega),List.drop_nil]
     rw[e,gy]
    by_cases a1:(i:Int)∈(h.trail.take tr).drop zC;·rw[ah a1,ah (hm.2 (.inl a1))];split<;>rfl
    ·by_cases a2:(i:Int)∈h.trail.drop tr;·rw[ae a1,ah a2,ah (hm.2 (.inr a2))]
     ·rw[ae a1,ae a2,ae (fun k=>(hm.1 k).elim a1 a2)]
 ·rw[Ep (by rw[dS];omega),Ep (by rw[dS];omega)]
theorem SS{F:List Ce}{u:List Ce}{vs:List Int}(hB:nZ (h.cells++F) vs u){top tr:Nat}(h1:top<=h.cells.length)(h2:tr<=h.trail.length):dR ⟨u,h.trail++vs⟩ top tr=dR h top tr:=by
 unfold dR;simp only[Hp.mk.injEq];refine⟨?_,by rw[Xu h2]⟩;apply agx;intro i;by_cases hi:i<top
 ·rw[vz hi,vz hi,Jy,Jy,List.drop_append_of_le_length h2];have hil:i<(h.cells++F).length:=by simp;omega
  have hiu:i<u.length:=by rw[hB.1];exact hil
  have hih:i<h.cells.length:=by omega
  rw[aS hiu,aS hih];simp only[nV,cZ];have hg:(h.cells++F)[i]=h.cells[i]:=Eo hih;rcases hB.2 i hil hiu with⟨k1,k2⟩|⟨k1,k2,k3,n,k4,k5,k6⟩
  ·rw[k2,hg];by_cases a1:(i:Int)∈h.trail.drop tr;·rw[ah (agi _ a1),ah a1]
   ·rw[ae (fun k=>(gy.1 k).elim a1 k1),ae a1]
  ·rw[ah (List.mem_append_right _ k1),k6];rw[hg]at k3 ⊢;have :({h.cells[i]with n:=(i:Int)}:Ce)=h.cells[i]:=by cases hc:h.cells[i];rw[hc]at k3;simp only at k3;rw[k3]
   rw[this];split<;>rfl
 ·rw[Ep (by rw[dS];omega),Ep (by rw[dS];omega)]
theorem aa6(h:Hp):dR h h.cells.length h.trail.length=h:=by unfold dR;rw[List.drop_length,Yn,jW,jW]
end
def lN(fuel:Nat)(out:List Ev):Nat:=300*(fuel+(12 - out.length))
def zD(fuel:Nat)(out:List Ev):Nat:=5*(fuel+(12 - out.length))
structure zF (q : Nat) (m : Mv) (s : Sv) (gl : List Gl) : Prop where
  good : m.h.Good
  fuel : m.fuel = s.fuel
  out : m.out = s.out
  tr : m.h.trail.length ≤ s.env.length
  cur : FR s.vars m.h.cells s.env q m.query m.goals m.now gl
  cu : jK m.h s.env s.vars q m.query m.goals m.choices s.choices
  iN : m.h.cells.length + lN m.fuel m.out ≤ 60000
  lQ : ∀ c ∈ m.choices, c.top + 300 + lN m.fuel m.out ≤ 60000
  kD : m.goals.length + zD m.fuel m.out ≤ 5000
structure qW (P : List Cl) (q : Nat) (m : Mv) (s : Sv) (gl : List Gl) : Prop where
  ok : iR P s
  yV : oG s.vars gl
  mi : zF q m s gl
structure Jz (P : List Cl) (q : Nat) (m : Mv) (s : Sv) (cs : List Cm) (ds : List jf) : Prop where
  ok : iR P { s with choices := ds }
  good : m.h.Good
  fuel : m.fuel = s.fuel
  out : m.out = s.out
  cu : jK m.h s.env s.vars q m.query m.goals cs ds
  lQ : ∀ c ∈ cs, c.top + 300 + lN m.fuel m.out ≤ 60000
  kD : m.goals.length + 5 + zD m.fuel m.out ≤ 5000
def Both(q:Nat):RM×Mv->yT×Sv->Prop|(.next,m),(.next gl,s)=>zF q m s gl|(.no,_),(.no,_)=>True|(.off,m),(.off,s)=>m.out=s.out|_,_=>False
theorem aa7{N:Int}{l:List Ce}{φ:Int->Int}{E:Env}{a:Int}{t:Tm}(h:jQ N l φ E a t)(c:Cl):uN c (cellAt l a)↔um c.head t:=by unfold uN um;rw[h.cell];simp only;exact⟨fun⟨h1,h2⟩=>⟨h1,by omega⟩,fun⟨h1,h2⟩=>⟨h1,by omega⟩⟩
theorem SV{N:Int}{l:List Ce}{φ:Int->Int}{E:Env}{a:Int}{t:Tm}(h:jQ N l φ E a t)(P:List Cl):∀(n k:Nat),cB P (cellAt l a) n k=lY P t n k|0,k=>rfl|n+1,k=>by rw[cB,lY,SV h P n (k+1)];cases P[k]? with|none=>rfl|some c=>simp only[aa7 h]
theorem aa8{N:Int}{E:Env}(h:dI N E)(hN:0<=N):(E.length:Int)<=N:=by obtain⟨n,rfl⟩:=eu hN;have :=QF n (E.map (·.1)) h.nodup (fun x hx=>by obtain⟨p,hp,rfl⟩:=gQ.1 hx;exact h.key p hp);rw[jq]at this;omega
theorem Nr{h:Hp}{F:List Ce}(hg:h.Good)(hF:gB F)(hl:h.cells.length+F.length<=65536):fZ h F=(⟨h.cells++F.map (dh h.cells.length),h.trail⟩,(h.cells.length:Int),0):=by rw[fZ,ae (dL ⟨hg,hF,fun j hj=>by simp at hj,by simp only;omega,by simp⟩),ae (by omega)]
theorem aa9{h:Hp}{a b:Int}(hg:h.Good)(ha:Inb h.cells a)(hb:Inb h.cells b):gq h a b=if(aY 400 [(a,b)] h.cells h.trail).work<0 then(h,false,3)else if(aY 400 [(a,b)] h.cells h.trail).ok=false then(h,false,0)else if 65536<(aY 400 [(a,b)] h.cells h.trail).trail.length then(h,false,3)else(⟨(aY 400 [(a,b)] h.cells h.trail).cells,(aY 400 [(a,b)] h.cells h.trail).trail⟩,true,0):=by rw[gq,ae (dL hg),ae (dL ⟨ha,hb⟩)]
theorem aba{l l':List Ce}{vs:List Int}(hB:nZ l vs l'){a:Int}(ha:Inb l a)(hk:(cellAt l a).kind≠0):cellAt l' a=cellAt l a/\Inb l' a:=by
 obtain⟨k,rfl,hkl,e⟩:=mJ ha;have hkl':k<l'.length:=by rw[hB.1];exact hkl
 rw[e]at hk ⊢;rw[iQ hkl'];rcases hB.2 k hkl hkl' with⟨_,k2⟩|⟨_,k2,_⟩;·exact⟨k2,zN _,by omega⟩
 ·exact absurd k2 hk
theorem abb{l l':List Ce}{t vs:List Int}(hg:Hp.Good ⟨l,t⟩)(h2:nZ l vs l')(h3:∀v∈vs,Inb l v)(htl:(t++vs).length<=65536):Hp.Good ⟨l',t++vs⟩:=by
 refine⟨h2.good hg.1,fun j hj=>?_,by rw[h2.1];exact hg.2.2.1,htl⟩;simp only at hj;by_cases hlt:j<t.length;·obtain⟨v,e1,e2,e3⟩:=hg.2.1 j hlt;refine⟨v,by simp only;rw[Eo hlt];exact e1,by rw[h2.1];exact e2,?_⟩;rw[h2.kind v e2 (by rw[h2.1];exact e2)];exact e3
 ·have hj':j - t.length<vs.length:=by simp only[bA]at hj;omega
  obtain⟨k1,k2⟩:=h3 vs[j - t.length] (bZ _);obtain⟨v,hv⟩:=eu k1;have hvl:v<l.length:=by omega
  refine⟨v,by simp only;rw[Ll (by omega)];exact hv,by rw[h2.1];exact hvl,?_⟩;rcases h2.2 v hvl (by rw[h2.1];exact hvl)with⟨k3,_⟩|⟨_,k4,_,n,_,_,k5⟩;·exact absurd (hv▸bZ _) k3
  ·rw[k5];exact k4
theorem jd.ne{t:Tm}(h:t.jd):t.kind≠0:=by rcases h with h|h<;>rw[h]<;>decide
theorem jQ.kind{N:Int}{l:List Ce}{φ:Int->Int}{E:Env}{a:Int}{t:Tm}(h:jQ N l φ E a t):(cellAt l a).kind≠0:=by rw[h.cell];exact jd.ne h.goal
theorem jQ.move{N N':Int}{l l':List Ce}{φ φ':Int->Int}{E E':Env}{a:Int}{t:Tm}(h:jQ N l φ E a t)(hN:N<=N')(hc:cellAt l' a=cellAt l a)(hi:Inb l' a)(hr:Hr l' φ' E' (fun _=>True) a t):jQ N' l' φ' E' a t:=⟨hi,hc.trans h.cell,h.goal,h.xU.mono hN,hr⟩
theorem SX{N:Int}{l:List Ce}{φ:Int->Int}{E:Env}{base:Int}{bar:Nat}{gs0:List Gm}{nx:Int}{rest:List Gl}(hch:mh N l φ E gs0 nx rest):∀(xs:List Int)(ts:List Tm),xs.length=ts.length->(∀(j:Nat)(hj:j<ts.length),∃a,xs[j]?=some a/\jQ N l φ E (base+a) ts[j])->mh N l φ E (eH base bar xs gs0 nx).1 (eH base bar xs gs0 nx).2 ((ts.map fun t=>(⟨t,bar⟩:Gl))++rest)/\gs0.length<=(eH base bar xs gs0 nx).1.length/\∀k,k<gs0.length->(eH base bar xs gs0 nx).1[k]?=gs0[k]?|[],[],_,_=>⟨hch,zL _,fun _ _=>rfl⟩|a::xs,t::ts,hl,h=>by obtain⟨k1,k2,k3⟩:=SX hch xs ts (by simpa using hl) (fun j hj=>by obtain⟨a',e1,e2⟩:=h (j+1) (by simp;omega);exact⟨a',by simpa using e1,by simpa using e2⟩);rw[eH];generalize eH base bar xs gs0 nx=p at k1 k2 k3 ⊢;obtain⟨a',e1,e2⟩:=h 0 (by simp);simp only[xm,cZ,yx]at e1 e2;subst e1;have hge:=k1.ge;refine⟨⟨p.1.length,rfl,by simp,?_⟩,by simp;omega,fun k hk=>by rw[tV (by omega)];exact k3 k hk⟩;simp only[List.getElem?_concat_length,qw];refine⟨trivial,e2,hge.2,k1.imp (fun k hk=>tV hk) (by simp) fun _ _ h=>h⟩|[],_::_,hl,_=>by simp at hl|_::_,[],hl,_=>by simp at hl
theorem JA{base:Int}{bar:Nat}{gs0:List Gm}{nx:Int}:∀(xs:List Int),(eH base bar xs gs0 nx).1.length=gs0.length+xs.length|[]=>rfl|a::xs=>by rw[eH];simp only[bA,bn,fC,JA xs];omega
theorem abd(t:Tm)(d:Int)(hk:t.kind≠0):(fM t d).kind=t.kind/\(fM t d).args.length=t.args.length/\(fM t d).s=t.s:=by obtain⟨k,n,s,l⟩:=t;simp[fM,Tm.ren,Tm.Hy,Tm.kind,Tm.args,Tm.s]
theorem akL{t:Tm}{d:Int}(h:t.jd):(fM t d).jd:=by unfold Tm.jd at h ⊢;rw[(abd t d (jd.ne h)).1];exact h
structure DC (q : Nat) (m : Mv) (s : Sv) (n : Nat) (g : Gl) (rest : List Gl) : Prop where
  good : m.h.Good
  env : dI s.vars s.env
  v0 : 0 ≤ s.vars
  v1 : s.vars ≤ 40000
  qv : (q : Int) ≤ s.vars
  gt : g.t.In s.vars
  fuel : m.fuel = s.fuel
  out : m.out = s.out
  tr : m.h.trail.length ≤ s.env.length
  cur : FR s.vars m.h.cells s.env q m.query m.goals (n : Int) (g :: rest)
  cu : jK m.h s.env s.vars q m.query m.goals m.choices s.choices
  iN : m.h.cells.length + 300 + lN m.fuel m.out ≤ 60000
  lQ : ∀ c ∈ m.choices, c.top + 300 + lN m.fuel m.out ≤ 60000
  kD : m.goals.length + 5 + zD m.fuel m.out ≤ 5000
theorem SY{P:List Cl}{q:Nat}{m:Mv}{s:Sv}{n:Nat}{g:Gl}{rest:List Gl}(hP:fJ P)(C:DC q m s n g rest):∀(j k:Nat),j=P.length - k->Both q (fw P n (bY m n) j k m) (kN P g rest j k s)
 |0,k,_=>by rw[fw,kN];trivial
 |j+1,k,hj=>by
  have ih:=SY hP C j (k+1) (by omega);have hkl:k<P.length:=by omega
  rw[fw,kN,aS hkl];simp only;obtain⟨φ,hM,hq,kk,e1,hlt,qX,hga,hnx,hch⟩:=C.cur;have e2:kk=n:=by omega
  subst e2;have hgm:bY m kk=(m.goals[kk]?).getD default:=rfl;rw[<-hgm]at qX hga hnx hch;generalize bY m kk=gm at*;have hls:=aa7 hga P[k];by_cases Ns:um (P[k]).head g.t
  ·have hlm:=hls.2 Ns;rw[ae (dL hlm),ae (dL Ns)];have hnext:cB P (cellAt m.h.cells gm.at_) (P.length - (k+1)) (k+1)=lY P g.t (P.length - (k+1)) (k+1):=SV hga P _ _;rw[hnext];have hcg:(P[k]).Good:=hP.2 _ (bZ hkl);generalize P[k]=c at*;obtain⟨head,body,vars⟩:=c;obtain⟨v,rfl⟩:=eu (show 0<=vars from hcg.1.1);obtain⟨F,hF⟩:∃F,F=(aO (aZ (aK v) head) body).1:=⟨_,rfl⟩;obtain⟨b1,b2,b3,b4⟩:=aaR hcg F hF;have hcells:(aG ⟨head,body,(v:Int)⟩).cells=F:=by rw[hF];simp[aG]
   have DD:(aG ⟨head,body,(v:Int)⟩).goals=(aO (aZ (aK v) head) body).2:=by simp[aG]
   have hhd:(aG ⟨head,body,(v:Int)⟩).head=(v:Int):=by simp[aG]
   have hbody:∀t∈body,t.jd/\t.Good (v:Int):=fun t ht=>⟨(hcg.1.2.2.2 t ht).1,(hcg.1.2.2.2 t ht).2.1⟩;have FE:(v:Int)<=8:=hcg.1.2.1;obtain⟨n1,n2⟩:=SE v head (aK v) hcg.2.2.1.1 hcg.2.1 (SF v) (by rw[jI];exact zL _);have n3:=Nj v body (aZ (aK v) head) hbody n1 (by have :=Ni head (aK v);rw[jI]at this;omega);rw[<-hF]at n3;obtain⟨n3,n4⟩:=n3;have hlen:m.h.cells.length+F.length<=65536:=by have :=C.iN;omega
   have hld:=Nr C.good b2 hlen;have hg1:=SB C.good b2 hlen;rw[hcells,DD,hhd,hld];simp only[ne_eq,Lp,if_false];have hM1:=SG hM C.env C.v0 n3;have hE1:dI (s.vars+(v:Int)) s.env:=C.env.mono (by omega);have hφ:∀n:Int,0<=n->n<(v:Int)->jO m.h.cells s.vars φ (n+(m.h.cells.length:Int))=s.vars+n:=fun n h0 h1=>by unfold jO;rw[ae (by omega)];omega
   have tell:∀(t:Tm)(a:Int),t.Good (v:Int)->Laid F id a t->Hr (m.h.cells++F.map (dh m.h.cells.length)) (jO m.h.cells s.vars φ) s.env (fun _=>True) ((m.h.cells.length:Int)+a) (fM t s.vars):=fun t a ht ha=>by have :=aaS (v:=(v:Int)) C.env C.v0 (by have :=C.v1;omega) FE hφ t _ ht (aaJ (H:=m.h.cells) t a ha);rwa[Hg]at this
   have hhead:=tell head (v:Int) hcg.2.2.1.1 b3;have akM:Hr (m.h.cells++F.map (dh m.h.cells.length)) (jO m.h.cells s.vars φ) s.env (fun _=>True) gm.at_ g.t:=Nl C.good.1 hga.iU hga.tells;have FT:Inb (m.h.cells++F.map (dh m.h.cells.length)) ((m.h.cells.length:Int)+(v:Int)):=by obtain⟨x,hx⟩:=hhead.looks;exact hx.start
   have akN:Inb (m.h.cells++F.map (dh m.h.cells.length)) gm.at_:=(Dx hga.iU).2;rw[aa9 hg1 FT akN];have hIs:∀p∈[(fM head s.vars,g.t)],p.1.In (s.vars+(v:Int))/\p.2.In (s.vars+(v:Int)):=by intro p hp;simp only[iF]at hp;subst hp;exact⟨Mm hcg.2.2.1.1 FE C.v0 (by have :=C.v1;omega),C.gt.mono (by omega)⟩
   have U:=aag (N:=s.vars+(v:Int)) 400 [((m.h.cells.length:Int)+(v:Int),gm.at_)] [(fM head s.vars,g.t)] (m.h.cells++F.map (dh m.h.cells.length)) s.env m.h.trail hE1 hM1 ⟨⟨hhead,akM⟩,trivial⟩ hIs;have FU:=EW (N:=s.vars+(v:Int)) 400 [(fM head s.vars,g.t)] s.env hE1 hIs;have FV:=LV 400 [((m.h.cells.length:Int)+(v:Int),gm.at_)] (m.h.cells++F.map (dh m.h.cells.length)) m.h.trail;simp only at FV ⊢;generalize aY 400 [((m.h.cells.length:Int)+(v:Int),gm.at_)] (m.h.cells++F.map (dh m.h.cells.length)) m.h.trail=u at U FV ⊢;generalize fE 400 [(fM head s.vars,g.t)] s.env=u' at U FU ⊢;by_cases hw:u'.work<0;·rw[ah (show u.work<0 by rw[U.work];exact hw),ah hw];simp only[ne_eq,show ¬((3:Int)=0)by decide,not_false_eq_true,if_true];show m.out++_=s.out++_;rw[C.out]
   rw[ae (show ¬u.work<0 by rw[U.work];exact hw),ae hw];by_cases hok:u'.ok=false;·rw[ah (show u.ok=false by rw[U.ok];exact hok),ah hok];simp only[Lp,if_false,if_true];exact ih
   have hok':u.ok=true:=by rw[U.ok];simpa using hok
   rw[ae (show ¬u.ok=false by rw[hok'];decide),ae hok];obtain⟨vs,t1,t2,t3⟩:=U.trail hok';obtain⟨vs',t1',hB, -, -⟩:=FV hok';have hvs:vs'=vs:=List.append_cancel_left (t1'.symm.trans t1);subst hvs;have hel:=aa8 FU.1 (by have :=C.v0;omega);have htl:u.trail.length<=65536:=by rw[t1,bA];have :=C.tr;have :=C.v1;omega
   rw[ae (show ¬65536<u.trail.length by omega)];simp only[ne_eq,Lp,if_false,Bool.true_eq_false];have abe:∀a,Inb (m.h.cells++F.map (dh m.h.cells.length)) a->(cellAt (m.h.cells++F.map (dh m.h.cells.length)) a).kind≠0->cellAt u.cells a=cellAt (m.h.cells++F.map (dh m.h.cells.length)) a/\Inb u.cells a:=fun a ha hk=>aba hB ha hk;have akO:∀a t,jQ s.vars m.h.cells φ s.env a t->jQ (s.vars+(v:Int)) u.cells (jO m.h.cells s.vars φ) u'.env a t:=fun a t h=>by have hl:=Dx (F:=F) h.iU;obtain⟨k1,k2⟩:=abe a hl.2 (by rw[hl.1];exact h.kind);exact h.move (by omega) (k1.trans hl.1) k2 (U.tells hok' a t (h.xU.mono (by omega)) (Nl C.good.1 h.iU h.tells))
   have akP:∀(j:Nat)(hj:j<(body.map fun t=>fM t s.vars).length),∃a,(aO (aZ (aK v) head) body).2[j]?=some a/\jQ (s.vars+(v:Int)) u.cells (jO m.h.cells s.vars φ) u'.env ((m.h.cells.length:Int)+a) (body.map fun t=>fM t s.vars)[j]:=fun j hj=>by
    have hj':j<body.length:=by simpa using hj
    obtain⟨a,e1,e2⟩:=n4 j hj';obtain⟨a',f1,f2⟩:=b4 j hj';rw[e1]at f1;obtain rfl:=XJ f1;have hbj:=hbody _ (bZ hj');have hkne:=jd.ne hbj.1;obtain⟨c1,c2⟩:=wB e2;obtain⟨d1,d2⟩:=Bt (H:=m.h.cells) c2;rw[c1,zw _ (by simpa using hkne),Hg]at d1;rw[Hg]at d2;obtain⟨k1,k2⟩:=abe _ d2 (by rw[d1];simpa using hkne);have hin:=Mm (d:=s.vars) hbj.2 FE C.v0 (by have :=C.v1;omega);obtain⟨p1,p2,p3⟩:=abd body[j] s.vars hkne;refine⟨(a:Int),e1,?_⟩;rw[Ls];exact⟨k2,by rw[k1,d1,p1,p2,p3],akL hbj.1,hin,U.tells hok' _ _ hin (tell _ _ hbj.2 f2)⟩
   have hrest:mh (s.vars+(v:Int)) u.cells (jO m.h.cells s.vars φ) u'.env m.goals gm.next rest:=hch.imp (fun _ _=>rfl) (zL _) akO;have sI:=vY body (aZ (aK v) head);obtain⟨p1,p2,p3⟩:=SX (base:=(m.h.cells.length:Int)) (bar:=m.choices.length) hrest (aO (aZ (aK v) head) body).2 (body.map fun t=>fM t s.vars) (by simpa using sI) akP;rw[Qp]at p1;have S9:u.cells.length=m.h.cells.length+F.length:=by rw[hB.1];simp
   have hold:∀top tr,top<=m.h.cells.length->tr<=m.h.trail.length->dR ⟨u.cells,u.trail⟩ top tr=dR m.h top tr:=fun top tr h1 h2=>by rw[t1];exact SS hB h1 h2
   obtain⟨hE2,F2,hF2, -⟩:=FU;have htake:∀k,k<=s.env.length->u'.env.take k=s.env.take k:=fun k hk=>by rw[hF2,Xu hk]
   have Ta:=C.cu.len;have JD:jK ⟨u.cells,u.trail⟩ u'.env (s.vars+(v:Int)) q m.query (eH (m.h.cells.length:Int) m.choices.length (aO (aZ (aK v) head) body).2 m.goals gm.next).1 m.choices s.choices:=C.cu.imp fun c d hc hd k=>k.move (hold _ _ k.top k.tr) (by simp only;have :=k.top;omega) (by simp only[t1,bA];have :=k.tr;omega) (htake _ k.xV) (by rw[hF2,bA];have :=k.xV;omega) (by omega) p3 p2;have hnew:Both q (.next,{m with h:=⟨u.cells,u.trail⟩,choices:=if lY P g.t (P.length - (k+1)) (k+1)<P.length then⟨kk,lY P g.t (P.length - (k+1)) (k+1),m.h.cells.length,m.h.trail.length⟩::m.choices else m.choices,goals:=(eH (m.h.cells.length:Int) m.choices.length (aO (aZ (aK v) head) body).2 m.goals gm.next).1,now:=(eH (m.h.cells.length:Int) m.choices.length (aO (aZ (aK v) head) body).2 m.goals gm.next).2}) (.next (Mi s.choices.length s.vars body rest),{s with env:=u'.env,choices:=if lY P g.t (P.length - (k+1)) (k+1)<P.length then⟨g::rest,lY P g.t (P.length - (k+1)) (k+1),s.env.length⟩::s.choices else s.choices,vars:=s.vars+(v:Int)}):=by
    refine⟨?_,C.fuel,C.out,?_,?_,?_,?_,?_,by have :=C.kD;have h5:body.length<=5:=hcg.1.2.2.1;simp only[JA,sI];omega⟩;·simp only;rw[t1]at htl ⊢;exact abb hg1 hB (fun x hx=>(t3 x hx).1) htl
    ·simp only[t1,bA];have :=C.tr;omega
    ·refine⟨jO m.h.cells s.vars φ,U.Jb hok',fun w hw=>?_,?_⟩
     ·obtain⟨q1,q2⟩:=hq w hw;refine⟨?_,?_⟩;·unfold Inb at q1 ⊢;simp only;omega
      ·exact U.tells hok' _ _ (.var _ (by omega) (by have :=C.qv;omega)) (Nl C.good.1 q1 q2)
     ·unfold Mi;rw[<-Ta];exact p1
    ·by_cases hmore:lY P g.t (P.length - (k+1)) (k+1)<P.length
     ·simp only[ah hmore];refine⟨⟨rfl,by simp only;omega,by simp only[t1,bA];omega,C.tr,by rw[hF2,bA];simp only;omega,?_,?_⟩,fun x hx=>?_,JD⟩;·simp only;rw[hold _ _ (zL _) (zL _),aa6];exact C.good
      ·simp only;rw[hold _ _ (zL _) (zL _),aa6,htake _ (zL _),jW];exact C.cur.mono (by omega) p3 p2
      ·obtain⟨d,_,hd⟩:=C.cu.mem x hx;exact⟨hd.top,hd.tr⟩
     ·simp only[ae hmore];exact JD
    ·simp only;have :=C.iN;omega
    ·intro x hx;simp only at hx ⊢;split at hx
     ·rcases iG.1 hx with rfl|hx;·exact C.iN
      ·exact C.lQ x hx
     ·exact C.lQ x hx
   exact hnew
  ·rw[ah (fun h=>Ns (hls.1 h)),ah Ns];exact ih
theorem akQ(E:Env):∀(w:Nat)(s ts:List Tm)(w':Nat),fe E w s=some (ts,w')->Tm.aH ts+w'=w:=by
 intro w;induction w using Nat.strongRecOn with
  |_ w ih=>
   intro s ts w' h;match w,s,ih,h with
    |w,[],_,h=>rw[A7]at h;simp at h;obtain⟨rfl,rfl⟩:=h;simp[Tm.aH]
    |0,_::_,_,h=>rw[EX]at h;cases h
    |w+1,a::r,ih,h=>
     rw[fe]at h;try simp only at h
     split at h;·simp at h
     ·rename_i _ EK w1 h1;have k0:=Q6 E w _ _ _ h1;have k1:=ih w (by omega) _ _ _ h1;rw[Eu k0.1]at h;split at h;·simp at h
      ·rename_i _ rs w2 h2;have k2:=ih w1 (by omega) _ _ _ h2;simp only[cZ,fG]at h;obtain⟨rfl,rfl⟩:=h;simp only[Tm.aH,Tm.nodes];omega
theorem akR{N:Int}{E:Env}(hE:dI N E):∀(w:Nat)(s ts:List Tm)(w':Nat),(∀t∈s,t.In N)->fe E w s=some (ts,w')->∀t∈ts,t.In N:=by
 intro w;induction w using Nat.strongRecOn with
  |_ w ih=>
   intro s ts w' hs h;match w,s,ih,h,hs with
    |w,[],_,h,_=>rw[A7]at h;simp at h;obtain⟨rfl,rfl⟩:=h;simp
    |0,_::_,_,h,_=>rw[EX]at h;cases h
    |w+1,a::r,ih,h,hs=>
     have hx:=vL hE (hs a (by simp));rw[fe]at h;try simp only at h
     generalize aB E a=x at*;split at h;·simp at h
     ·rename_i _ EK w1 h1;have k0:=Q6 E w _ _ _ h1;have k1:=ih w (by omega) _ _ _ (fun t ht=>hx.arg ht) h1;rw[Eu k0.1]at h;split at h;·simp at h
      ·rename_i _ rs w2 h2;have k2:=ih w1 (by omega) _ _ _ (fun t ht=>hs t (by simp[ht])) h2;simp only[cZ,fG]at h;obtain⟨rfl,rfl⟩:=h;intro t ht;rcases iG.1 ht with rfl|ht;·have k3:=k0.2;cases hx with|var n h0 h1'=>simp only[Tm.args,fC,G6]at k3;subst k3;exact .var n h0 h1'|atom s h9=>simp only[Tm.args,fC,G6]at k3;subst k3;exact .atom s h9|int n h0 h1'=>simp only[Tm.args,fC,G6]at k3;subst k3;exact .int n h0 h1'|comp s l a1 a2 a3 a4 a5=>simp only[Tm.args]at k3;exact .comp s EK a1 a2 (by omega) (by omega) k1
       ·exact k2 t ht
namespace Tm
theorem akS{σ:Type}(f:σ->Int->Int×σ):∀(t:Tm)(st:σ),(bB f st t).1.nodes=t.nodes:=by
 intro t;induction t using induct with
  |h k n s l ih=>
   intro st;have hL:∀(r:List Tm),(∀t∈r,t∈l)->∀st:σ,aH (aV f st r).1=aH r:=by intro r;induction r with|nil=>intro _ st;rfl|cons x r ihr=>intro hm st;simp only[aV,aH,ih x (hm x (by simp)),ihr (fun t ht=>hm t (by simp[ht]))]
   simp only[bB,nodes,hL l (fun _ h=>h)]
theorem abf{σ:Type}(f:σ->Int->Int×σ):∀(l:List Tm)(st:σ),aH (aV f st l).1=aH l|[],st=>rfl|x::r,st=>by simp only[aV,aH,akS,abf f r]
theorem akT(st:List Int)(n:Int):st.length<=(aJ st n).2.length/\0<=(aJ st n).1/\(aJ st n).1<(aJ st n).2.length:=by
 unfold aJ;split;·rename_i h;have :=arL h;exact⟨zL _,by simp only;omega,by simp only;omega⟩
 ·simp;omega
theorem akU{N:Int}:∀(t:Tm)(st:List Int),t.Good N->st.length<=(bB aJ st t).2.length/\(bB aJ st t).2.length<=st.length+t.nodes/\∀M:Int,((bB aJ st t).2.length:Int)<=M->(bB aJ st t).1.Good M:=by
 intro t;induction t using induct with
  |h k n s l ih=>
   intro st hg;have hL:∀(r:List Tm),(∀t∈r,t∈l)->∀st:List Int,(∀t∈r,t.Good N)->st.length<=(aV aJ st r).2.length/\(aV aJ st r).2.length<=st.length+aH r/\∀M:Int,((aV aJ st r).2.length:Int)<=M->∀t∈(aV aJ st r).1,t.Good M:=by
    intro r;induction r with
     |nil=>intro _ st _;simp[aV,aH]
     |cons x r ihr=>
      intro hm st hg;obtain⟨a1,a2,a3⟩:=ih x (hm x (by simp)) st (hg x (by simp));obtain⟨b1,b2,b3⟩:=ihr (fun t ht=>hm t (by simp[ht])) (bB aJ st x).2 (fun t ht=>hg t (by simp[ht]));refine⟨by simp only[aV];omega,by simp only[aV,aH];omega,fun M hM t ht=>?_⟩;simp only[aV]at hM ht;rcases iG.1 ht with rfl|ht;·exact a3 M (by omega)
      ·exact b3 M hM t ht
   cases hg with
    |var n h0 h1=>have :=akT st n;simp only[bB,num,if_true,aV,nodes,aH];refine⟨this.1,?_,fun M hM=> .var _ this.2.1 (by omega)⟩;unfold aJ;split<;>simp
    |atom s h=>simp only[bB,num,aV,nodes,aH];exact⟨by simp,by simp,fun M hM=> .atom s h⟩
    |int n h0 h1=>simp only[bB,num,aV,nodes,aH];exact⟨by simp,by simp,fun M hM=> .int n h0 h1⟩
    |comp s l a1 a2 a3 a4 a5=>
     obtain⟨b1,b2,b3⟩:=hL l (fun _ h=>h) st a5;have e3:num aJ st 3 0=((0:Int),st):=rfl;simp only[bB,e3,nodes];refine⟨b1,by omega,fun M hM=> .comp s _ a1 a2 ?_ ?_ (b3 M hM)⟩;·rw[yH];exact a3
     ·rw[yH];exact a4
theorem abg{N:Int}:∀(r:List Tm)(st:List Int),(∀t∈r,t.Good N)->st.length<=(aV aJ st r).2.length/\(aV aJ st r).2.length<=st.length+aH r/\∀M:Int,((aV aJ st r).2.length:Int)<=M->∀t∈(aV aJ st r).1,t.Good M
 |[],st,_=>by simp[aV,aH]
 |x::r,st,hg=>by
  obtain⟨a1,a2,a3⟩:=akU x st (hg x (by simp));obtain⟨b1,b2,b3⟩:=abg r (bB aJ st x).2 (fun t ht=>hg t (by simp[ht]));refine⟨by simp only[aV];omega,by simp only[aV,aH];omega,fun M hM t ht=>?_⟩;simp only[aV]at hM ht;rcases iG.1 ht with rfl|ht;·exact a3 M (by omega)
  ·exact b3 M hM t ht
end Tm
def Nt(q:Nat)(l:List Tm):Prop:=l.length=q/\(∀t∈l,t.Good 200)/\Tm.aH l<=200
theorem akV{N:Int}{q:Nat}{s s':Sv}{b:Bool}(hE:dI N s.env)(hq:(q:Int)<=N)(e:nD q s=(b,s')):(b=false/\s'.out=s.out++[⟨4,[]⟩])\/(∃l,Nt q l/\((b=true/\s'.out=s.out++[⟨1,l⟩]/\s.out.length<11/\s'.env=s.env/\s'.choices=s.choices/\s'.vars=s.vars/\s'.fuel=s.fuel)\/(b=false/\11<=s.out.length/\s'.out=s.out++[⟨1,l⟩]++[⟨6,[]⟩]))):=by
 unfold nD at e;split at e;·simp only[fG]at e;obtain⟨rfl,rfl⟩:=e;exact .inl ⟨rfl,rfl⟩
 ·rename_i l w' h;have h1:=Q6 _ _ _ _ _ h;have h2:=akQ _ _ _ _ _ h;have h3:=akR hE _ _ _ _ (by intro t ht;simp only[gQ,kK]at ht;obtain⟨i,hi,rfl⟩:=ht;exact .var _ (by omega) (by omega)) h;obtain⟨k1,k2,k3⟩:=Tm.abg l [] h3;have hA:Nt q (tidy l):=by
   refine⟨?_,k3 200 (by simp only[fC]at k2;omega),?_⟩;·unfold tidy;rw[Tm.yH,h1.2];simp
   ·unfold tidy;rw[Tm.abf];omega
  refine .inr ⟨_,hA,?_⟩;simp only[bA,dW]at e;split at e;·simp only[fG]at e;obtain⟨rfl,rfl⟩:=e;exact .inr ⟨rfl,by omega,rfl⟩
  ·simp only[fG]at e;obtain⟨rfl,rfl⟩:=e;exact .inl ⟨rfl,rfl,by omega,rfl,rfl,rfl,rfl⟩
section
variable {P : List Cl}
theorem Tc{g:Gl}{rest:List Gl}:∀(n k:Nat)(s s':Sv),kN P g rest n k s=(.off,s')->s'.out=s.out++[⟨4,[]⟩]
 |0,k,s,s',h=>by simp[kN]at h
 |n+1,k,s,s',h=>by
  rw[kN]at h;have ih:=Tc (g:=g) (rest:=rest) n (k+1) s s';split at h;·simp at h
  ·split at h;·exact ih h
   ·simp only at h;split at h;·simp only[fG,fH]at h;subst h;rfl
    ·split at h;·exact ih h
     ·simp at h
theorem JE:∀(cs:List jf)(s s':Sv)(r:yT),(∀c∈cs,c.g≠[])->jN P cs s=(r,s')->(∀gl,r≠ .next gl)->r= .off/\∃k,s'.out=s.out++[⟨k,[]⟩]/\2<=k/\k<=5
 |[],s,s',r,hg,h,hr=>by simp only[jN,fG]at h;obtain⟨rfl,rfl⟩:=h;exact⟨rfl,2,rfl,by omega,by omega⟩
 |c::cs,s,s',r,hg,h,hr=>by
  rw[jN]at h;split at h;·exact absurd (by assumption) (hg c (by simp))
  ·split at h;·rename_i s2 he;have :=CO _ _ _ _ he;subst this;obtain⟨h1,k,h2,h3,h4⟩:=JE cs _ s' r (fun c hc=>hg c (by simp[hc])) h hr;exact⟨h1,k,h2,h3,h4⟩
   ·rename_i hne;cases r with|next gl=>exact absurd rfl (hr gl)|no=>exact absurd h (hne _)|off=>have h9:=Tc _ _ _ _ h;exact⟨rfl,4,h9,by omega,by omega⟩
theorem akW{g:Gl}{s s':Sv}(h:rU g s=(none,s')):∃k,s'.out=s.out++[⟨k,[]⟩]/\2<=k/\k<=5:=by
 unfold rU at h;split at h;·simp at h
 split at h;·simp at h
 split at h;·simp at h
 split at h
 ·simp only at h;split at h;·simp only[fG,fH]at h;subst h;exact⟨4,rfl,by omega,by omega⟩
  ·simp at h
 ·simp only at h;split at h;·simp only[fG,fH]at h;subst h;exact⟨5,rfl,by omega,by omega⟩
  split at h;·simp at h
  split at h;·simp only[fG,fH]at h;subst h;exact⟨5,rfl,by omega,by omega⟩
  ·simp at h
theorem akX{g:Gl}{rest:List Gl}{s s':Sv}{r:yT}(h:iR P s)(hg:oG s.vars (g::rest))(e:qI P g rest s=(r,s'))(hr:∀gl,r≠ .next gl):∃k,s'.out=s.out++[⟨k,[]⟩]/\2<=k/\k<=5:=by
 unfold qI at e;split at e;·simp only[fG]at e;rw[<-e.2];exact⟨3,rfl,by omega,by omega⟩
 ·rename_i hf;have hp:=Mq s.fuel s.choices hf;obtain⟨h1,h2,h3,h4,h5,h6,h7,h8⟩:=h;rw[hp]at h6 h7;have hs1:iR P {s with fuel:=s.fuel - 1}:=⟨h1,h2,h3,h4,h5,by simp only;omega,by simp only;omega,by simp only;omega⟩;simp only at e;split at e
  ·rename_i hk;split at e;·rename_i s2 he;simp only[fG]at e;rw[<-e.2];have h9:=akW he;exact h9
   ·simp only[fG]at e;exact absurd e.1.symm (hr _)
   ·rename_i s2 he;obtain⟨a1,a2,a3,a4⟩:=IC hs1 (hg g (by simp)).1 hk (by simp only;omega) he (by simp);obtain⟨-,k,h1,h2⟩:=JE s2.choices s2 s' r (fun c hc=>(a1.cu c hc).ne) e hr;exact⟨k,by rw[h1,a3],h2⟩
  ·split at e;·simp only[fG]at e;rw[<-e.2];exact⟨5,rfl,by omega,by omega⟩
   ·split at e;·rename_i s2 he;have :=CO _ _ _ _ he;subst this;obtain⟨-,k,h1,h2⟩:=JE _ _ s' r (fun c hc=>(h4 c hc).ne) e hr;exact⟨k,h1,h2⟩
    ·rename_i hne;cases r with|next gl=>exact absurd rfl (hr gl)|no=>exact absurd e (hne _)|off=>have h9:=Tc _ _ _ _ e;exact⟨4,h9,by omega,by omega⟩
def Ends(q d:Nat)(more:List Ev):Prop:=∃(ans:List (List Tm))(k:Int),more=ans.map (fun l=>(⟨1,l⟩:Ev))++[⟨k,[]⟩]/\2<=k/\k<=6/\d+ans.length<=12/\(k=6↔d+ans.length=12)/\∀l∈ans,Nt q l
theorem Ends.one{q d:Nat}{k:Int}(hk:2<=k/\k<=5)(hd:d<=11):Ends q d [⟨k,[]⟩]:=⟨[],k,rfl,by omega,by omega,by simp;omega,by simp;omega,by simp⟩
theorem Ends.cons{q d:Nat}{l:List Tm}{more:List Ev}(hl:Nt q l)(h:Ends q (d+1) more):Ends q d (⟨1,l⟩::more):=by
 obtain⟨ans,k,rfl,h1,h2,h3,h4,h5⟩:=h;refine⟨l::ans,k,by simp,h1,h2,by simp;omega,by rw[h4,bn];omega,fun x hx=>?_⟩;rcases iG.1 hx with rfl|hx;·exact hl
 ·exact h5 x hx
theorem Te(q:Nat):∀(n:Nat)(gl:List Gl)(s:Sv),iR P s->oG s.vars gl->(q:Int)<=s.vars->s.out.length<=11->s.fuel+13<=n+s.out.length->∃more,(qJ P q n gl s).out=s.out++more/\Ends q s.out.length more
 |0,gl,s,h,hg,hq,ho,hn=>by omega
 |n+1,[],s,h,hg,hq,ho,hn=>by
  rw[qJ];cases e:nD q s with
   |mk b s'=>
    rcases akV h.env hq e with⟨rfl,h1⟩|⟨l,hl,⟨rfl,h1,h2,h3,h4,h5,h6⟩|⟨rfl,h1,h2⟩⟩;·exact⟨_,h1,Ends.one (by omega) ho⟩
    ·have hs':iR P s':=by obtain⟨a1,a2,a3,a4,a5,a6,a7,a8⟩:=h;exact⟨a1,by rw[h5];exact a2,by rw[h5,h3];exact a3,by rw[h4,h5,h3];exact a4,by rw[h4];exact a5,by rw[h5,h6,h4];exact a6,by rw[h3,h6,h4];exact a7,by rw[h4,h6];exact a8⟩
     have hne:∀c∈s'.choices,c.g≠[]:=fun c hc=>(hs'.cu c hc).ne;simp only;cases e2:jN P s'.choices s' with
      |mk r s2=>
       cases r with
        |next gl=>
         obtain⟨b1,b2,b3,b4,hv⟩:=EZ s'.choices s' s2 gl hs' e2;have hlen:s2.out.length=s.out.length+1:=by rw[b4,h1];simp
         obtain⟨more,k1,k2⟩:=Te q n gl s2 b1 b2 (by omega) (by omega) (by omega);refine⟨⟨1,l⟩::more,?_,Ends.cons hl (by rw[<-hlen];exact k2)⟩;simp only;rw[k1,b4,h1];simp
        |no=>have :=JE s'.choices s' s2 .no hne e2 (by simp);simp at this
        |off=>obtain⟨-,k,h7,h8⟩:=JE s'.choices s' s2 .off hne e2 (by simp);refine⟨[⟨1,l⟩,⟨k,[]⟩],?_,Ends.cons hl (Ends.one h8 (by omega))⟩;simp only;rw[h7,h1];simp
    ·refine⟨[⟨1,l⟩,⟨6,[]⟩],by rw[h2];simp,[l],6,rfl,by omega,by omega,by simp;omega,by simp;omega,by simpa using hl⟩
 |n+1,g::rest,s,h,hg,hq,ho,hn=>by
  rw[qJ];cases e:qI P g rest s with
   |mk r s'=>
    have hoff:(∀gl,r≠ .next gl)->∃more,s'.out=s.out++more/\Ends q s.out.length more:=fun hr=>by obtain⟨k,h1,h2⟩:=akX h hg e hr;exact⟨_,h1,Ends.one h2 ho⟩
    cases r with|next gl=>obtain⟨b1,b2,b3,b4,hv⟩:=Re h hg e;obtain⟨more,k1,k2⟩:=Te q n gl s' b1 b2 (by omega) (by rw[b4];exact ho) (by rw[b4];omega);rw[b4]at k1 k2;exact⟨more,k1,k2⟩|no=>exact hoff (by simp)|off=>exact hoff (by simp)
end
section
variable {P : List Cl}
def Sv.more(s:Sv)(m:Nat):Sv:={s with fuel:=s.fuel+m}
end
theorem abh{P:List Cl}{Q:List Tm}{vars:Int}{f:Nat}(hP:fJ P)(hQ:iw Q vars)(hf:f<=150):iR P ⟨[],[],vars,f,[]⟩/\oG vars (Q.map fun t=>⟨t,0⟩):=by
 obtain⟨h0,h8,h5,hl⟩:=hQ;refine⟨⟨hP,h0,dI.nil _,by simp,by simp,?_,?_,?_⟩,?_⟩;·simp only[iN,Aw,List.sum_nil];omega
 ·simp only[iN,Aw,List.sum_nil,fC];omega
 ·simpa using hf
 ·intro g hg;obtain⟨t,ht,rfl⟩:=gQ.1 hg;exact⟨(hl t ht).2.1,by simp⟩
theorem Tf(P:List Cl)(Q:List Tm)(vars fuel:Int):(¬(fJ P/\iw Q vars)/\uq P Q vars fuel=([],1))\/((fJ P/\iw Q vars)/\(fuel<0\/fuel>150)/\uq P Q vars fuel=([],2))\/((fJ P/\iw Q vars)/\0<=fuel/\fuel<=150/\uq P Q vars fuel=((qJ P vars.toNat (fuel.toNat+14) (Q.map fun t=>⟨t,0⟩) ⟨[],[],vars,fuel.toNat,[]⟩).out,0)):=by
 unfold uq;by_cases h:fJ P/\iw Q vars
 ·rw[ae (by simpa using h)];by_cases h2:fuel<0\/fuel>150;·rw[ah h2];exact .inr (.inl ⟨h,h2,rfl⟩)
  ·rw[ae h2];exact .inr (.inr ⟨h,by omega,by omega,rfl⟩)
 ·rw[ah h];exact .inl ⟨h,rfl⟩
theorem abj{P:List Cl}{Q:List Tm}{vars fuel:Int}(h:(uq P Q vars fuel).2=0):Ends vars.toNat 0 (uq P Q vars fuel).1:=by
 rcases Tf P Q vars fuel with⟨_,e⟩|⟨_,_,e⟩|⟨⟨hP,hQ⟩,h0,h1,e⟩;·rw[e]at h;simp at h
 ·rw[e]at h;simp at h
 ·rw[e];obtain⟨a1,a2⟩:=abh (f:=fuel.toNat) hP hQ (by omega);obtain⟨more,k1,k2⟩:=Te vars.toNat (fuel.toNat+14) _ _ a1 a2 (by have :=a1.Ml;simp only at this ⊢;omega) (by simp) (by simp);simp only;rw[k1];simpa using k2
structure Td where
  t : Tm
  call : Nat
structure Pv where
  fuel : Nat
  vars : Int
  out : List Ev
  ended : Bool
  calls : Nat
def Pv.put(p:Pv)(kind:Int):Pv:={p with out:=p.out++[⟨kind,[]⟩],ended:=true}
structure Fr where
  call : Nat
  g : Td
  rest : List Td
  gg : Gl
  abk : List Gl
  env : Env
  next : Nat
  lev : Nat
def Tg(P:List Cl)(fr:List Fr):List jf:=fr.filterMap fun f=>if f.next<P.length then some ⟨f.gg::f.abk,f.next,f.env.length⟩else none
def below(c:Nat)(fr:List Fr):List Fr:=fr.dropWhile fun f=>decide (c<=f.call)
def Ti(P:List Cl)(fr:List Fr):List Td->List Gl->Prop|[],[]=>True|a::td,b::gl=>(a.t=b.t/\b.bar=(Tg P (below a.call fr)).length)/\Ti P fr td gl|_,_=>False
def abm(td:List Td):Prop:=td.Pairwise fun a b=>b.call<=a.call
def abn(P:List Cl):List Fr->Prop|[]=>True|f::fr=>abn P fr/\Ti P fr (f.g::f.rest) (f.gg::f.abk)/\(∀x∈fr,x.call<f.call)/\(∀a∈f.g::f.rest,a.call<f.call)/\abm (f.g::f.rest)/\(∀x∈fr,x.env <+: f.env)
section
variable {P : List Cl} {q : Nat}
end
section
variable {P : List Cl} {q : Nat}
structure Lnk (P : List Cl) (q : Nat) (s : Sv) (p : Pv) (fr : List Fr) : Prop where
  ok : iR P { s with choices := Tg P fr }
  q : (q : Int) ≤ s.vars
  frs : abn P fr
  fuel : p.fuel = s.fuel
  vars : s.vars = p.vars
  out : s.out = p.out
  ended : p.ended = false
  pre : ∀ x ∈ fr, x.env <+: s.env
  lev : ∀ x ∈ fr, s.fuel < x.lev
  calls : ∀ x ∈ fr, x.call ≤ p.calls
structure asn (P : List Cl) (q : Nat) (s : Sv) (p : Pv) (fr : List Fr) (td : List Td) (gl : List Gl) : Prop extends Lnk P q s p fr where
  chs : s.choices = Tg P fr
  yV : oG s.vars gl
  rel : Ti P fr td gl
  desc : abm td
  aso : ∀ a ∈ td, a.call ≤ p.calls
theorem iR.pop{s:Sv}{c:jf}{cs:List jf}(h:iR P {s with choices:=c::cs}):iR P {s with choices:=cs,env:=s.env.take c.trail}:=by
 have hc:=h.cu c (by simp);obtain⟨h1,h2,h3,h4,h5,h6,h7,h8⟩:=h;simp only at h1 h2 h3 h4 h5 h6 h7 h8;rw[CP]at h6 h7;have hT:=Qg.1 h5;have htr:=hc.trail;simp only at htr;have hEl:(s.env.take c.trail).length=c.trail:=by rw[dS];omega
 refine⟨h1,h2,h3.take _,fun x hx=>?_,hT.2,by simp only;omega,by simp only[hEl];omega,by simp only[bn]at h8 ⊢;omega⟩;have k:=h4 x (by simp[hx]);exact⟨k.ne,k.yV,k.one,k.lt,by simp only[hEl];exact hT.1 x hx⟩
end
theorem akY{h:Hp}(hg:h.Good)(tr:Nat):Hp.Good ⟨gK h.cells (h.trail.drop tr),h.trail.take tr⟩:=by
 obtain⟨g1,g2,g3,g4⟩:=hg;refine⟨fun i hi=>?_,fun j hj=>?_,by rw[rP];exact g3,by simp only[dS];omega⟩
 ·have hi':i<h.cells.length:=by rw[rP]at hi;exact hi
  have e:Ce.fo (gK h.cells (h.trail.drop tr)).length=Ce.fo h.cells.length:=by rw[rP]
  show Ce.fo (gK h.cells (h.trail.drop tr)).length i _;rw[e,Ic];have h1:=g1 i hi';split
  ·rename_i hm;obtain⟨j,hj,e⟩:=tX.1 (G9 hm);obtain⟨v,e2,hv,hk⟩:=g2 j hj;have hvi:(v:Int)=i:=e2.symm.trans e;have :v=i:=by omega
   subst this;left;rcases h1 with⟨a1,a2,a3,a4⟩|⟨a1,_⟩|⟨a1,_⟩|⟨a1,_⟩;·exact⟨a1,by simp only;omega,by simp only;omega,a4⟩
   all_goals(rw[hk]at a1;simp at a1)
  ·exact h1
 ·simp only[dS]at hj;obtain⟨v,e,hv,hk⟩:=g2 j (by omega);refine⟨v,by simp only[List.getElem_take];exact e,by rw[rP];exact hv,?_⟩;simp only;rw[Ic];split<;>exact hk
theorem abp{h:Hp}(hg:h.Good){top tr:Nat}(htop:top<=h.cells.length)(htr:tr<=h.trail.length)(ho:(dR h top tr).Good):(oP (oO h (tr:Int)).1 (top:Int)).1=dR h top tr:=by
 have hu:=akY hg tr;have e1:(oO h (tr:Int)).1=⟨gK h.cells (h.trail.drop tr),h.trail.take tr⟩:=by rw[oO,ae (dL hg),ae (dL ⟨zN _,by omega⟩),dB]
 rw[e1,oP,ae (dL hu),ae (dL ⟨zN _,by simp only[rP];omega⟩),ae (dL ?_)];·simp only[dB];rfl
 ·simp only[dB];exact ho
theorem FW{P:List Cl}{n:Nat}{g:Gm}:∀(j k:Nat)(m m':Mv),fw P n g j k m=(.no,m')->m'=m
 |0,k,m,m',h=>by simp[fw]at h;exact h.symm
 |j+1,k,m,m',h=>by
  rw[fw]at h;have ih:=FW (P:=P) (n:=n) (g:=g) j (k+1) m m';split at h;·simpa using h.symm
  ·split at h;·exact ih h
   ·simp only at h;split at h;·simp at h
    ·split at h;·simp at h
     ·split at h;·exact ih h
      ·simp at h
theorem Nu{P:List Cl}{q:Nat}(hP:fJ P):∀(cs:List Cm)(ds:List jf)(m:Mv)(s:Sv),Jz P q m s cs ds->(q:Int)<=s.vars->Both q (jJ P cs m) (jN P ds s)
 |[],[],m,s,B,_=>by rw[jJ,jN];show m.out++_=s.out++_;rw[B.out]
 |[],_::_,m,s,B,_=>B.cu.elim
 |_::_,[],m,s,B,_=>B.cu.elim
 |c::cs,d::ds,m,s,B,fT=>by
  obtain⟨k,hle,hrest⟩:=B.cu;have hdo:=B.ok.cu d (by simp);have DF:=B.ok.pop;have hpw:=(Qg.1 B.ok.Ze).1;have hv1:=B.ok.Q9;simp only at hdo DF hpw hv1;rw[jJ,jN,abp B.good k.top k.tr k.good];cases hg:d.g with
   |nil=>exact absurd hg hdo.ne
   |cons g rest=>
    simp only;have hlen:=zo (h:=m.h) c.top c.trail k.top;have JD:jK (dR m.h c.top c.trail) (s.env.take d.trail) s.vars q m.query m.goals cs ds:=hrest.imp fun x y hx hy r=>by
     obtain⟨h1,h2⟩:=hle x hx;refine r.move (aa5 h1 h2) (by rw[hlen];exact h1) ?_ ?_ ?_ (qA _) (fun _ _=>rfl) (zL _);·show x.trail<=(m.h.trail.take c.trail).length;rw[dS];have :=k.tr;omega
     ·rw[XN,Lv (hpw y hy)]
     ·rw[dS];have :=hpw y hy;have :=r.xV;omega
    have JF:=k.snap;rw[hg]at JF;have C:DC q {m with choices:=cs,h:=dR m.h c.top c.trail} {s with choices:=ds,env:=s.env.take d.trail} c.goal g rest:={good:=k.good,env:=DF.env,v0:=DF.Ml,v1:=by simp only;omega,qv:=fT,gt:=(hdo.yV g (by rw[hg];simp)).1,fuel:=B.fuel,out:=B.out,tr:=by show(m.h.trail.take c.trail).length<=(s.env.take d.trail).length;rw[dS,dS];have :=k.SQ;have :=k.xV;omega,cur:=JF,cu:=JD,iN:=by show(dR m.h c.top c.trail).cells.length+300+lN m.fuel m.out<=60000;rw[hlen];exact B.lQ c (by simp),lQ:=fun x hx=>B.lQ x (by simp[hx]),kD:=B.kD};have hcall:=SY hP C (P.length - d.at_) d.at_ rfl;rw[k.from_];have hno:=FW (P:=P) (n:=c.goal) (g:=bY m c.goal) (P.length - d.at_) d.at_ {m with choices:=cs,h:=dR m.h c.top c.trail};have Tj:=CO (P:=P) (g:=g) (rest:=rest) (P.length - d.at_) d.at_ {s with choices:=ds,env:=s.env.take d.trail};have e1:bY {m with choices:=cs,h:=dR m.h c.top c.trail} c.goal=bY m c.goal:=rfl;rw[e1]at hcall;generalize fw P c.goal (bY m c.goal) (P.length - d.at_) d.at_ {m with choices:=cs,h:=dR m.h c.top c.trail}=rm at*;generalize kN P g rest (P.length - d.at_) d.at_ {s with choices:=ds,env:=s.env.take d.trail}=rs at*;obtain⟨ra,m'⟩:=rm;obtain⟨rb,s'⟩:=rs;cases ra with
     |next=>cases rb with|next gl=>exact hcall|no=>exact hcall.elim|off=>exact hcall.elim
     |off=>cases rb with|next gl=>exact hcall.elim|no=>exact hcall.elim|off=>exact hcall
     |no=>cases rb with|next gl=>exact hcall.elim|off=>exact hcall.elim|no=>obtain rfl:=hno m' rfl;obtain rfl:=Tj s' rfl;simp only;exact Nu hP cs ds _ _ ⟨DF,k.good,B.fuel,B.out,JD,fun x hx=>B.lQ x (by simp[hx]),B.kD⟩ fT
section
variable {N : Int} {l : List Ce} {φ : Int → Int} {E : Env}
theorem DI{a:Int}{t:Tm}(h:jQ N l φ E a t)(hne:t.args≠[]):∀(i:Nat)(hi:i<t.args.length),Hr l φ E (fun _=>True) (a+1+(i:Nat)) t.args[i]:=by
 have hk:t.kind=3:=by
  rcases h.goal with hk|hk;·have :=h.xU;cases this with|var=>cases hk|atom=>exact absurd rfl hne|int=>cases hk|comp=>rfl
  ·exact hk
 have hs:aB E t=t:=jF (.inl (by rw[hk];decide));have hl:Looks l a a:= .stop h.iU (.inl h.kind);cases h.tells with|var h1 h2 h3 h4 h5=>rw[hs,hk]at h4;simp at h4|leaf h1 h2 h3 h4 h5 h6 h7=>rw[hs,hk]at h4;exact absurd rfl h4|comp h1 h2 h3 h4 h5 h6 h7=>obtain rfl:=hl.H6 h1;simp only[hs]at h7;exact h7
theorem Nv{K:Int->Prop}{a:Int}{t:Tm}(h:Hr l φ E K a t):((cellAt l (look l a)).kind=2↔(aB E t).kind=2)/\((aB E t).kind=2->(cellAt l (look l a)).n=(aB E t).n):=by cases h with|var h1 h2 h3 h4 h5=>rw[il h1,h2,h4];exact⟨by decide,fun h=>absurd h (by decide)⟩|leaf h1 h2 h3 h4 h5 h6 h7=>rw[il h1,h2];exact⟨Hl,fun _=>h5⟩|comp h1 h2 h3 h4 h5 h6 h7=>rw[il h1,h2,h3];exact⟨by decide,fun h=>absurd h (by decide)⟩
end
structure abq (N : Int) (φ : Int → Int) (h : Hp) (E : Env) (u : Hp) (E' : Env) : Prop where
  good : u.Good
  tr : u.trail.length ≤ E'.length
  len : u.cells.length = h.cells.length
  Jb : Mon N u.cells φ E'
  tells : ∀ a x, x.In N → Hr h.cells φ E (fun _ => True) a x → Hr u.cells φ E' (fun _ => True) a x
  cells : ∀ a, Inb h.cells a → (cellAt h.cells a).kind ≠ 0 → cellAt u.cells a = cellAt h.cells a ∧ Inb u.cells a
  old : ∀ top tr, top ≤ h.cells.length → tr ≤ h.trail.length → dR u top tr = dR h top tr
  trl : h.trail.length ≤ u.trail.length
theorem abr{N:Int}{φ:Int->Int}{h:Hp}{E:Env}{a b:Int}{ta tb:Tm}(hg:h.Good)(hE:dI N E)(hN0:0<=N)(hN:N<=40000)(hM:Mon N h.cells φ E)(htr:h.trail.length<=E.length)(ha:Hr h.cells φ E (fun _=>True) a ta)(hb:Hr h.cells φ E (fun _=>True) b tb)(ia:ta.In N)(ib:tb.In N):((fE 400 [(ta,tb)] E).work<0->(gq h a b).2.2≠0)/\(¬(fE 400 [(ta,tb)] E).work<0->(gq h a b).2.2=0/\(gq h a b).2.1=(fE 400 [(ta,tb)] E).ok/\((fE 400 [(ta,tb)] E).ok=false->(gq h a b).1=h)/\((fE 400 [(ta,tb)] E).ok=true->abq N φ h E (gq h a b).1 (fE 400 [(ta,tb)] E).env)):=by
 have hia:Inb h.cells a:=by obtain⟨x,hx⟩:=ha.looks;exact hx.start
 have hib:Inb h.cells b:=by obtain⟨x,hx⟩:=hb.looks;exact hx.start
 have hIs:∀p∈[(ta,tb)],p.1.In N/\p.2.In N:=by intro p hp;simp only[iF]at hp;subst hp;exact⟨ia,ib⟩
 have U:=aag (N:=N) 400 [(a,b)] [(ta,tb)] h.cells E h.trail hE hM ⟨⟨ha,hb⟩,trivial⟩ hIs;have FU:=EW (N:=N) 400 [(ta,tb)] E hE hIs;have FV:=LV 400 [(a,b)] h.cells h.trail;rw[aa9 hg hia hib];generalize aY 400 [(a,b)] h.cells h.trail=u at U FV ⊢;generalize fE 400 [(ta,tb)] E=u' at U FU ⊢;refine⟨fun hw=>by rw[ah (show u.work<0 by rw[U.work];exact hw)];simp,fun hw=>?_⟩;rw[ae (show ¬u.work<0 by rw[U.work];exact hw)];by_cases hok:u'.ok=false;·rw[ah (show u.ok=false by rw[U.ok];exact hok),hok];exact⟨rfl,rfl,fun _=>rfl,fun h=>by simp at h⟩
 have hok':u.ok=true:=by rw[U.ok];simpa using hok
 rw[ae (show ¬u.ok=false by rw[hok'];decide)];obtain⟨vs,t1,t2,t3⟩:=U.trail hok';obtain⟨vs',t1',hB, -, -⟩:=FV hok';have hvs:vs'=vs:=List.append_cancel_left (t1'.symm.trans t1);subst hvs;have hel:=aa8 FU.1 hN0;have htl:u.trail.length<=65536:=by rw[t1,bA];omega
 rw[ae (show ¬65536<u.trail.length by omega)];refine⟨rfl,by simp only;rw[<-U.ok,hok'],fun h=>absurd h hok,fun _=>?_⟩;rw[t1]at htl;simp only[t1];refine⟨abb hg hB (fun x hx=>(t3 x hx).1) htl,by simp only[bA];omega,hB.1,U.Jb hok',U.tells hok',fun x hx hk=>aba hB hx hk,fun top tr h1 h2=>?_,by simp⟩;have hB':nZ (h.cells++[]) vs' u.cells:=by rw[nW];exact hB
 exact SS hB' h1 h2
def ak0(P:List Cl)(q:Nat)(nx:Int)(rest:List Gl):Option Bool×Mv->Option Bool×Sv->Prop|(none,m),(none,s)=>m.out=s.out|(some true,m),(some true,s)=>zF q {m with now:=nx} s rest|(some false,m),(some false,s)=>iR P s->Jz P q m s m.choices s.choices|_,_=>False
theorem ak1{N:Int}{E:Env}(hE:dI N E)(z:Tm)(hz:z.In N)(n:Int):0<=(fE 400 [(z,.mk 2 n .empty [])] E).work:=by
 have h2:aB E (.mk 2 n .empty [])= .mk 2 n .empty []:=jF (.inl (by show(2:Int)≠0;decide));rw[fE];simp only[h2,show(Tm.mk 2 n .empty []).kind=2 from rfl,show((2:Int)=0)=False from by simp,and_false,vD,if_false];split
 ·rename_i hk;have hin:ow E (aB E z).n 399 [.mk 2 n .empty []]=(false,398):=by rw[Y9,h2,ae (by show ¬(2:Int)=0;decide)];show ow E _ 398 ([]++[])=_;rw[nW,Y8];rfl
  rw[hin];simp only[tZ,false_or];rw[ae (by omega),Mh];simp only;omega
 ·split;·simp only;omega
  ·rename_i h1 h3;have :(aB E z).args.length=0:=(agz.1 h3).2.2.2;rw[G6]at this;rw[this];show 0<=(fE 399 ([]++[]) E).work;rw[nW,Mh];simp only;omega
section
variable {P : List Cl} {q : Nat} {m : Mv} {s : Sv} {n : Nat} {g : Gl} {rest : List Gl}
theorem abt{φ:Int->Int}{u:Hp}{E':Env}{h:Hp}(C:DC q m s n g rest)(hlen:h.cells.length<=m.h.cells.length+1)(hle:m.h.cells.length<=h.cells.length)(htr:h.trail=m.h.trail)(hold:∀top tr,top<=m.h.cells.length->tr<=m.h.trail.length->dR h top tr=dR m.h top tr)(hE:∃F,E'=s.env++F)(U:abq s.vars φ h s.env u E')(hq:∀v:Nat,v<q->Inb h.cells (m.query+(v:Nat))/\Hr h.cells φ s.env (fun _=>True) (m.query+(v:Nat)) (jG (v:Nat)))(nx:Int)(hch:mh s.vars h.cells φ s.env m.goals nx rest):zF q {{m with h:=u}with now:=nx} {s with env:=E'} rest:=by
 obtain⟨F,rfl⟩:=hE;refine⟨U.good,C.fuel,C.out,U.tr,⟨φ,U.Jb,fun v hv=>?_,hch.imp (fun _ _=>rfl) (zL _) fun a t k=>?_⟩,C.cu.imp fun c d hc hd k=>k.move ?_ ?_ ?_ ?_ ?_ (qA _) (fun _ _=>rfl) (zL _),?_,C.lQ,by have :=C.kD;simp only;omega⟩;·obtain⟨q1,q2⟩:=hq v hv;refine⟨?_,U.tells _ _ (.var _ (by omega) (by have :=C.qv;omega)) q2⟩;have :=U.len;unfold Inb at q1 ⊢;simp only;omega
 ·obtain⟨k1,k2⟩:=U.cells a k.iU k.kind;exact k.move (qA _) k1 k2 (U.tells _ _ k.xU k.tells)
 ·exact(U.old _ _ (by have :=k.top;omega) (by rw[htr];exact k.tr)).trans (hold _ _ k.top k.tr)
 ·have :=U.len;have :=k.top;simp only;omega
 ·have h1:=U.trl;rw[htr]at h1;have :=k.tr;simp only;omega
 ·rw[Xu k.xV]
 ·simp only[bA];have :=k.xV;omega
 ·have :=C.iN;have :=U.len;simp only;omega
theorem abu{E':Env}{h:Hp}(C:DC q m s n g rest)(hg:h.Good)(hle:m.h.cells.length<=h.cells.length)(htr:h.trail=m.h.trail)(hold:∀top tr,top<=m.h.cells.length->tr<=m.h.trail.length->dR h top tr=dR m.h top tr)(hE:∃F,E'=s.env++F)(hok:iR P {s with env:=E'}):Jz P q {m with h:=h} {s with env:=E'} m.choices s.choices:=by
 obtain⟨F,rfl⟩:=hE;refine⟨hok,hg,C.fuel,C.out,C.cu.imp fun c d hc hd k=>k.move (hold _ _ k.top k.tr) ?_ ?_ ?_ ?_ (qA _) (fun _ _=>rfl) (zL _),C.lQ,C.kD⟩;·have :=k.top;simp only;omega
 ·simp only[htr];exact k.tr
 ·rw[Xu k.xV]
 ·simp only[bA];have :=k.xV;omega
theorem abv(C:DC q m s n g rest)(hk:g.t.jM):ak0 P q (bY m n).next rest (mg (bY m n) m) (rU g s):=by
 obtain⟨φ,hM,hq,kk,e1,hlt,qX,hga,hnx,hch⟩:=C.cur;have e2:kk=n:=by omega
 subst e2;have hgm:bY m kk=(m.goals[kk]?).getD default:=rfl;rw[<-hgm]at qX hga hnx hch;generalize bY m kk=gm at*;have Ta:=C.cu.len;unfold mg rU;have hcs:(cellAt m.h.cells gm.at_).s=g.t.s:=by rw[hga.cell]
 simp only[hcs];have asr:∀c k,zF q {{m with choices:=m.choices.drop c}with now:=gm.next} {s with choices:=s.choices.drop k} rest↔zF q {{m with choices:=m.choices.drop c}with now:=gm.next} {s with choices:=s.choices.drop k} rest:=fun _ _=>Hl;by_cases n1:g.t.s.toList=[33]
 ·rw[ah n1,ah n1];have he:m.choices.length - min gm.bar m.choices.length=s.choices.length - g.bar:=by rw[qX,<-Ta];omega
  rw[he];exact⟨C.good,C.fuel,C.out,C.tr,⟨φ,hM,hq,hch⟩,C.cu.drop _,by have :=C.iN;simp only;omega,fun c hc=>C.lQ c (G9 hc),by have :=C.kD;simp only;omega⟩
 rw[ae n1,ae n1];have hon:zF q {m with now:=gm.next} s rest:=⟨C.good,C.fuel,C.out,C.tr,⟨φ,hM,hq,hch⟩,C.cu,by have :=C.iN;simp only;omega,C.lQ,by have :=C.kD;simp only;omega⟩;by_cases n2:g.t.s.toList=[116,114,117,101];·rw[ah n2,ah n2];exact hon
 rw[ae n2,ae n2];have hoff:iR P s->Jz P q m s m.choices s.choices:=fun hok=>⟨hok,C.good,C.fuel,C.out,C.cu,C.lQ,C.kD⟩;by_cases n3:g.t.s.toList=[102,97,105,108];·rw[ah n3,ah n3];exact hoff
 rw[ae n3,ae n3];have Tk:∀k:Int,m.out++[(⟨k,[]⟩:Ev)]=s.out++[⟨k,[]⟩]:=fun k=>by rw[C.out]
 by_cases n4:g.t.s.toList=[101,113]
 ·rw[ah n4,ah n4];have h2:g.t.args.length=2:=by
   rcases hk with⟨_,h|h|h⟩|⟨h,_⟩|⟨_,h⟩;·exact absurd h n1
   ·exact absurd h n2
   ·exact absurd h n3
   ·exact h
   ·rw[n4]at h;simp at h
  have hne:g.t.args≠[]:=fun h=>by rw[h]at h2;simp at h2
  have ha:=DI hga hne 0 (by omega);have hb:=DI hga hne 1 (by omega);rw[show gm.at_+1+((0:Nat):Int)=gm.at_+1 by omega]at ha;rw[show gm.at_+1+((1:Nat):Int)=gm.at_+2 by omega]at hb;rw[show(g.t.args[0]?).getD default=g.t.args[0]by rw[aS (by omega)];rfl,show(g.t.args[1]?).getD default=g.t.args[1]by rw[aS (by omega)];rfl];have ia:g.t.args[0].In s.vars:=hga.xU.arg (bZ _);have ib:g.t.args[1].In s.vars:=hga.xU.arg (bZ _);obtain⟨u1,u2⟩:=abr C.good C.env C.v0 C.v1 hM C.tr ha hb ia ib;obtain⟨-,F,hF, -⟩:=EW (N:=s.vars) 400 [(g.t.args[0],g.t.args[1])] s.env C.env (by intro p hp;simp only[iF]at hp;subst hp;exact⟨ia,ib⟩);generalize fE 400 [(g.t.args[0],g.t.args[1])] s.env=u' at*;generalize gq m.h (gm.at_+1) (gm.at_+2)=u at*;by_cases hw:u'.work<0;·rw[ah (u1 hw),ah hw];exact Tk 4
  ·obtain⟨v1,v2,v3,v4⟩:=u2 hw;rw[ae (dL v1),ae hw,v2];cases ho:u'.ok with|true=>exact abt C (Nat.le_succ _) (zL _) rfl (fun _ _ _ _=>rfl) ⟨F,hF⟩ (v4 ho) hq _ hch|false=>intro hok;rw[v3 ho];exact abu C C.good (zL _) rfl (fun _ _ _ _=>rfl) ⟨F,hF⟩ hok
 rw[ae n4,ae n4];have h2:2<=g.t.args.length:=by
  rcases hk with⟨_,h|h|h⟩|⟨h,_⟩|⟨h,_⟩;·exact absurd h n1
  ·exact absurd h n2
  ·exact absurd h n3
  ·omega
  ·omega
 have hne:g.t.args≠[]:=fun h=>by rw[h]at h2;simp at h2
 have ha:=DI hga hne 0 (by omega);have hb:=DI hga hne 1 (by omega);rw[show gm.at_+1+((0:Nat):Int)=gm.at_+1 by omega]at ha;rw[show gm.at_+1+((1:Nat):Int)=gm.at_+2 by omega]at hb;rw[show(g.t.args[0]?).getD default=g.t.args[0]by rw[aS (by omega)];rfl,show(g.t.args[1]?).getD default=g.t.args[1]by rw[aS (by omega)];rfl];obtain⟨a1,a2⟩:=Nv ha;obtain⟨b1,b2⟩:=Nv hb;by_cases hn:(aB s.env g.t.args[0]).kind≠2\/(aB s.env g.t.args[1]).kind≠2;·rw[ah (hn.imp (fun h e=>h (a1.1 e)) (fun h e=>h (b1.1 e))),ah hn];exact Tk 5
 have hn':(aB s.env g.t.args[0]).kind=2/\(aB s.env g.t.args[1]).kind=2:=by omega
 rw[ae (fun h=>h.elim (fun h=>h (a1.2 hn'.1)) (fun h=>h (b1.2 hn'.2))),ae hn,a2 hn'.1,b2 hn'.2];by_cases n5:g.t.s.toList=[108,101,115,115];·rw[ah n5,ah n5];cases decide ((aB s.env g.t.args[0]).n<(aB s.env g.t.args[1]).n)with|true=>exact hon|false=>exact hoff
 rw[ae n5,ae n5];by_cases hbig:(aB s.env g.t.args[0]).n+(aB s.env g.t.args[1]).n>1099511627776\/(aB s.env g.t.args[0]).n+(aB s.env g.t.args[1]).n< -1099511627776;·rw[ah hbig,ah hbig];exact Tk 5
 rw[ae hbig,ae hbig];have h3:g.t.args.length=3:=by
  rcases hk with⟨_,h|h|h⟩|⟨_,h|h⟩|⟨h,_⟩;·exact absurd h n1
  ·exact absurd h n2
  ·exact absurd h n3
  ·exact absurd h n4
  ·exact absurd h n5
  ·exact h
 generalize(aB s.env g.t.args[0]).n+(aB s.env g.t.args[1]).n=k at*;have hc:=DI hga hne 2 (by omega);rw[show gm.at_+1+((2:Nat):Int)=gm.at_+3 by omega]at hc;rw[show(g.t.args[2]?).getD default=g.t.args[2]by rw[aS (by omega)];rfl];have ic:g.t.args[2].In s.vars:=hga.xU.arg (bZ _);have id_:(Tm.mk 2 k .empty []).In s.vars:= .int _ (by omega) (by omega);have hFg:gB [(⟨2,k,.empty⟩:Ce)]:=fun i hi=>by
  simp only[dW]at hi;have :i=0:=by omega
  subst this;exact .inr (.inr (.inl ⟨rfl,FD⟩))
 have hF0:NF 0 [(⟨2,k,.empty⟩:Ce)]:=fun i x hx _ hk=>by cases i with|zero=>simp only[xm,cZ]at hx;subst hx;simp at hk|succ i=>simp at hx
 have hlen:m.h.cells.length+[(⟨2,k,.empty⟩:Ce)].length<=65536:=by have :=C.iN;simp only[dW];omega
 rw[Nr C.good hFg hlen];simp only[ne_eq,Lp,if_false];have hg1:=SB C.good hFg hlen;have hM1:=SG hM C.env C.v0 hF0;rw[show s.vars+((0:Nat):Int)=s.vars by omega]at hM1;have hcl:∀a t,Inb m.h.cells a->Hr m.h.cells φ s.env (fun _=>True) a t->Hr (m.h.cells++[(⟨2,k,.empty⟩:Ce)].map (dh m.h.cells.length)) (jO m.h.cells s.vars φ) s.env (fun _=>True) a t:=fun a t hi h=>Nl C.good.1 hi h;have hci:Inb m.h.cells (gm.at_+3):=by obtain⟨x,hx⟩:=hc.looks;exact hx.start
 have hI0:Inb [(⟨2,k,.empty⟩:Ce)] 0:=⟨by omega,by simp⟩;obtain⟨c1,c2⟩:=Bt (H:=m.h.cells) hI0;rw[show(0:Int)+(m.h.cells.length:Int)=(m.h.cells.length:Int)by omega,show cellAt [(⟨2,k,.empty⟩:Ce)] 0=⟨2,k,.empty⟩from rfl,zw _ (by simp)]at c1;rw[show(0:Int)+(m.h.cells.length:Int)=(m.h.cells.length:Int)by omega]at c2;have hst:aB s.env (.mk 2 k .empty [])= .mk 2 k .empty []:=jF (.inl (by simp[Tm.kind]));have hd:Hr (m.h.cells++[(⟨2,k,.empty⟩:Ce)].map (dh m.h.cells.length)) (jO m.h.cells s.vars φ) s.env (fun _=>True) (m.h.cells.length:Int) (.mk 2 k .empty []):= .leaf (.stop c2 (.inl (by rw[c1];simp))) (by rw[c1,hst];rfl) (by rw[hst];simp[Tm.kind]) (by rw[hst];simp[Tm.kind]) (by rw[c1,hst];rfl) (by rw[c1,hst];rfl) (by rw[hst];rfl);obtain⟨u1,u2⟩:=abr (h:=⟨m.h.cells++[(⟨2,k,.empty⟩:Ce)].map (dh m.h.cells.length),m.h.trail⟩) hg1 C.env C.v0 C.v1 hM1 C.tr (hcl _ _ hci hc) hd ic id_;obtain⟨-,F,hF, -⟩:=EW (N:=s.vars) 400 [(g.t.args[2],.mk 2 k .empty [])] s.env C.env (by intro p hp;simp only[iF]at hp;subst hp;exact⟨ic,id_⟩);have hwk:=ak1 C.env g.t.args[2] ic k;generalize fE 400 [(g.t.args[2],Tm.mk 2 k .empty [])] s.env=u' at*;generalize hu:gq ⟨m.h.cells++[(⟨2,k,.empty⟩:Ce)].map (dh m.h.cells.length),m.h.trail⟩ (gm.at_+3) (m.h.cells.length:Int)=u at*;obtain⟨v1,v2,v3,v4⟩:=u2 (by omega);rw[ae (dL v1),v2];have hold:∀top tr,top<=m.h.cells.length->tr<=m.h.trail.length->dR ⟨m.h.cells++[(⟨2,k,.empty⟩:Ce)].map (dh m.h.cells.length),m.h.trail⟩ top tr=dR m.h top tr:=fun top tr h1 h2=>by have :=SS (nZ.refl (m.h.cells++[(⟨2,k,.empty⟩:Ce)].map (dh m.h.cells.length))) h1 h2;rw[nW]at this;exact this
 cases ho:u'.ok with
  |true=>
   refine abt (h:=⟨m.h.cells++[(⟨2,k,.empty⟩:Ce)].map (dh m.h.cells.length),m.h.trail⟩) C (by simp) (by simp) rfl hold ⟨F,hF⟩ (v4 ho) (fun v hv=>?_) _ (hch.imp (fun _ _=>rfl) (zL _) fun a t Nw=>?_);·obtain⟨q1,q2⟩:=hq v hv;exact⟨(Dx q1).2,hcl _ _ q1 q2⟩
   ·have hl:=Dx (F:=[(⟨2,k,.empty⟩:Ce)]) Nw.iU;exact Nw.move (qA _) hl.1 hl.2 (hcl _ _ Nw.iU Nw.tells)
  |false=>intro hok;rw[v3 ho];have zG:=abu (h:=⟨m.h.cells++[(⟨2,k,.empty⟩:Ce)].map (dh m.h.cells.length),m.h.trail⟩) C hg1 (by simp) rfl hold ⟨F,hF⟩ hok;exact zG
end
theorem abx{P:List Cl}{t:Tm}:∀(n k:Nat),n=P.length - k->k<=P.length->(lY P t n k=P.length↔∀(i:Nat)(h:i<P.length),k<=i->¬um (P[i]).head t)
 |0,k,hn,hk=>by rw[lY];exact⟨fun _ i h hi=>by omega,fun _=>by omega⟩
 |n+1,k,hn,hk=>by
  have hlt:k<P.length:=by omega
  have ih:=abx (P:=P) (t:=t) n (k+1) (by omega) (by omega);rw[lY,aS hlt];simp only;by_cases h:um (P[k]).head t;·rw[ah h];exact⟨fun e=>by omega,fun h2=>absurd h (h2 k hlt (zL _))⟩
  ·rw[ae h,ih];refine⟨fun h2 i hi hki=>?_,fun h2 i hi hki=>h2 i hi (by omega)⟩;by_cases e:i=k;·subst e;exact h
   ·exact h2 i hi (by omega)
theorem aby{N:Int}{l:List Ce}{φ:Int->Int}{E:Env}{a:Int}{t:Tm}(h:jQ N l φ E a t):wD (cellAt l a)↔t.jM:=by unfold wD Tm.jM;rw[h.cell];simp[Tm.args,Tm.s]
section
variable {P : List Cl} {q : Nat} {m : Mv} {s : Sv} {g : Gl} {rest : List Gl}
theorem abz(hP:fJ P)(S:qW P q m s (g::rest))(fT:(q:Int)<=s.vars):Both q (jP P m) (qI P g rest s):=by
 obtain⟨hok,zH,S⟩:=S;unfold jP qI;rw[S.fuel];by_cases hf:s.fuel=0;·rw[ah hf,ah hf];show m.out++_=s.out++_;rw[S.out]
 rw[ae hf,ae hf];obtain⟨φ,hM,hq,kk,e1,hlt,qX,hga,hnx,hch⟩:=S.cur;obtain rfl:kk=m.now.toNat:=by omega
 have hp:=Mq s.fuel s.choices hf;have hs1:iR P {s with fuel:=s.fuel - 1}:=by obtain⟨h1,h2,h3,h4,h5,h6,h7,h8⟩:=hok;rw[hp]at h6 h7;exact⟨h1,h2,h3,h4,h5,by simp only;omega,by simp only;omega,by simp only;omega⟩
 have hpV:=hok.Q9;have zJ:=hok.Zf;rw[hp]at zJ;have hsl:∀c:Nat,c+lN m.fuel m.out<=60000->c+300+lN (s.fuel - 1) m.out<=60000:=fun c h=>by unfold lN at h ⊢;rw[S.fuel]at h;omega
 have hsl2:∀c:Nat,c+300+lN m.fuel m.out<=60000->c+300+lN (s.fuel - 1) m.out<=60000:=fun c h=>by unfold lN at h ⊢;rw[S.fuel]at h;omega
 have Tn:m.goals.length+5+zD (s.fuel - 1) m.out<=5000:=by have h:=S.kD;unfold zD at h ⊢;rw[S.fuel]at h;omega
 have C:DC q {m with fuel:=s.fuel - 1} {s with fuel:=s.fuel - 1} m.now.toNat g rest:={good:=S.good,env:=hok.env,v0:=hok.Ml,v1:=by simp only;omega,qv:=fT,gt:=(zH g (by simp)).1,fuel:=rfl,out:=S.out,tr:=S.tr,cur:=⟨φ,hM,hq,m.now.toNat,rfl,hlt,qX,hga,by rw[<-e1];exact hnx,hch⟩,cu:=S.cu,iN:=hsl _ S.iN,lQ:=fun c hc=>hsl2 _ (S.lQ c hc),kD:=Tn};have hB:Jz P q {m with fuel:=s.fuel - 1} {s with fuel:=s.fuel - 1} m.choices s.choices:=⟨hs1,S.good,rfl,S.out,S.cu,C.lQ,C.kD⟩;have ass:bY {m with fuel:=s.fuel - 1} m.now.toNat=(m.goals[m.now.toNat]?).getD default:=rfl;simp only;have wH:jQ s.vars m.h.cells φ s.env (bY {m with fuel:=s.fuel - 1} m.now.toNat).at_ g.t:=hga;have hkc:=aby wH;by_cases hk:g.t.jM;·rw[ah (hkc.2 hk),ah hk];have hks:=abv (P:=P) C hk;have zG:=fun(r:Option Bool)(s':Sv)(e:rU g {s with fuel:=s.fuel - 1}=(r,s'))(hr:r≠none)=>IC hs1 (zH g (by simp)).1 hk (by simp only;omega) e hr;generalize mg (bY {m with fuel:=s.fuel - 1} m.now.toNat) {m with fuel:=s.fuel - 1}=rm at*;generalize rU g {s with fuel:=s.fuel - 1}=rs at*;obtain⟨ra,m'⟩:=rm;obtain⟨rb,s'⟩:=rs;match ra,rb,hks,zG with|none,none,hks,_=>exact hks|some true,some true,hks,_=>exact hks|some false,some false,hks,zG=>obtain⟨a1,a2,a3,a4⟩:=zG (some false) s' rfl (by simp);exact Nu hP _ _ _ _ (hks a1) (by rw[a4];exact fT)|none,some b,hks,_=>cases b<;>exact hks.elim|some b,none,hks,_=>cases b<;>exact hks.elim|some true,some false,hks,_=>exact hks.elim|some false,some true,hks,_=>exact hks.elim
 ·rw[ae (fun h=>hk (hkc.1 h)),ae hk];have hnext:cB P (cellAt m.h.cells (bY {m with fuel:=s.fuel - 1} m.now.toNat).at_) P.length 0=lY P g.t P.length 0:=SV wH P _ _;rw[hnext];have hall:=abx (P:=P) (t:=g.t) P.length 0 (by omega) (dD _);by_cases hn:∀c∈P,¬um c.head g.t;·rw[ah (hall.2 fun i h _=>hn _ (bZ h)),ah hn];show m.out++_=s.out++_;rw[S.out]
  ·rw[ae (fun h=>hn fun c hc=>by obtain⟨i,hi,rfl⟩:=tX.1 hc;exact hall.1 h i hi (dD _)),ae hn];have hcall:=SY hP C P.length 0 (by omega);have hno:=FW (P:=P) (n:=m.now.toNat) (g:=bY {m with fuel:=s.fuel - 1} m.now.toNat) P.length 0 {m with fuel:=s.fuel - 1};have Tj:=CO (P:=P) (g:=g) (rest:=rest) P.length 0 {s with fuel:=s.fuel - 1};generalize fw P m.now.toNat (bY {m with fuel:=s.fuel - 1} m.now.toNat) P.length 0 {m with fuel:=s.fuel - 1}=rm at*;generalize kN P g rest P.length 0 {s with fuel:=s.fuel - 1}=rs at*;obtain⟨ra,m'⟩:=rm;obtain⟨rb,s'⟩:=rs;cases ra with
   |next=>cases rb with|next gl=>exact hcall|no=>exact hcall.elim|off=>exact hcall.elim
   |off=>cases rb with|next gl=>exact hcall.elim|no=>exact hcall.elim|off=>exact hcall
   |no=>cases rb with|next gl=>exact hcall.elim|off=>exact hcall.elim|no=>obtain rfl:=hno m' rfl;obtain rfl:=Tj s' rfl;exact Nu hP _ _ _ _ hB fT
def ak4(l:List Ce)(φ:Int->Int):Option (List Tm×Int)->Option (List Tm×Nat)->Prop|none,none=>True|some (xs,left),some (ys,w)=>left=(w:Int)/\w<=200/\ys=xs.map (Tm.ren φ)/\∀x∈xs,x.Vars (gD l)|_,_=>False
theorem abA{h:Hp}{φ:Int->Int}{E:Env}{N:Int}{query:Int}(hg:h.Good)(hE:dI N E)(hqN:(q:Int)<=N)(hq:∀v:Nat,v<q->Inb h.cells (query+(v:Nat))/\Hr h.cells φ E (fun _=>True) (query+(v:Nat)) (jG (v:Nat))):∀v:Nat,v<=q->ak4 h.cells φ (mU h query v) (fe E 200 ((List.range v).map fun i=>jG (i:Nat)))
 |0,_=>by rw[mU];simp only[List.range_zero,Aw,A7];exact⟨rfl,zL _,rfl,by simp⟩
 |v+1,hv=>by
  have ih:=abA hg hE hqN hq v (by omega);rw[mU,XK,mF,akH];revert ih;cases mU h query v with
   |none=>cases fe E 200 ((List.range v).map fun i=>jG (i:Nat))with|none=>intro _;trivial|some p=>intro h;exact h.elim
   |some p=>
    obtain⟨xs,left⟩:=p;cases fe E 200 ((List.range v).map fun i=>jG (i:Nat))with
     |none=>intro h;exact h.elim
     |some p=>
      obtain⟨ys,w⟩:=p;rintro⟨rfl,hw,e2,e3⟩;simp only;obtain⟨q1,q2⟩:=hq v (by omega);have hl:leftOf (w:Int)=(w:Int):=by unfold leftOf;omega
      have hA:=akJ (l:=h.cells) (φ:=φ) hE w [query+(v:Nat)] [jG (v:Nat)] ⟨q2,trivial⟩ (by intro t ht;simp only[iF]at ht;subst ht;exact .var _ (by omega) (by omega));have ht:dF h (query+(v:Nat)) (w:Int)=xM (w:Int) (iT h.cells w (query+(v:Nat))):=by rw[dF,ae (dL hg),ae (dL q1),hl,dB]
      rw[ht];unfold iT;simp only[qy,Aw];have hle:=EJ h.cells w [query+(v:Nat)];revert hA hle;cases dX h.cells w [query+(v:Nat)]with
       |none=>cases fe E w [jG (v:Nat)]with|none=>intro _ _;simp only[xM];trivial|some p=>intro h;exact h.elim
       |some p=>
        obtain⟨zs,w1⟩:=p;cases fe E w [jG (v:Nat)]with
         |none=>intro h;exact h.elim
         |some p=>
          obtain⟨us,w2⟩:=p;rintro⟨rfl,d2,d3⟩hle;obtain⟨h1,h2⟩:=hle zs w1 rfl;match zs,h2,d2,d3 with
           |[z],_,d2,d3=>
            simp only[xM,ne_eq,Lp,if_false];refine⟨by omega,by omega,by rw[e2,d2,mF],fun x hx=>?_⟩;rcases gy.1 hx with hx|hx;·exact e3 x hx
            ·exact d3 x hx
theorem abB(hP:fJ P)(S:qW P q m s [])(fT:(q:Int)<=s.vars)(hout:s.out.length<=11):Both q (qV P q m) (match nD q s with|(false,s')=>(.off,s')|(true,s')=>jN P s'.choices s'):=by
 obtain⟨hok,zH,S⟩:=S;obtain⟨φ,hM,hq,hch⟩:=S.cur;have ht:=abA S.good hok.env fT hq q (zL _);unfold qV nD;revert ht;cases mU m.h m.query q with
  |none=>cases fe s.env 200 ((List.range q).map fun i=>jG (i:Nat))with|none=>intro _;show m.out++_=s.out++_;rw[S.out]|some p=>intro h;exact h.elim
  |some p=>
   obtain⟨xs,left⟩:=p;cases fe s.env 200 ((List.range q).map fun i=>jG (i:Nat))with
    |none=>intro h;exact h.elim
    |some p=>
     obtain⟨ys,w⟩:=p;rintro⟨-, -,e2,e3⟩;simp only;rw[akK hM e2 e3,S.out];by_cases h12:(s.out++[(⟨1,tidy xs⟩:Ev)]).length≥12;·rw[ah h12,ah h12];show _++_=_++_;rfl
     ·rw[ae h12,ae h12];simp only;refine Nu hP _ _ _ _ ⟨?_,S.good,S.fuel,rfl,S.cu,fun c hc=>?_,?_⟩ fT;·obtain⟨h1,h2,h3,h4,h5,h6,h7,h8⟩:=hok;exact⟨h1,h2,h3,h4,h5,h6,h7,h8⟩
      ·have :=S.lQ c hc;rw[S.out]at this;unfold lN at this ⊢;simp only[bA,dW]at h12 ⊢;omega
      ·have :=S.kD;rw[S.out]at this;unfold zD at this ⊢;simp only[bA,dW]at h12 ⊢;omega
end
inductive nN (gs : List Gm) (l : List Ce) : Nat → Prop where
  | mk (i : Nat) : i < gs.length → Inb l ((gs[i]?).getD default).at_ → ((gs[i]?).getD default).next < i → (0 ≤ ((gs[i]?).getD default).next → nN gs l ((gs[i]?).getD default).next.toNat) → nN gs l i
theorem JG{N:Int}{l l':List Ce}{φ:Int->Int}{E:Env}{gs:List Gm}(hl:∀a,Inb l' a->Inb l a):∀(gl:List Gl)(n:Int),mh N l' φ E gs n gl->0<=n->nN gs l n.toNat|[],n,h,h0=>by have :n= -1:=h;omega|g::r,n,⟨k,h1,h2,h3,h4,h5,h6⟩,h0=>by subst h1;rw[dB];exact .mk k h2 (hl _ h4.iU) (by omega) fun h=>JG hl r _ h6 h
def Ny(gs:List Gm)(ay:List Nat):Prop:=∀i∈ay,((gs[i]?).getD default).next<0\/((gs[i]?).getD default).next.toNat∈ay
section
variable {gs : List Gm} {l : List Ce}
theorem abC:∀(k:Nat)(n:Int)(ay:List Nat),(0<=n->n.toNat<k)->(0<=n->nN gs l n.toNat)->(∀i∈ay,nN gs l i)->(∀i∈ay,((gs[i]?).getD default).next<0\/((gs[i]?).getD default).next.toNat∈ay\/((gs[i]?).getD default).next=n)->Ny gs (visitM gs k n ay)/\(∀i∈ay,i∈visitM gs k n ay)/\(0<=n->n.toNat∈visitM gs k n ay)/\∀i∈visitM gs k n ay,nN gs l i
 |0,n,ay,hk,hn,hv,hc=>by
  rw[visitM];refine⟨fun i hi=>?_,fun i hi=>hi,fun h=>absurd (hk h) (Lu _),hv⟩;rcases hc i hi with h|h|h;·exact .inl h
  ·exact .inr h
  ·have :¬0<=n:=fun h0=>absurd (hk h0) (Lu _);exact .inl (by omega)
 |k+1,n,ay,hk,hn,hv,hc=>by
  rw[visitM];by_cases h:n<0\/n.toNat∈ay
  ·rw[ah h];refine⟨fun i hi=>?_,fun i hi=>hi,fun h0=>h.elim (fun h=>by omega) id,hv⟩;rcases hc i hi with h1|h1|h1;·exact .inl h1
   ·exact .inr h1
   ·rcases h with h|h;·exact .inl (by omega)
    ·exact .inr (by rw[h1];exact h)
  ·rw[ae h];have h0:0<=n:=by omega
   have Db:=hn h0;have hlt:=hk h0;cases Db with
    |mk _ v1 v2 v3 v4=>
     obtain⟨c1,c2,c3,c4⟩:=abC k ((gs[n.toNat]?).getD default).next (ay++[n.toNat]) (fun h=>by omega) v4 (fun i hi=>by
      rcases gy.1 hi with hi|hi;·exact hv i hi
      ·simp only[iF]at hi;subst hi;exact .mk _ v1 v2 v3 v4) (fun i hi=>by
      rcases gy.1 hi with hi|hi
      ·rcases hc i hi with h1|h1|h1;·exact .inl h1
       ·exact .inr (.inl (by simp[h1]))
       ·exact .inr (.inl (by simp[h1]))
      ·simp only[iF]at hi;subst hi;exact .inr (.inr rfl));exact⟨c1,fun i hi=>c2 i (by simp[hi]),fun _=>c2 _ (by simp),c4⟩
theorem Tp:∀(ns:List Int)(ay:List Nat),(∀n∈ns,0<=n->nN gs l n.toNat)->(∀i∈ay,nN gs l i)->Ny gs ay->Ny gs (ns.foldl (fun ay n=>visitM gs (gs.length+1) n ay) ay)/\(∀i∈ay,i∈ns.foldl (fun ay n=>visitM gs (gs.length+1) n ay) ay)/\(∀n∈ns,0<=n->n.toNat∈ns.foldl (fun ay n=>visitM gs (gs.length+1) n ay) ay)/\∀i∈ns.foldl (fun ay n=>visitM gs (gs.length+1) n ay) ay,nN gs l i
 |[],ay,_,hv,hc=>⟨hc,fun _ h=>h,by simp,hv⟩
 |n::ns,ay,hn,hv,hc=>by
  have Db:=hn n (by simp);obtain⟨c1,c2,c3,c4⟩:=abC (gs.length+1) n ay (fun h0=>by cases Db h0 with|mk _ h=>omega) Db hv (fun i hi=>(hc i hi).imp id .inl);obtain⟨d1,d2,d3,d4⟩:=Tp ns (visitM gs (gs.length+1) n ay) (fun x hx=>hn x (by simp[hx])) c4 c1;rw[He];refine⟨d1,fun i hi=>d2 i (c2 i hi),fun x hx h0=>?_,d4⟩;rcases iG.1 hx with rfl|hx;·exact d2 _ (c3 h0)
  ·exact d3 x hx h0
end
theorem mh.gc{N:Int}{l l':List Ce}{φ φ':Int->Int}{E E':Env}{gs gs':List Gm}{ay:List Nat}(hc:Ny gs ay)(hlen:gs'.length=gs.length)(hgs:∀i∈ay,((gs'[i]?).getD default).bar=((gs[i]?).getD default).bar/\((gs'[i]?).getD default).next=((gs[i]?).getD default).next)(hG:∀i∈ay,∀t,jQ N l φ E ((gs[i]?).getD default).at_ t->jQ N l' φ' E' ((gs'[i]?).getD default).at_ t):∀(gl:List Gl)(n:Int),(0<=n->n.toNat∈ay)->mh N l φ E gs n gl->mh N l' φ' E' gs' n gl
 |[],n,_,h=>h
 |g::r,n,hv,⟨k,h1,h2,h3,h4,h5,h6⟩=>by
  subst h1;have hk:k∈ay:=by have :=hv (zN _);rwa[dB]at this
  obtain⟨a1,a2⟩:=hgs k hk;refine⟨k,rfl,by omega,by rw[a1];exact h3,hG k hk _ h4,by rw[a2];exact h5,?_⟩;rw[a2];exact mh.gc hc hlen hgs hG r _ (fun h0=>(hc k hk).elim (fun h=>by omega) id) h6
theorem abD{m:List Bool}{a:Nat}:∀(v:Nat),(∀i,i<v->m[a+i]?=some true)->cnt m (a+v)=cnt m a+v|0,_=>rfl|v+1,h=>by have ih:=abD (m:=m) (a:=a) v (fun i hi=>h i (by omega));rw[<-XO,cnt,ah (h v (by omega)),ih];omega
theorem abE{m:List Bool}:∀k,cnt m k<=k:=pJ m
section
variable {P : List Cl} {q : Nat} {m : Mv} {s : Sv} {gl : List Gl}
theorem abF{h:Hp}{roots dP dQ:List Int}(hg:h.Good)(hr:∀r∈roots,Inb h.cells r):lL h roots dP dQ=⟨iq h roots,roots.map (ahead (marks h.cells roots)),dP.map (ahead (marks h.cells roots)),dQ.map (ahead (aT (marks h.cells roots) h.trail)),0⟩:=by rw[lL,ae (dL hg),ae (dL hr)]
theorem abG(S:qW P q m s gl):qW P q (wE q m) s gl:=by
 obtain⟨hok,zH,S⟩:=S;refine⟨hok,zH,?_⟩;obtain⟨φ,hM,hq,hch⟩:=S.cur;have hst:∀n∈iE m,0<=n->nN m.goals m.h.cells n.toNat:=by
  intro n hn h0;unfold iE at hn;rcases gy.1 hn with hn|hn;·obtain⟨c,hc,rfl⟩:=gQ.1 hn;obtain⟨d,hd,k⟩:=S.cu.mem c (Qm.1 hc);obtain⟨φ', -, -,k3⟩:=k.snap;refine JG (fun a ha=>?_) _ _ k3 h0;have :=zo (h:=m.h) c.top c.trail k.top;have :=k.top;unfold Inb at ha ⊢;omega
  ·simp only[iF]at hn;subst hn;exact JG (fun _ h=>h) _ _ hch h0
 obtain⟨ay,Tq⟩:∃ay,ay=mV m.goals (iE m):=⟨_,rfl⟩;obtain⟨Tu, -,hsv,hvv⟩:=Tp (l:=m.h.cells) (iE m) [] hst (by simp) (by intro i hi;cases hi);have hnd:(iE m).foldl (fun ay n=>visitM m.goals (m.goals.length+1) n ay) []=ay:=Tq.symm;rw[hnd]at Tu hsv hvv;have JH:iV q m=((List.range q).map fun v=>m.query+(v:Nat))++ay.map fun i=>(bY m i).at_:=by rw[Tq];rfl
 obtain⟨roots,hrt⟩:∃roots,roots=iV q m:=⟨_,rfl⟩;have Nz:∀r∈roots,Inb m.h.cells r:=by
  intro r hr;rw[hrt,JH]at hr;rcases gy.1 hr with hr|hr;·obtain⟨v,hv,rfl⟩:=gQ.1 hr;exact(hq v (kK.1 hv)).1
  ·obtain⟨i,hi,rfl⟩:=gQ.1 hr;cases hvv i hi with|mk _ h1 h2=>exact h2
 have hrp:∀r∈roots,RP m.h roots r:=fun r hr=>by obtain⟨h0,h1⟩:=Nz r hr;obtain⟨k,rfl⟩:=eu h0;exact RP.of (.root hr (by omega))
 have xW:∀v:Nat,v<q->RP m.h roots (m.query+(v:Nat)):=fun v hv=>hrp _ (by rw[hrt,JH];exact agi _ (gQ.2 ⟨v,kK.2 hv,rfl⟩));have hgr:∀i∈ay,RP m.h roots (bY m i).at_:=fun i hi=>hrp _ (by rw[hrt,JH];exact List.mem_append_right _ (gQ.2 ⟨i,hi,rfl⟩));have hqa:∀v:Nat,v<q->ahead (marks m.h.cells roots) (m.query+(v:Nat))=ahead (marks m.h.cells roots) m.query+(v:Nat):=fun v hv=>by
  have h0:=(hq 0 (by omega)).1.1;simp only[Qn,XU]at h0;obtain⟨a,ha⟩:=eu h0;rw[ha,uD,show((a:Nat):Int)+(v:Nat)=((a+v:Nat):Int)by omega,uD];have :=abD (m:=marks m.h.cells roots) (a:=a) v (fun i hi=>by
   have h1:=xW i (by omega);rw[ha]at h1;obtain⟨k,e,hk,hr⟩:=h1.nat S.good.1;have :k=a+i:=by omega
   subst this;exact(rQ hk).2 hr);omega
 have FX:q>0->(((iV q m).map (ahead (marks m.h.cells roots)))[0]?).getD 0=ahead (marks m.h.cells roots) m.query:=fun h=>by rw[JH];obtain⟨q',rfl⟩:∃q',q=q'+1:=⟨q - 1,by omega⟩;rw[age];simp
 have hrm:roots.map (ahead (marks m.h.cells roots))=(((List.range q).map fun v=>m.query+(v:Nat))++ay.map fun i=>(bY m i).at_).map (ahead (marks m.h.cells roots)):=congrArg (List.map _) (hrt.trans JH);have ak7:=abF (dP:=m.choices.reverse.map fun c=>(c.top:Int)) (dQ:=m.choices.reverse.map fun c=>(c.trail:Int)) S.good Nz;obtain⟨qn,abI⟩:∃qn:Int,qn=if q>0 then ahead (marks m.h.cells roots) m.query else m.query:=⟨_,rfl⟩;obtain⟨gs',hgs'⟩:∃gs':List Gm,gs'=m.goals.mapIdx fun i g=>if i∈ay then{g with at_:=ahead (marks m.h.cells roots) g.at_}else g:=⟨_,rfl⟩;obtain⟨cs',hcs'⟩:∃cs':List Cm,cs'=m.choices.map fun x=>{x with top:=cnt (marks m.h.cells roots) x.top,trail:=cnt (aT (marks m.h.cells roots) m.h.trail) x.trail}:=⟨_,rfl⟩;have hres:wE q m={m with h:=iq m.h roots,query:=qn,goals:=gs',choices:=cs'}:=by
  unfold wE;rw[<-hrt,ak7];simp only[ne_eq,Lp,if_false,Mv.mk.injEq,fH,ug];refine⟨?_,?_,?_⟩
  ·rw[hgs',<-Tq];apply lV (by simp);intro i h1 h2;simp only[XD];by_cases hi:i∈ay;·rw[ah hi,ah hi];congr 1;have hx:ay.idxOf i<ay.length:=List.idxOf_lt_length_iff.2 hi;rw[hrm,mF,vw (by simp),jq,jq,Lr,Nat.add_sub_cancel_left,vB,vB,aS hx,List.getElem_idxOf hx];simp only[nV,qw,bY];rw[aS (by simpa using h1)];rfl
   ·rw[ae hi,ae hi]
  ·rw[hcs'];have e:(m.choices.reverse.mapIdx fun i x=>({x with top:=((((m.choices.reverse.map fun c=>(c.top:Int)).map (ahead (marks m.h.cells roots)))[i]?).getD 0).toNat,trail:=((((m.choices.reverse.map fun c=>(c.trail:Int)).map (ahead (aT (marks m.h.cells roots) m.h.trail)))[i]?).getD 0).toNat}:Cm))=(m.choices.map fun x=>({x with top:=cnt (marks m.h.cells roots) x.top,trail:=cnt (aT (marks m.h.cells roots) m.h.trail) x.trail}:Cm)).reverse:=by
    rw[<-List.map_reverse];apply lV (by simp);intro i h1 h2;have hl:i<m.choices.reverse.length:=by simpa using h1
    simp only[XD,Ls,vB,aS hl,nV,qw,uD,dB]
   rw[e,Lm]
  ·rw[abI];by_cases h:q>0;·rw[ah h,ah h,hrt];rw[hrt]at FX;exact FX h
   ·rw[ae h,ae h]
 have hqq:∀v:Nat,v<q->qn+(v:Nat)=ahead (marks m.h.cells roots) (m.query+(v:Nat)):=fun v hv=>by rw[hqa v hv,abI,ah (by omega)]
 have hgl:gs'.length=m.goals.length:=by rw[hgs'];simp
 have NA:∀i,i<m.goals.length->(gs'[i]?).getD default=if i∈ay then{(m.goals[i]?).getD default with at_:=ahead (marks m.h.cells roots) ((m.goals[i]?).getD default).at_}else(m.goals[i]?).getD default:=fun i hi=>by rw[hgs',List.getElem?_mapIdx,aS hi];rfl
 have hvl:∀i∈ay,i<m.goals.length:=fun i hi=>by cases hvv i hi with|mk _ h1=>exact h1
 have abJ:∀i∈ay,((gs'[i]?).getD default).bar=((m.goals[i]?).getD default).bar/\((gs'[i]?).getD default).next=((m.goals[i]?).getD default).next:=fun i hi=>by rw[NA i (hvl i hi),ah hi];exact⟨rfl,rfl⟩
 have abK:∀i∈ay,((gs'[i]?).getD default).at_=ahead (marks m.h.cells roots) ((m.goals[i]?).getD default).at_:=fun i hi=>by rw[NA i (hvl i hi),ah hi]
 have abL:∀{l l':List Ce}{T:Int->Prop}{φ1:Int->Int}{E1:Env}(Tv:lM l l' T (ahead (marks m.h.cells roots)))(hall:∀a t,T a->Hr l φ1 E1 (fun _=>True) a t->Hr l' (fun y=>φ1 (Fu T (ahead (marks m.h.cells roots)) y)) E1 (fun _=>True) (ahead (marks m.h.cells roots) a) t)(a:Int)(t:Tm),T a->jQ s.vars l φ1 E1 a t->jQ s.vars l' (fun y=>φ1 (Fu T (ahead (marks m.h.cells roots)) y)) E1 (ahead (marks m.h.cells roots) a) t:=by intro l l' T φ1 E1 Tv hall a t hT k;refine⟨(Tv.iU a hT).2,?_,k.goal,k.xU,hall a t hT k.tells⟩;rw[Tv.cell a hT];unfold uE;rw[ae k.kind];exact k.cell
 rw[hres];have hgm:=aal (roots:=roots) S.good;obtain⟨ak8,abM⟩:=hgm.all (aj5 (roots:=roots) S.good) hM;have FY:(iq m.h roots).cells.length<=m.h.cells.length:=by show(ja _ _ _).length<=_;rw[oh];exact pJ _ _
 have ast:(iq m.h roots).trail.length<=m.h.trail.length:=by show(jr _ _ _).length<=_;rw[rR];exact pJ _ _
 refine⟨Yr S.good,S.fuel,S.out,by have :=S.tr;simp only;omega,?_,?_,by have :=S.iN;simp only;omega,fun c hc=>?_,by have :=S.kD;simp only;rw[hgl];exact this⟩
 ·refine⟨_,ak8,fun v hv=>?_,?_⟩;·simp only;rw[hqq v hv];exact⟨(hgm.iU _ (xW v hv)).2,abM _ _ (xW v hv) (hq v hv).2⟩
  ·refine mh.gc Tu hgl abJ (fun i hi t k=>?_) gl m.now (fun h0=>hsv _ (by unfold iE;simp) h0) hch;rw[abK i hi];exact abL hgm abM _ _ (hgr i hi) k
 ·have hone:∀c d,c∈m.choices->zA m.h s.env s.vars q m.query m.goals c d->zA (iq m.h roots) s.env s.vars q qn gs' {c with top:=cnt (marks m.h.cells roots) c.top,trail:=cnt (aT (marks m.h.cells roots) m.h.trail) c.trail} d:=fun c d hc k=>by
   obtain⟨Tw,ak9⟩:=aan (roots:=roots) S.good k.top k.tr k.good;obtain⟨φ1,k1,k2,k3⟩:=k.snap;obtain⟨oM,oH⟩:=Tw.all ak9 k1;have hol:=zo (h:=m.h) c.top c.trail k.top;refine⟨k.from_,?_,?_,dM (pJ _ _) k.SQ,k.xV,aj6 S.good k.top k.tr k.good,⟨_,oM,fun v hv=>?_,?_⟩⟩;·show cnt _ c.top<=(ja _ _ _).length;rw[oh];exact EL k.top
   ·show cnt _ c.trail<=(jr _ _ _).length;rw[rR];exact EL k.tr
   ·obtain⟨i1,i2⟩:=k2 v hv;have hT:RP m.h roots (m.query+(v:Nat))/\m.query+(v:Nat)<(c.top:Int):=⟨xW v hv,by have :=i1.2;omega⟩;rw[hqq v hv];exact⟨(Tw.iU _ hT).2,oH _ _ hT i2⟩
   ·refine mh.gc Tu hgl abJ (fun i hi t kk=>?_) d.g (c.goal:Int) (fun h0=>hsv _ (by unfold iE;exact agi _ (gQ.2 ⟨c,Qm.2 hc,rfl⟩)) h0) k3;rw[abK i hi];exact abL Tw oH _ _ ⟨hgr i hi,by have :=kk.iU.2;omega⟩ kk
  simp only;rw[hcs'];have hlist:∀(cs:List Cm)(ds:List jf),(∀c∈cs,c∈m.choices)->jK m.h s.env s.vars q m.query m.goals cs ds->jK (iq m.h roots) s.env s.vars q qn gs' (cs.map fun x=>{x with top:=cnt (marks m.h.cells roots) x.top,trail:=cnt (aT (marks m.h.cells roots) m.h.trail) x.trail}) ds:=by intro cs;induction cs with
   |nil=>intro ds _ h;cases ds with|nil=>trivial|cons d ds=>exact h.elim
   |cons c cs ih=>intro ds hm h;cases ds with|nil=>exact h.elim|cons d ds=>refine⟨hone c d (hm c (by simp)) h.1,fun x hx=>?_,ih ds (fun x hx=>hm x (by simp[hx])) h.2.2⟩;obtain⟨y,hy,rfl⟩:=gQ.1 hx;obtain⟨h1,h2⟩:=h.2.1 y hy;exact⟨EL h1,EL h2⟩
  exact hlist _ _ (fun _ h=>h) S.cu
 ·rw[hcs']at hc;obtain⟨x,hx,rfl⟩:=gQ.1 hc;have :=S.lQ x hx;have :=pJ (marks m.h.cells roots) x.top;simp only;omega
end
theorem abN{P:List Cl}{q:Nat}{s s':Sv}(h:iR P s)(e:nD q s=(true,s')):iR P s'/\s'.out.length=s.out.length+1/\s'.out.length<=11/\s'.vars=s.vars:=by
 unfold nD at e;split at e;·simp at e
 ·simp only at e;split at e;·simp at e
  ·rename_i hlt;simp only[fG,fH]at e;subst e;obtain⟨h1,h2,h3,h4,h5,h6,h7,h8⟩:=h;simp only[bA,dW]at hlt ⊢;exact⟨⟨h1,h2,h3,h4,h5,h6,h7,h8⟩,trivial,by omega,trivial⟩
theorem NC{P:List Cl}:∀(cs:List Cm)(m:Mv),(jJ P cs m).1≠ .no
 |[],m=>by rw[jJ];simp
 |c::cs,m=>by
  rw[jJ];have ih:=NC (P:=P) cs;split;·exact ih _
  ·rename_i r hne;generalize fw P c.goal (bY m c.goal) (P.length - c.from_) c.from_ {m with choices:=cs,h:=(oP (oO m.h (c.trail:Int)).1 (c.top:Int)).1}=r at*;obtain⟨a,b⟩:=r;intro e;simp only at e;subst e;exact hne b rfl
theorem ala{P:List Cl}(m:Mv):(jP P m).1≠ .no:=by
 unfold jP;split;·simp
 ·simp only;split
  ·split;·simp
   ·simp
   ·exact NC _ _
  ·split;·simp
   ·split;·exact NC _ _
    ·rename_i hne;intro e;exact hne _ (Prod.ext e rfl)
theorem alb{P:List Cl}{q:Nat}(m:Mv):(qV P q m).1≠ .no:=by
 unfold qV;split;·simp
 ·simp only;split;·simp
  ·exact NC _ _
theorem Tx{P:List Cl}{q:Nat}(hP:fJ P)(fuel every:Int):∀(n:Nat)(m:Mv)(s:Sv)(gl:List Gl),qW P q m s gl->(q:Int)<=s.vars->s.out.length<=11->(runM P q fuel every n m).out=(qJ P q n gl s).out
 |0,m,s,gl,S,_,_=>by rw[runM,qJ];exact S.mi.out
 |n+1,m,s,[],S,fT,hout=>by
  have sK:m.now<0:=by obtain⟨φ, -, -,h⟩:=S.mi.cur;have :m.now= -1:=h;omega
  rw[runM,qJ,ah sK];have hA:=abB hP S fT hout;have hok2:=fun s'(e:nD q s=(true,s'))=>abN S.ok e;have Ty:=alb (P:=P) (q:=q) m;generalize qV P q m=rm at*;obtain⟨ra,m'⟩:=rm;cases ha:nD q s with|mk b s'=>rw[ha]at hA hok2;cases b with
   |false=>simp only at hA ⊢;cases ra with|next=>exact hA.elim|no=>exact hA.elim|off=>exact hA
   |true=>simp only at hA ⊢;obtain⟨a1,a2,a3,a4⟩:=hok2 s' rfl;have hbn:=fun s'' gl(e:jN P s'.choices s'=(.next gl,s''))=>EZ s'.choices s' s'' gl a1 e;generalize jN P s'.choices s'=rs at*;obtain⟨rb,s''⟩:=rs;cases ra with
    |next=>cases rb with|next gl=>obtain⟨b1,b2,b3,b4,b5⟩:=hbn s'' gl rfl;exact Tx hP fuel every n m' s'' gl ⟨b1,b2,hA⟩ (by omega) (by rw[b4];exact a3)|no=>exact hA.elim|off=>exact hA.elim
    |no=>cases rb with|next gl=>exact hA.elim|no=>exact absurd rfl Ty|off=>exact hA.elim
    |off=>cases rb with|next gl=>exact hA.elim|no=>exact hA.elim|off=>exact hA
 |n+1,m,s,g::rest,S,fT,hout=>by
  have sK:¬m.now<0:=by obtain⟨φ, -, -,k,h, -⟩:=S.mi.cur;omega
  rw[runM,qJ,ae sK];have S2:qW P q (if every>0/\(fuel - m.fuel)%every=0 then wE q m else m) s (g::rest):=by
   split;·exact abG S
   ·exact S
  generalize(if every>0/\(fuel - m.fuel)%every=0 then wE q m else m)=m2 at*;have hA:=abz hP S2 fT;have hsn:=fun s' gl(e:qI P g rest s=(.next gl,s'))=>Re S.ok S.yV e;have Ty:=ala (P:=P) m2;generalize jP P m2=rm at*;generalize qI P g rest s=rs at*;obtain⟨ra,m'⟩:=rm;obtain⟨rb,s'⟩:=rs;cases ra with
   |next=>cases rb with|next gl=>obtain⟨b1,b2,b3,b4,b5⟩:=hsn s' gl rfl;exact Tx hP fuel every n m' s' gl ⟨b1,b2,hA⟩ (by omega) (by rw[b4];exact hout)|no=>exact hA.elim|off=>exact hA.elim
   |no=>cases rb with|next gl=>exact hA.elim|no=>exact absurd rfl Ty|off=>exact hA.elim
   |off=>cases rb with|next gl=>exact hA.elim|no=>exact hA.elim|off=>exact hA
theorem abO{Q:List Tm}{n:Nat}(hg:iw Q (n:Int))(F:List Ce)(hF:F=(aO (aK n) Q).1):F.length<=296/\n<=F.length/\gB F/\Br F n/\NF n F/\∀(j:Nat)(hj:j<Q.length),∃a:Nat,(aO (aK n) Q).2[j]?=some (a:Int)/\Laid F id (a:Int) Q[j]/\F[a]?=some ⟨Q[j].kind,(Q[j].args.length:Int),Q[j].s⟩:=by
 obtain⟨v0,v8,l5,lg⟩:=hg;have hnd:=Jf Q (fun g hg=>(lg g hg).2.2);have h2:=Bo Q (aK n);rw[jI,<-hF]at h2;have sI:∀t∈Q,t.Good (n:Int):=fun t ht=>(lg t ht).2.1;have hva:Br F n:=fun i hi=>by rw[hF,Fz Q _ i (by rw[jI];exact hi)];exact aaQ n i hi
 obtain⟨n3,n4⟩:=Nj n Q (aK n) (fun t ht=>⟨(lg t ht).1,sI t ht⟩) (SF n) (by rw[jI];exact zL _);have hla:=Sw n F hva Q (aK n) sI (by rw[jI];exact zL _) (fun i hi hil=>by rw[hF]);rw[<-hF]at n3 n4;refine⟨by omega,h2.1,?_,hva,n3,fun j hj=>?_⟩
 ·by_cases h0:F.length=0;·intro i hi;omega
  ·have hok:=Sz (v:=n) (N:=F.length) h2.1 (by omega) Q (aK n) sI (aaP h2.1) (by rw[<-hF];exact zL _);rw[<-hF]at hok;intro i hi;exact hok i _ (aS hi)
 ·obtain⟨a,e1,e2⟩:=n4 j hj;obtain⟨a',f1,f2⟩:=hla j hj;rw[e1]at f1;obtain rfl:=XJ f1;exact⟨a,e1,f2,e2⟩
theorem alc{v:Int}{t:Tm}(h:t.Good v)(hv:v<=8):fM t 0=t:=by
 unfold fM;induction h with
  |var n h0 h1=>simp[Tm.ren,Tm.qC,EY h0 (show n<1099511627776 by omega),EY (show(0:Int)<=0 by omega) (show(0:Int)<1099511627776 by omega)]
  |atom s h=>simp[Tm.ren,Tm.qC]
  |int n h0 h1=>simp[Tm.ren,Tm.qC]
  |comp s l h h1 h2 h3 _ ih=>
   simp only[Tm.ren,Tm.Hy,show ¬((3:Int)=0)by decide,if_false,Tm.mk.injEq,fH];conv=>rhs;rw[<-List.map_id l]
   exact XB fun x hx=>ih x hx
theorem abP{P:List Cl}{Q:List Tm}{n f:Nat}(hP:fJ P)(hQ:iw Q (n:Int))(hf:f<=150):qW P n (wG Q (n:Int) f) ⟨[],[],(n:Int),f,[]⟩ (Q.map fun t=>⟨t,0⟩):=by
 obtain⟨hok,hgl⟩:=abh (f:=f) hP hQ hf;refine⟨hok,hgl,?_⟩;obtain⟨F,hF⟩:∃F,F=(aO (aK n) Q).1:=⟨_,rfl⟩;obtain⟨b1,b2,b3,b4,b5,b6⟩:=abO hQ F hF;have hcells:(bL Q (n:Int)).cells=F:=by rw[hF];simp[bL]
 have DD:(bL Q (n:Int)).goals=(aO (aK n) Q).2:=by simp[bL]
 have ND:Hp.Good ⟨[],[]⟩:=⟨fun i hi=>by simp at hi,fun j hj=>by simp at hj,by simp,by simp⟩;have hld:=Nr (h:=⟨[],[]⟩) (F:=F) ND b3 (by simp only[fC];omega);have hg1:=SB (h:=⟨[],[]⟩) (F:=F) ND b3 (by simp only[fC];omega);simp only[fC,Qn]at hld hg1;have hM0:Mon 0 [] (fun x=>x) []:=⟨fun x y hx=>by have :=hx.1;unfold Inb at this;simp at this;omega,fun x hx=>by have :=hx.1;unfold Inb at this;simp at this;omega,fun x _=>rfl⟩;have hM1:=SG hM0 (dI.nil 0) (qA _) b5;rw[Int.zero_add]at hM1;simp only[fC]at hM1;have hφ:∀k:Int,0<=k->k<(n:Int)->jO [] 0 (fun x=>x) (k+0)=0+k:=fun k h0 h1=>by unfold jO;simp only[fC];rw[ae (by omega)];omega
 have tell:∀(t:Tm)(a:Int),t.Good (n:Int)->Laid F id a t->Hr ([]++F.map (dh 0)) (jO [] 0 (fun x=>x)) [] (fun _=>True) (0+a) t:=fun t a ht ha=>by have h1:=aaJ (H:=[]) t a ha;have :=aaS (v:=(n:Int)) (φ:=jO [] 0 (fun x=>x)) (dI.nil 0) (qA _) (by omega) hQ.2.1 hφ t _ ht h1;rw[alc ht hQ.2.1,Hg]at this;exact this
 have NA:∀(j:Nat)(hj:j<Q.length),∃a,(aO (aK n) Q).2[j]?=some a/\jQ (n:Int) ([]++F.map (dh 0)) (jO [] 0 (fun x=>x)) [] (0+a) Q[j]:=fun j hj=>by obtain⟨a,e1,e2,e3⟩:=b6 j hj;have hgj:=hQ.2.2.2 _ (bZ hj);obtain⟨c1,c2⟩:=wB e3;obtain⟨d1,d2⟩:=Bt (H:=[]) c2;rw[c1,zw _ (by simpa using jd.ne hgj.1),Hg]at d1;rw[Hg]at d2;exact⟨(a:Int),e1,d2,d1,hgj.1,hgj.2.1,tell _ _ hgj.2.1 e2⟩
 have sI:=vY Q (aK n);obtain⟨p1,p2,p3⟩:=SX (N:=(n:Int)) (base:=0) (bar:=0) (gs0:=[]) (nx:= -1) (rest:=[]) (by show(-1:Int)= -1;rfl) (aO (aK n) Q).2 Q sI NA;rw[nW]at p1;have hb:wG Q (n:Int) f={h:=⟨[]++F.map (dh 0),[]⟩,goals:=(eH 0 0 (aO (aK n) Q).2 [] (-1)).1,choices:=[],now:=(eH 0 0 (aO (aK n) Q).2 [] (-1)).2,query:=0,fuel:=f,out:=[]}:=by unfold wG;simp only[hcells,DD,hld]
 rw[hb];refine⟨hg1,rfl,rfl,by simp,⟨_,hM1,fun v hv=>?_,p1⟩,trivial,?_,by simp,?_⟩;·have h1:=b4 v hv;obtain⟨c1,c2⟩:=wB h1;obtain⟨d1,d2⟩:=Bt (H:=[]) c2;simp only[fC,Qn,XU]at d1 d2;rw[c1,dh,ah rfl]at d1;simp only[Qn,XU]at d1;rw[Int.zero_add];have hst:aB [] (jG (v:Nat))=jG (v:Nat):=jF (.inr rfl);exact⟨d2,.var (.stop d2 (.inr (by rw[d1]))) (by rw[d1]) trivial (by rw[hst];rfl) (by rw[hst];unfold jO;simp only[fC];rw[ae (by omega)];show(v:Int)=_;omega)⟩
 ·simp only[xn,jq,lN,fC];omega
 ·have h5:Q.length<=5:=hQ.2.2.1;simp only[JA,sI,fC,zD];omega
noncomputable def jB(P:List Cl)(Q:List Tm)(vars fuel every:Int):List Ev×Int:=haveI :=Classical.propDecidable (fJ P/\iw Q vars);if ¬(fJ P/\iw Q vars)then([],1)else if fuel<0\/fuel>150\/every<0 then([],2)else((runM P vars.toNat fuel every (fuel.toNat+14) (wG Q vars fuel.toNat)).out,0)
theorem Tz(P:List Cl)(Q:List Tm)(vars fuel every:Int)(he:0<=every):jB P Q vars fuel every=uq P Q vars fuel:=by
 unfold jB;rcases Tf P Q vars fuel with⟨hn,e⟩|⟨hg,hf,e⟩|⟨hg,h0,h1,e⟩;·rw[e,ah hn]
 ·rw[e,ae (dL hg),ah (by omega)]
 ·rw[e,ae (dL hg),ae (by omega)];obtain⟨n,rfl⟩:=eu hg.2.1;obtain⟨f,rfl⟩:=eu h0;rw[dB,dB];have :=Tx hg.1 (f:Int) every (f+14) _ _ _ (abP (f:=f) hg.1 hg.2 (by omega)) (by simp only;omega) (by simp);rw[this]
