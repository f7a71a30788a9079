import Derived.Test.YtlpmfkpefoegeacGreatDoorQHUnify
namespace Go.Proofs.YtlpmfkpefoegeacGreatDoor
set_option maxRecDepth 99999
set_option maxHeartbeats 0
set_option linter.all false
structure Gm where
  at_ : Int
  bar : Nat
  next : Int
  deriving Inhabited
structure Cm where
  goal : Nat
  from_ : Nat
  top : Nat
  trail : Nat
structure Mv where
  h : Hp
  goals : List Gm
  choices : List Cm
  now : Int
  query : Int
  fuel : Nat
  out : List Ev
inductive RM where
  | next
  | no
  | off
def Mv.put(m:Mv)(kind:Int):Mv:={m with out:=m.out++[⟨kind,[]⟩]}
def fe(base:Int)(bar:Nat):List Int->List Gm->Int->List Gm×Int|[],gs,nx=>(gs,nx)|a::r,gs,nx=>((fe base bar r gs nx).1++[⟨base+a,bar,(fe base bar r gs nx).2⟩],((fe base bar r gs nx).1.length:Int))
def xP(c:Cl)(x:Ce):Prop:=c.head.s=x.s/\(c.head.args.length:Int)=x.n
noncomputable instance(c:Cl)(x:Ce):Decidable (xP c x):=by unfold xP;infer_instance
noncomputable def cB(P:List Cl)(x:Ce):Nat->Nat->Nat|0,k=>k|n+1,k=>match P[k]? with|none=>k|some c=>if xP c x then k else cB P x n (k+1)
noncomputable def gy(P:List Cl)(n:Nat)(g:Gm):Nat->Nat->Mv->RM×Mv|0,_,m=>(.no,m)|j+1,k,m=>match P[k]? with|none=>(.no,m)|some c=>if ¬xP c (cellAt m.h.cells g.at_)then gy P n g j (k+1) m else let L:=gV m.h (aB c).cells;if L.2.2≠0 then(.off,m.put 4)else let u:=iB L.1 (L.2.1+(aB c).head) g.at_;if u.2.2≠0 then(.off,m.put 4)else if u.2.1=false then gy P n g j (k+1) m else(.next,{m with h:=u.1,choices:=if cB P (cellAt m.h.cells g.at_) (P.length - (k+1)) (k+1)<P.length then⟨n,cB P (cellAt m.h.cells g.at_) (P.length - (k+1)) (k+1),m.h.cells.length,m.h.trail.length⟩::m.choices else m.choices,goals:=(fe L.2.1 m.choices.length (aB c).goals m.goals g.next).1,now:=(fe L.2.1 m.choices.length (aB c).goals m.goals g.next).2})
def bV(m:Mv)(n:Nat):Gm:=(m.goals[n]?).getD default
noncomputable def lZ(P:List Cl):List Cm->Mv->RM×Mv|[],m=>(.off,{m with choices:=[]}.put 2)|c::cs,m=>match gy P c.goal (bV m c.goal) (P.length - c.from_) c.from_ {m with choices:=cs,h:=(rR (rQ m.h c.trail).1 c.top).1}with|(.no,m')=>lZ P cs m'|r=>r
noncomputable def pJ(g:Gm)(m:Mv):Option Bool×Mv:=let s:=(cellAt m.h.cells g.at_).s.toList;if s=[33]then(some true,{m with choices:=m.choices.drop (m.choices.length - min g.bar m.choices.length)})else if s=[116,114,117,101]then(some true,m)else if s=[102,97,105,108]then(some false,m)else if s=[101,113]then let u:=iB m.h (g.at_+1) (g.at_+2);if u.2.2≠0 then(none,m.put 4)else(some u.2.1,{m with h:=u.1})else let a:=cellAt m.h.cells (look m.h.cells (g.at_+1));let b:=cellAt m.h.cells (look m.h.cells (g.at_+2));if a.kind≠2\/b.kind≠2 then(none,m.put 5)else if s=[108,101,115,115]then(some (decide (a.n<b.n)),m)else if a.n+b.n>1099511627776\/a.n+b.n< -1099511627776 then(none,m.put 5)else let L:=gV m.h [⟨2,a.n+b.n,.empty⟩];if L.2.2≠0 then(none,m.put 4)else let u:=iB L.1 (g.at_+3) L.2.1;if u.2.2≠0 then(none,{m with h:=L.1}.put 4)else(some u.2.1,{m with h:=u.1})
def zb(x:Ce):Prop:=(Tm.mk 0 0 x.s (List.replicate x.n.toNat xE)).jL
noncomputable def mH(P:List Cl)(m:Mv):RM×Mv:=if m.fuel=0 then(.off,m.put 3)else let m:={m with fuel:=m.fuel - 1};let g:=bV m m.now.toNat;haveI :=Classical.propDecidable (zb (cellAt m.h.cells g.at_));if zb (cellAt m.h.cells g.at_)then match pJ g m with|(none,m')=>(.off,m')|(some true,m')=>(.next,{m' with now:=g.next})|(some false,m')=>lZ P m'.choices m' else if cB P (cellAt m.h.cells g.at_) P.length 0=P.length then(.off,m.put 5)else match gy P m.now.toNat g P.length 0 m with|(.no,m')=>lZ P m'.choices m'|r=>r
noncomputable def qy(h:Hp)(query:Int):Nat->Option (List Tm×Int)|0=>some ([],200)|v+1=>match qy h query v with|none=>none|some (l,left)=>if(dK h (query+(v:Nat)) left).2.2≠0 then none else some (l++[(dK h (query+(v:Nat)) left).1],left - (dK h (query+(v:Nat)) left).2.1)
noncomputable def uU(P:List Cl)(q:Nat)(m:Mv):RM×Mv:=match qy m.h m.query q with|none=>(.off,m.put 4)|some (l,_)=>let m:={m with out:=m.out++[⟨1,tidy l⟩]};if m.out.length≥12 then(.off,m.put 6)else lZ P m.choices m
def visitM(gs:List Gm):Nat->Int->List Nat->List Nat|0,_,ak=>ak|k+1,n,ak=>if n<0\/n.toNat∈ak then ak else visitM gs k ((gs[n.toNat]?).getD default).next (ak++[n.toNat])
def jH(m:Mv):List Int:=(m.choices.reverse.map λc=>(c.goal:Int))++[m.now]
def qz(gs:List Gm)(l:List Int):List Nat:=l.foldl (λak n=>visitM gs (gs.length+1) n ak) []
def jY(q:Nat)(m:Mv):List Int:=((List.range q).map λv=>m.query+(v:Nat))++(qz m.goals (jH m)).map λi=>(bV m i).at_
noncomputable def ze(q:Nat)(m:Mv):Mv:=let c:=oo m.h (jY q m) (m.choices.reverse.map λc=>(c.top:Int)) (m.choices.reverse.map λc=>(c.trail:Int));if c.err≠0 then m else{m with h:=c.heap,query:=if q>0 then(c.roots[0]?).getD 0 else m.query,goals:=m.goals.mapIdx λi g=>if i∈qz m.goals (jH m)then{g with at_:=(c.roots[q+(qz m.goals (jH m)).idxOf i]?).getD 0}else g,choices:=(m.choices.reverse.mapIdx λi x=>{x with top:=((c.eB[i]?).getD 0).toNat,trail:=((c.eD[i]?).getD 0).toNat}).reverse}
noncomputable def runM(P:List Cl)(q:Nat)(fuel every:Int):Nat->Mv->Mv|0,m=>m|n+1,m=>if m.now<0 then match uU P q m with|(.next,m')=>runM P q fuel every n m'|(_,m')=>m' else match mH P (if every>0/\(fuel - m.fuel)%every=0 then ze q m else m)with|(.next,m')=>runM P q fuel every n m'|(_,m')=>m'
noncomputable def zg(Q:List Tm)(vars:Int)(fuel:Nat):Mv:=let b:=bI Q vars;let L:=gV ⟨[],[]⟩ b.cells;{h:=L.1,goals:=(fe L.2.1 0 b.goals [] (-1)).1,choices:=[],now:=(fe L.2.1 0 b.goals [] (-1)).2,query:=L.2.1,fuel:=fuel,out:=[]}
def YU(E:Env):∀(w:Nat)(s r:List Tm),bU E w (s++r)=match bU E w s with|none=>none|some (ts,w1)=>match bU E w1 r with|none=>none|some (rs,w2)=>some (ts++rs,w2):=by intro w;induction w using Nat.strongRecOn with|_ w ih=>intro s r;match w,s,ih with
 |w,[],_=>rw[yK,Ap];simp only[Ap];cases bU E w r with|none=>rfl|some p=>rfl
 |0,a::s,_=>rw[oO,GA,GA]
 |w+1,a::s,ih=>rw[oO,bU.eq_def E (w+1) (a::(s++r)),bU.eq_def E (w+1) (a::s)];simp only;cases h1:bU E w (ai E a).args with|none=>rfl|some p=>obtain⟨Gr,w1⟩:=p;simp only;rw[ih (min w w1) zB s r];cases h2:bU E (min w w1) s with|none=>rfl|some p=>obtain⟨ts2,w2⟩:=p;simp only;cases h3:bU E w2 r with|none=>rfl|some p=>rfl
def aqY(E:Env)(k:Nat)(z:Tm):bU E (k+1) [z]=match bU E k (ai E z).args with|none=>none|some (ts,w1)=>some ([.mk (ai E z).kind (ai E z).n (ai E z).s ts],w1):=by rw[bU];cases h1:bU E k (ai E z).args with|none=>rfl|some p=>obtain⟨Gr,w1⟩:=p;have :=(JA E k _ _ _ h1).1;simp only[yK,F9 this]
def agK(E:Env)(w:Nat)(s r:List Tm)(h:bU E w s=none):bU E w (s++r)=none:=by rw[YU,h]
theorem agL(E:Env)(k:Nat)(l:List Tm)(j:Nat)(hj:j<l.length)(ts:List Tm)(m:Nat)(h:bU E k (l.take j)=some (ts,m)):bU E k (l.take (j+1))=match bU E m [l[j]]with|none=>none|some (rs,w2)=>some (ts++rs,w2):=by rw[iq hj,YU,h]
def aqZ(l:List Ce)(φ:Int->Int):Option (List Tm×Nat)->Option (List Tm×Nat)->Prop|none,none=>True|some (xs,w1),some (ys,w2)=>w1=w2/\ys=xs.map (Tm.ren φ)/\∀x∈xs,x.Vars (iI l)|_,_=>False
section
variable {l : List Ce} {φ : Int → Int} {E : Env} {N : Int}
def aq0(hE:cu N E):∀(w:Nat)(s:List Int)(ts:List Tm),iU l φ E (λ_=>True) s ts->(∀t∈ts,t.In N)->aqZ l φ (eO l w s) (bU E w ts):=by
 intro w;induction w using Nat.strongRecOn with
  |_ w ih=>
   intro s ts hH hI;match w,s,ts,ih,hH,hI with
    |w,[],[],_,_,_=>rw[Cj,yK];exact⟨rfl,rfl,zh⟩
    |w,[],_::_,_,h,_=>exact h.elim
    |w,_::_,[],_,h,_=>exact h.elim
    |0,a::s,t::ts,_,_,_=>rw[ML,GA];trivial
    |w+1,a::s,t::ts,ih,⟨ha,hr⟩,hI=>
     have EH:∀t∈ts,t.In N:=λx hx=>hI x (by simp[hx]);have hi:=oZ hE (hI t zh);rw[eO,bU];cases ha with
      |@var _ x _ k1 k2 k3 k4 k5=>
       have hx0:=k1.oV;rw[jw k1,O zB,O (by rw[k2];decide)];have hz:ai E t= .mk 0 (φ x) .empty []:=by rw[<-k5];generalize ai E t=z at hi k4;cases hi with|var=>rfl|atom=>cases k4|int=>cases k4|comp=>cases k4
       rw[hz];simp only[Tm.args,yK,Nat.min_self];have :=ih w zB s ts hr EH;revert this;cases eO l w s with
        |none=>cases bU E w ts with|none=>intro _;trivial|some p=>intro h;exact h.elim
        |some p=>
         obtain⟨xs,w1⟩:=p;cases bU E w ts with
          |none=>intro h;exact h.elim
          |some q=>
           obtain⟨ys,w2⟩:=q;rintro⟨e1,e2,e3⟩;simp only[k2,if_true];refine⟨e1,by rw[e2];rfl,λy hy=>?_⟩;rcases jr.1 hy with rfl|hy;·exact .mk _ _ _ _ (λ_=>k1.free k2) zh
           ·exact e3 y hy
      |@leaf _ x _ k1 k2 k3 k4 k5 k6 k7=>
       have hx0:=k1.oV;have hk0:(cellAt l x).kind≠0:=by rw[k2];exact k3
       rw[jw k1,O zB,O (by rw[k2];exact k4),k7];simp only[yK,Nat.min_self];have :=ih w zB s ts hr EH;revert this;cases eO l w s with
        |none=>cases bU E w ts with|none=>intro _;trivial|some p=>intro h;exact h.elim
        |some p=>
         obtain⟨xs,w1⟩:=p;cases bU E w ts with
          |none=>intro h;exact h.elim
          |some q=>
           obtain⟨ys,w2⟩:=q;rintro⟨e1,e2,e3⟩;simp only[hk0,if_false];refine⟨e1,?_,λy hy=>?_⟩;·rw[e2,sH,k2,k5,k6];simp only[Tm.ren,Tm.uE,k3,if_false]
           ·rcases jr.1 hy with rfl|hy;·exact .mk _ _ _ _ (λh=>absurd h hk0) zh
            ·exact e3 y hy
      |@comp _ x _ k1 k2 k3 k4 k5 k6 k7=>
       have hx0:=k1.oV;rw[jw k1,O zB,G k2];have ha:=ih w zB _ _ ((NJ k5).2 k7) (λy hy=>hi.arg hy);revert ha;cases eO l w (argsAt x (cellAt l x).n)with
        |none=>cases bU E w (ai E t).args with|none=>intro _;trivial|some p=>intro h;exact h.elim
        |some p=>
         obtain⟨xs,w1⟩:=p;cases bU E w (ai E t).args with
          |none=>intro h;exact h.elim
          |some q=>
           obtain⟨ys,w2⟩:=q;rintro⟨rfl,e2,e3⟩;simp only;have :=ih (min w w1) zB s ts hr EH;revert this;cases eO l (min w w1) s with
            |none=>cases bU E (min w w1) ts with|none=>intro _;trivial|some p=>intro h;exact h.elim
            |some p=>
             obtain⟨xs',w1'⟩:=p;cases bU E (min w w1) ts with
              |none=>intro h;exact h.elim
              |some q=>
               obtain⟨ys',w2'⟩:=q;rintro⟨d1,d2,d3⟩;refine⟨d1,?_,λy hy=>?_⟩;·rw[d2,sH,k3,k4,k6,e2];simp[Tm.ren,Tm.Jl]
               ·rcases jr.1 hy with rfl|hy;·exact .mk _ _ _ _ (λh=>absurd h af) e3
                ·exact d3 y hy
def aq1(hM:Mon N l φ E){xs ys:List Tm}(h:ys=xs.map (Tm.ren φ))(hv:∀x∈xs,x.Vars (iI l)):tidy ys=tidy xs:=by rw[h];exact aoC (λa b ha hb e=>hM.inj ha hb e) xs hv
end
structure mI (N : Int) (l : List Ce) (φ : Int → Int) (E : Env) (a : Int) (t : Tm) : Prop where
  jW : Inb l a
  cell : cellAt l a = ⟨t.kind, (t.args.length : Int), t.s⟩
  goal : t.ky
  Bc : t.In N
  tells : Hr l φ E (fun _ => True) a t
def pK(N:Int)(l:List Ce)(φ:Int->Int)(E:Env)(gs:List Gm):Int->List Gl->Prop|n,[]=>n= -1|n,g::r=>∃k:Nat,n=(k:Int)/\k<gs.length/\((gs[k]?).getD default).bar=g.bar/\mI N l φ E ((gs[k]?).getD default).at_ g.t/\((gs[k]?).getD default).next<n/\pK N l φ E gs ((gs[k]?).getD default).next r
def pK.ge{N:Int}{l:List Ce}{φ:Int->Int}{E:Env}{gs:List Gm}{n:Int}{gl:List Gl}(h:pK N l φ E gs n gl): -1<=n/\n<gs.length:=by cases gl with|nil=>have :n= -1:=h;omega|cons g r=>obtain⟨k,h1,h2,_⟩:=h;omega
def pK.imp{N N':Int}{l l':List Ce}{φ φ':Int->Int}{E E':Env}{gs gs':List Gm}(hgs:∀k,k<gs.length->gs'[k]?=gs[k]?)(hlen:gs.length<=gs'.length)(hG:∀a t,mI N l φ E a t->mI N' l' φ' E' a t):∀{gl:List Gl}{n:Int},pK N l φ E gs n gl->pK N' l' φ' E' gs' n gl|[],n,h=>h|g::r,n,⟨k,h1,h2,h3,h4,h5,h6⟩=>by refine⟨k,h1,zB,?_⟩;rw[hgs k h2];exact⟨h3,hG _ _ h4,h5,pK.imp hgs hlen hG h6⟩
def Kl(N:Int)(l:List Ce)(E:Env)(q:Nat)(query:Int)(gs:List Gm)(n:Int)(gl:List Gl):Prop:=∃φ,Mon N l φ E/\(∀v:Nat,v<q->Inb l (query+(v:Nat))/\Hr l φ E (λ_=>True) (query+(v:Nat)) (fK (v:Nat)))/\pK N l φ E gs n gl
def Mon.mono{N N':Int}{l:List Ce}{φ:Int->Int}{E:Env}(h:Mon N l φ E)(hN:N<=N'):Mon N' l φ E:=⟨h.lt,λx hx=>by have :=h.bd x hx;omega,h.free⟩
def Kl.mono{N N':Int}{l:List Ce}{E:Env}{q:Nat}{query:Int}{gs gs':List Gm}{n:Int}{gl:List Gl}(h:Kl N l E q query gs n gl)(hN:N<=N')(hgs:∀k,k<gs.length->gs'[k]?=gs[k]?)(hlen:gs.length<=gs'.length):Kl N' l E q query gs' n gl:=by obtain⟨φ,h1,h2,h3⟩:=h;exact⟨φ,h1.mono hN,h2,h3.imp hgs hlen λ_ _ h=>⟨h.jW,h.cell,h.goal,h.Bc.mono hN,h.tells⟩⟩
structure Dc (h : Hp) (E : Env) (N : Int) (q : Nat) (query : Int) (gs : List Gm) (c : Cm) (d : jN) : Prop where
  from_ : c.from_ = d.at_
  top : c.top ≤ h.cells.length
  tr : c.trail ≤ h.trail.length
  YV : c.trail ≤ d.trail
  Bd : d.trail ≤ E.length
  good : (eF h c.top c.trail).Good
  snap : Kl N (eF h c.top c.trail).cells (E.take d.trail) q query gs (c.goal : Int) d.g
def l6(h:Hp)(E:Env)(N:Int)(q:Nat)(query:Int)(gs:List Gm):List Cm->List jN->Prop|[],[]=>True|c::cs,d::ds=>Dc h E N q query gs c d/\(∀x∈cs,x.top<=c.top/\x.trail<=c.trail)/\l6 h E N q query gs cs ds|_,_=>False
section
variable {h h' : Hp} {E E' : Env} {N N' : Int} {q : Nat} {query : Int} {gs gs' : List Gm}
def l6.len:∀{cs:List Cm}{ds:List jN},l6 h E N q query gs cs ds->cs.length=ds.length|[],[],_=>rfl|c::cs,d::ds,h=>by simp[l6.len h.2.2]|[],_::_,h=>h.elim|_::_,[],h=>h.elim
def l6.drop:∀{cs:List Cm}{ds:List jN}(k:Nat),l6 h E N q query gs cs ds->l6 h E N q query gs (cs.drop k) (ds.drop k)|cs,ds,0,h=>h|[],[],k+1,h=>by simp[l6]|c::cs,d::ds,k+1,h=>l6.drop k h.2.2|[],_::_,_+1,h=>h.elim|_::_,[],_+1,h=>h.elim
def l6.mem:∀{cs:List Cm}{ds:List jN},l6 h E N q query gs cs ds->∀c∈cs,∃d∈ds,Dc h E N q query gs c d
 |[],[],_,c,hc=>by cases hc
 |c::cs,d::ds,h,x,hx=>by
  rcases jr.1 hx with rfl|hx;·exact⟨d,zh,h.1⟩
  ·obtain⟨e,he,h3⟩:=l6.mem h.2.2 x hx;exact⟨e,by simp[he],h3⟩
 |[],_::_,h,_,_=>h.elim
 |_::_,[],h,_,_=>h.elim
def l6.imp:∀{cs:List Cm}{ds:List jN},(∀c d,c∈cs->d∈ds->Dc h E N q query gs c d->Dc h' E' N' q query gs' c d)->l6 h E N q query gs cs ds->l6 h' E' N' q query gs' cs ds|[],[],_,_=>trivial|c::cs,d::ds,k,h=>⟨k c d zh zh h.1,h.2.1,l6.imp (λc d hc hd=>k c d (by simp[hc]) (by simp[hd])) h.2.2⟩|[],_::_,_,h=>h.elim|_::_,[],_,h=>h.elim
def Dc.move{c:Cm}{d:jN}(k:Dc h E N q query gs c d)(ho:eF h' c.top c.trail=eF h c.top c.trail)(h1:c.top<=h'.cells.length)(h2:c.trail<=h'.trail.length)(hE:E'.take d.trail=E.take d.trail)(h3:d.trail<=E'.length)(hN:N<=N')(hgs:∀k,k<gs.length->gs'[k]?=gs[k]?)(hlen:gs.length<=gs'.length):Dc h' E' N' q query gs' c d:=⟨k.from_,h1,h2,k.YV,h3,by rw[ho];exact k.good,by rw[ho,hE];exact k.snap.mono hN hgs hlen⟩
def Og{l:List Ce}{vs:List Int}{i:Nat}:(iP l vs)[i]?=(l[i]?).map λc=>if(i:Int)∈vs then{c with n:=(i:Int)}else c:=by unfold iP;rw[List.getElem?_mapIdx]
def agM{top tr SV De:Nat}(h1:SV<=top)(h2:De<=tr):eF (eF h top tr) SV De=eF h SV De:=by
 unfold eF;simp only[Hp.mk.injEq];refine⟨?_,by rw[Wz,Je h2]⟩;apply anb;intro i;by_cases hi:i<SV
 ·rw[rz hi,rz hi,Og,Og,rz zB,Og];cases h.cells[i]? with
   |none=>rfl
   |some c=>
    simp only[pW,bW];have hm:(i:Int)∈h.trail.drop De↔(i:Int)∈(h.trail.take tr).drop De\/(i:Int)∈h.trail.drop tr:=by
     have e:h.trail.drop De=(h.trail.take tr).drop De++h.trail.drop tr:=by
      conv=>lhs;rw[<-Aj tr h.trail]
      rw[List.drop_append];by_cases hl:tr<=h.trail.length;·rw[show De - (List.take tr h.trail).length=0 by rw[dX];omega];rfl
      ·rw[show h.trail.drop tr=[]from List.drop_eq_nil_of_le zB,List.drop_nil]
     rw[e,iw]
    by_cases a1:(i:Int)∈(h.trail.take tr).drop De;·rw[G a1,G (hm.2 (.inl a1))];split<;>rfl
    ·by_cases a2:(i:Int)∈h.trail.drop tr;·rw[O a1,G a2,G (hm.2 (.inr a2))]
     ·rw[O a1,O a2,O (λk=>(hm.1 k).elim a1 a2)]
 ·rw[Jc (by rw[dX];omega),Jc (by rw[dX];omega)]
def YW{F:List Ce}{u:List Ce}{vs:List Int}(hB:rG (h.cells++F) vs u){top tr:Nat}(h1:top<=h.cells.length)(h2:tr<=h.trail.length):eF ⟨u,h.trail++vs⟩ top tr=eF h top tr:=by
 unfold eF;simp only[Hp.mk.injEq];refine⟨?_,by rw[adv h2]⟩;apply anb;intro i;by_cases hi:i<top
 ·rw[rz hi,rz hi,Og,Og,List.drop_append_of_le_length h2];have hil:i<(h.cells++F).length:=by simp;omega
  have hiu:i<u.length:=by rw[hB.1];exact hil
  have hih:i<h.cells.length:=zB;rw[aJ hiu,aJ hih];simp only[pW,bW];have hg:(h.cells++F)[i]=h.cells[i]:=F7 hih;rcases hB.2 i hil hiu with⟨k1,k2⟩|⟨k1,k2,k3,n,k4,k5,k6⟩
  ·rw[k2,hg];by_cases a1:(i:Int)∈h.trail.drop tr;·rw[G (amW _ a1),G a1]
   ·rw[O (λk=>(iw.1 k).elim a1 k1),O a1]
  ·rw[G (List.mem_append_right _ k1),k6];rw[hg]at k3 ⊢;have :({h.cells[i]with n:=(i:Int)}:Ce)=h.cells[i]:=by cases hc:h.cells[i];rw[hc]at k3;simp only at k3;rw[k3]
   rw[this];split<;>rfl
 ·rw[Jc (by rw[dX];omega),Jc (by rw[dX];omega)]
def agN(h:Hp):eF h h.cells.length h.trail.length=h:=by unfold eF;rw[ang,aef,nQ,nQ]
end
def oC(fuel:Nat)(out:List Ev):Nat:=300*(fuel+(12 - out.length))
def Df(fuel:Nat)(out:List Ev):Nat:=5*(fuel+(12 - out.length))
structure Dh (q : Nat) (m : Mv) (s : Sv) (gl : List Gl) : Prop where
  good : m.h.Good
  fuel : m.fuel = s.fuel
  out : m.out = s.out
  tr : m.h.trail.length ≤ s.env.length
  cur : Kl s.vars m.h.cells s.env q m.query m.goals m.now gl
  bC : l6 m.h s.env s.vars q m.query m.goals m.choices s.choices
  jD : m.h.cells.length + oC m.fuel m.out ≤ 60000
  oD : ∀ c ∈ m.choices, c.top + 300 + oC m.fuel m.out ≤ 60000
  ni : m.goals.length + Df m.fuel m.out ≤ 5000
structure uV (P : List Cl) (q : Nat) (m : Mv) (s : Sv) (gl : List Gl) : Prop where
  ok : fZ P s
  AB : pg s.vars gl
  pM : Dh q m s gl
structure Oh (P : List Cl) (q : Nat) (m : Mv) (s : Sv) (cs : List Cm) (ds : List jN) : Prop where
  ok : fZ P { s with choices := ds }
  good : m.h.Good
  fuel : m.fuel = s.fuel
  out : m.out = s.out
  bC : l6 m.h s.env s.vars q m.query m.goals cs ds
  oD : ∀ c ∈ cs, c.top + 300 + oC m.fuel m.out ≤ 60000
  ni : m.goals.length + 5 + Df m.fuel m.out ≤ 5000
def Both(q:Nat):RM×Mv->vP×Sv->Prop|(.next,m),(.next gl,s)=>Dh q m s gl|(.no,_),(.no,_)=>True|(.off,m),(.off,s)=>m.out=s.out|_,_=>False
def agO{N:Int}{l:List Ce}{φ:Int->Int}{E:Env}{a:Int}{t:Tm}(h:mI N l φ E a t)(c:Cl):xP c (cellAt l a)↔jB c.head t:=by unfold xP jB;rw[h.cell];simp only;exact⟨λ⟨h1,h2⟩=>⟨h1,zB⟩,λ⟨h1,h2⟩=>⟨h1,zB⟩⟩
def YX{N:Int}{l:List Ce}{φ:Int->Int}{E:Env}{a:Int}{t:Tm}(h:mI N l φ E a t)(P:List Cl):∀(n k:Nat),cB P (cellAt l a) n k=jT P t n k|0,k=>rfl|n+1,k=>by rw[cB,jT,YX h P n (k+1)];cases P[k]? with|none=>rfl|some c=>simp only[agO h]
def agP{N:Int}{E:Env}(h:cu N E)(hN:0<=N):(E.length:Int)<=N:=by obtain⟨n,rfl⟩:=dH hN;have :=WW n (E.map (·.1)) h.nodup (λx hx=>by obtain⟨p,hp,rfl⟩:=iZ.1 hx;exact h.key p hp);rw[nR]at this;omega
def SX{h:Hp}{F:List Ce}(hg:h.Good)(hF:iH F)(hl:h.cells.length+F.length<=65536):gV h F=(⟨h.cells++F.map (dn h.cells.length),h.trail⟩,(h.cells.length:Int),0):=by rw[gV,O (dY ⟨hg,hF,λj hj=>by simp at hj,by simp only;omega,zh⟩),O zB]
def agQ{h:Hp}{a b:Int}(hg:h.Good)(ha:Inb h.cells a)(hb:Inb h.cells b):iB h a b=if(aU 400 [(a,b)] h.cells h.trail).work<0 then(h,false,3)else if(aU 400 [(a,b)] h.cells h.trail).ok=false then(h,false,0)else if 65536<(aU 400 [(a,b)] h.cells h.trail).trail.length then(h,false,3)else(⟨(aU 400 [(a,b)] h.cells h.trail).cells,(aU 400 [(a,b)] h.cells h.trail).trail⟩,true,0):=by rw[iB,O (dY hg),O (dY ⟨ha,hb⟩)]
def agR{l l':List Ce}{vs:List Int}(hB:rG l vs l'){a:Int}(ha:Inb l a)(hk:(cellAt l a).kind≠0):cellAt l' a=cellAt l a/\Inb l' a:=by
 obtain⟨k,rfl,hkl,e⟩:=pX ha;have hkl':k<l'.length:=by rw[hB.1];exact hkl
 rw[e]at hk ⊢;rw[jR hkl'];rcases hB.2 k hkl hkl' with⟨_,k2⟩|⟨_,k2,_⟩;·exact⟨k2,zN _,zB⟩
 ·exact absurd k2 hk
def agS{l l':List Ce}{t vs:List Int}(hg:Hp.Good ⟨l,t⟩)(h2:rG l vs l')(h3:∀v∈vs,Inb l v)(htl:(t++vs).length<=65536):Hp.Good ⟨l',t++vs⟩:=by
 refine⟨h2.good hg.1,λj hj=>?_,by rw[h2.1];exact hg.2.2.1,htl⟩;simp only at hj;by_cases hlt:j<t.length;·obtain⟨v,e1,e2,e3⟩:=hg.2.1 j hlt;refine⟨v,by simp only;rw[F7 hlt];exact e1,by rw[h2.1];exact e2,?_⟩;rw[h2.kind v e2 (by rw[h2.1];exact e2)];exact e3
 ·have hj':j - t.length<vs.length:=by simp only[bB]at hj;omega
  obtain⟨k1,k2⟩:=h3 vs[j - t.length] (bN _);obtain⟨v,hv⟩:=dH k1;have hvl:v<l.length:=zB;refine⟨v,by simp only;rw[Ja zB];exact hv,by rw[h2.1];exact hvl,?_⟩;rcases h2.2 v hvl (by rw[h2.1];exact hvl)with⟨k3,_⟩|⟨_,k4,_,n,_,_,k5⟩;·exact absurd (hv▸bN _) k3
  ·rw[k5];exact k4
def ky.ne{t:Tm}(h:t.ky):t.kind≠0:=by rcases h with h|h<;>rw[h]<;>decide
def mI.kind{N:Int}{l:List Ce}{φ:Int->Int}{E:Env}{a:Int}{t:Tm}(h:mI N l φ E a t):(cellAt l a).kind≠0:=by rw[h.cell];exact ky.ne h.goal
def mI.move{N N':Int}{l l':List Ce}{φ φ':Int->Int}{E E':Env}{a:Int}{t:Tm}(h:mI N l φ E a t)(hN:N<=N')(hc:cellAt l' a=cellAt l a)(hi:Inb l' a)(hr:Hr l' φ' E' (λ_=>True) a t):mI N' l' φ' E' a t:=⟨hi,hc.trans h.cell,h.goal,h.Bc.mono hN,hr⟩
def YY{N:Int}{l:List Ce}{φ:Int->Int}{E:Env}{base:Int}{bar:Nat}{gs0:List Gm}{nx:Int}{rest:List Gl}(hch:pK N l φ E gs0 nx rest):∀(xs:List Int)(ts:List Tm),xs.length=ts.length->(∀(j:Nat)(hj:j<ts.length),∃a,xs[j]?=some a/\mI N l φ E (base+a) ts[j])->pK N l φ E (fe base bar xs gs0 nx).1 (fe base bar xs gs0 nx).2 ((ts.map λt=>(⟨t,bar⟩:Gl))++rest)/\gs0.length<=(fe base bar xs gs0 nx).1.length/\∀k,k<gs0.length->(fe base bar xs gs0 nx).1[k]?=gs0[k]?|[],[],_,_=>⟨hch,zL _,λ_ _=>rfl⟩|a::xs,t::ts,hl,h=>by obtain⟨k1,k2,k3⟩:=YY hch xs ts (by simpa using hl) (λj hj=>by obtain⟨a',e1,e2⟩:=h (j+1) (by simp;omega);exact⟨a',by simpa using e1,by simpa using e2⟩);rw[fe];generalize fe base bar xs gs0 nx=p at k1 k2 k3 ⊢;obtain⟨a',e1,e2⟩:=h 0 zh;simp only[yx,bW,BV]at e1 e2;subst e1;have hge:=k1.ge;refine⟨⟨p.1.length,rfl,zh,?_⟩,by simp;omega,λk hk=>by rw[vG zB];exact k3 k hk⟩;simp only[List.getElem?_concat_length,rC];refine⟨trivial,e2,hge.2,k1.imp (λk hk=>vG hk) zh λ_ _ h=>h⟩|[],_::_,hl,_=>by simp at hl|_::_,[],hl,_=>by simp at hl
def Oi{base:Int}{bar:Nat}{gs0:List Gm}{nx:Int}:∀(xs:List Int),(fe base bar xs gs0 nx).1.length=gs0.length+xs.length|[]=>rfl|a::xs=>by rw[fe];simp only[bB,bn,fT,Oi xs];omega
def agT(t:Tm)(d:Int)(hk:t.kind≠0):(fG t d).kind=t.kind/\(fG t d).args.length=t.args.length/\(fG t d).s=t.s:=by obtain⟨k,n,s,l⟩:=t;simp[fG,Tm.ren,Tm.Jl,Tm.kind,Tm.args,Tm.s]
def aq2{t:Tm}{d:Int}(h:t.ky):(fG t d).ky:=by unfold Tm.ky at h ⊢;rw[(agT t d (ky.ne h)).1];exact h
structure Ic (q : Nat) (m : Mv) (s : Sv) (n : Nat) (g : Gl) (rest : List Gl) : Prop where
  good : m.h.Good
  env : cu s.vars s.env
  v0 : 0 ≤ s.vars
  v1 : s.vars ≤ 40000
  qv : (q : Int) ≤ s.vars
  gt : g.t.In s.vars
  fuel : m.fuel = s.fuel
  out : m.out = s.out
  tr : m.h.trail.length ≤ s.env.length
  cur : Kl s.vars m.h.cells s.env q m.query m.goals (n : Int) (g :: rest)
  bC : l6 m.h s.env s.vars q m.query m.goals m.choices s.choices
  jD : m.h.cells.length + 300 + oC m.fuel m.out ≤ 60000
  oD : ∀ c ∈ m.choices, c.top + 300 + oC m.fuel m.out ≤ 60000
  ni : m.goals.length + 5 + Df m.fuel m.out ≤ 5000
def YZ{P:List Cl}{q:Nat}{m:Mv}{s:Sv}{n:Nat}{g:Gl}{rest:List Gl}(hP:fV P)(C:Ic q m s n g rest):∀(j k:Nat),j=P.length - k->Both q (gy P n (bV m n) j k m) (fC P g rest j k s)
 |0,k,_=>by rw[gy,fC];trivial
 |j+1,k,hj=>by
  have ih:=YZ hP C j (k+1) zB;have hkl:k<P.length:=zB;rw[gy,fC,aJ hkl];simp only;obtain⟨φ,hM,hq,kk,e1,hlt,tO,hga,hnx,hch⟩:=C.cur;have e2:kk=n:=zB;subst e2;have hgm:bV m kk=(m.goals[kk]?).getD default:=rfl;rw[<-hgm]at tO hga hnx hch;generalize bV m kk=gm at*;have hls:=agO hga P[k];by_cases SY:jB (P[k]).head g.t
  ·have hlm:=hls.2 SY;rw[O (dY hlm),O (dY SY)];have hnext:cB P (cellAt m.h.cells gm.at_) (P.length - (k+1)) (k+1)=jT P g.t (P.length - (k+1)) (k+1):=YX hga P _ _;rw[hnext];have hcg:(P[k]).Good:=hP.2 _ (bN hkl);generalize P[k]=c at*;obtain⟨head,body,vars⟩:=c;obtain⟨v,rfl⟩:=dH (show 0<=vars from hcg.1.1);obtain⟨F,hF⟩:∃F,F=(aK (aV (aD v) head) body).1:=⟨_,rfl⟩;obtain⟨b1,b2,b3,b4⟩:=agA hcg F hF;have hcells:(aB ⟨head,body,(v:Int)⟩).cells=F:=by rw[hF];simp[aB]
   have Ie:(aB ⟨head,body,(v:Int)⟩).goals=(aK (aV (aD v) head) body).2:=by simp[aB]
   have hhd:(aB ⟨head,body,(v:Int)⟩).head=(v:Int):=by simp[aB]
   have hbody:∀t∈body,t.ky/\t.Good (v:Int):=λt ht=>⟨(hcg.1.2.2.2 t ht).1,(hcg.1.2.2.2 t ht).2.1⟩;have H8:(v:Int)<=8:=hcg.1.2.1;obtain⟨n1,n2⟩:=YO v head (aD v) hcg.2.2.1.1 hcg.2.1 (YP v) (by rw[lY];exact zL _);have n3:=SI v body (aV (aD v) head) hbody n1 (by have :=SH head (aD v);rw[lY]at this;omega);rw[<-hF]at n3;obtain⟨n3,n4⟩:=n3;have hlen:m.h.cells.length+F.length<=65536:=by have :=C.jD;omega
   have hld:=SX C.good b2 hlen;have hg1:=YM C.good b2 hlen;rw[hcells,Ie,hhd,hld];simp only[ne_eq,QS,if_false];have hM1:=YQ hM C.env C.v0 n3;have hE1:cu (s.vars+(v:Int)) s.env:=C.env.mono zB;have hφ:∀n:Int,0<=n->n<(v:Int)->mG m.h.cells s.vars φ (n+(m.h.cells.length:Int))=s.vars+n:=λn h0 h1=>by unfold mG;rw[O zB];omega
   have tell:∀(t:Tm)(a:Int),t.Good (v:Int)->Laid F id a t->Hr (m.h.cells++F.map (dn m.h.cells.length)) (mG m.h.cells s.vars φ) s.env (λ_=>True) ((m.h.cells.length:Int)+a) (fG t s.vars):=λt a ht ha=>by have :=agB (v:=(v:Int)) C.env C.v0 (by have :=C.v1;omega) H8 hφ t _ ht (ags (H:=m.h.cells) t a ha);rwa[Mi]at this
   have hhead:=tell head (v:Int) hcg.2.2.1.1 b3;have aq3:Hr (m.h.cells++F.map (dn m.h.cells.length)) (mG m.h.cells s.vars φ) s.env (λ_=>True) gm.at_ g.t:=SL C.good.1 hga.jW hga.tells;have Km:Inb (m.h.cells++F.map (dn m.h.cells.length)) ((m.h.cells.length:Int)+(v:Int)):=by obtain⟨x,hx⟩:=hhead.looks;exact hx.start
   have aq4:Inb (m.h.cells++F.map (dn m.h.cells.length)) gm.at_:=(H7 hga.jW).2;rw[agQ hg1 Km aq4];have hIs:∀p∈[(fG head s.vars,g.t)],p.1.In (s.vars+(v:Int))/\p.2.In (s.vars+(v:Int)):=by intro p hp;simp only[iX]at hp;subst hp;exact⟨Na hcg.2.2.1.1 H8 C.v0 (by have :=C.v1;omega),C.gt.mono zB⟩
   have aEY:=afY (N:=s.vars+(v:Int)) 400 [((m.h.cells.length:Int)+(v:Int),gm.at_)] [(fG head s.vars,g.t)] (m.h.cells++F.map (dn m.h.cells.length)) s.env m.h.trail hE1 hM1 ⟨⟨hhead,aq3⟩,trivial⟩ hIs;have Kn:=Es (N:=s.vars+(v:Int)) 400 [(fG head s.vars,g.t)] s.env hE1 hIs;have Ko:=Re 400 [((m.h.cells.length:Int)+(v:Int),gm.at_)] (m.h.cells++F.map (dn m.h.cells.length)) m.h.trail;simp only at Ko ⊢;generalize aU 400 [((m.h.cells.length:Int)+(v:Int),gm.at_)] (m.h.cells++F.map (dn m.h.cells.length)) m.h.trail=u at aEY Ko ⊢;generalize aO 400 [(fG head s.vars,g.t)] s.env=u' at aEY Kn ⊢;by_cases hw:u'.work<0;·rw[G (show u.work<0 by rw[aEY.work];exact hw),G hw];simp only[ne_eq,show ¬((3:Int)=0)by decide,not_false_eq_true,if_true];show m.out++_=s.out++_;rw[C.out]
   rw[O (show ¬u.work<0 by rw[aEY.work];exact hw),O hw];by_cases hok:u'.ok=false;·rw[G (show u.ok=false by rw[aEY.ok];exact hok),G hok];simp only[QS,if_false,if_true];exact ih
   have hok':u.ok=true:=by rw[aEY.ok];simpa using hok
   rw[O (show ¬u.ok=false by rw[hok'];decide),O hok];obtain⟨vs,t1,t2,t3⟩:=aEY.trail hok';obtain⟨vs',t1',hB, -, -⟩:=Ko hok';have hvs:vs'=vs:=List.append_cancel_left (t1'.symm.trans t1);subst hvs;have hel:=agP Kn.1 (by have :=C.v0;omega);have htl:u.trail.length<=65536:=by rw[t1,bB];have :=C.tr;have :=C.v1;omega
   rw[O (show ¬65536<u.trail.length by omega)];simp only[ne_eq,QS,if_false,Bool.true_eq_false];have agU:∀a,Inb (m.h.cells++F.map (dn m.h.cells.length)) a->(cellAt (m.h.cells++F.map (dn m.h.cells.length)) a).kind≠0->cellAt u.cells a=cellAt (m.h.cells++F.map (dn m.h.cells.length)) a/\Inb u.cells a:=λa ha hk=>agR hB ha hk;have aq5:∀a t,mI s.vars m.h.cells φ s.env a t->mI (s.vars+(v:Int)) u.cells (mG m.h.cells s.vars φ) u'.env a t:=λa t h=>by have hl:=H7 (F:=F) h.jW;obtain⟨k1,k2⟩:=agU a hl.2 (by rw[hl.1];exact h.kind);exact h.move zB (k1.trans hl.1) k2 (aEY.tells hok' a t (h.Bc.mono zB) (SL C.good.1 h.jW h.tells))
   have aq6:∀(j:Nat)(hj:j<(body.map λt=>fG t s.vars).length),∃a,(aK (aV (aD v) head) body).2[j]?=some a/\mI (s.vars+(v:Int)) u.cells (mG m.h.cells s.vars φ) u'.env ((m.h.cells.length:Int)+a) (body.map λt=>fG t s.vars)[j]:=λj hj=>by
    have hj':j<body.length:=by simpa using hj
    obtain⟨a,e1,e2⟩:=n4 j hj';obtain⟨a',f1,f2⟩:=b4 j hj';rw[e1]at f1;obtain rfl:=adM f1;have hbj:=hbody _ (bN hj');have hkne:=ky.ne hbj.1;obtain⟨c1,c2⟩:=y7 e2;obtain⟨d1,d2⟩:=ES (H:=m.h.cells) c2;rw[c1,C9 _ (by simpa using hkne),Mi]at d1;rw[Mi]at d2;obtain⟨k1,k2⟩:=agU _ d2 (by rw[d1];simpa using hkne);have hin:=Na (d:=s.vars) hbj.2 H8 C.v0 (by have :=C.v1;omega);obtain⟨p1,p2,p3⟩:=agT body[j] s.vars hkne;refine⟨(a:Int),e1,?_⟩;rw[QT];exact⟨k2,by rw[k1,d1,p1,p2,p3],aq2 hbj.1,hin,aEY.tells hok' _ _ hin (tell _ _ hbj.2 f2)⟩
   have hrest:pK (s.vars+(v:Int)) u.cells (mG m.h.cells s.vars φ) u'.env m.goals gm.next rest:=hch.imp (λ_ _=>rfl) (zL _) aq5;have wD:=yT body (aV (aD v) head);obtain⟨p1,p2,p3⟩:=YY (base:=(m.h.cells.length:Int)) (bar:=m.choices.length) hrest (aK (aV (aD v) head) body).2 (body.map λt=>fG t s.vars) (by simpa using wD) aq6;rw[WC]at p1;have Y0:u.cells.length=m.h.cells.length+F.length:=by rw[hB.1];simp
   have hold:∀top tr,top<=m.h.cells.length->tr<=m.h.trail.length->eF ⟨u.cells,u.trail⟩ top tr=eF m.h top tr:=λtop tr h1 h2=>by rw[t1];exact YW hB h1 h2
   obtain⟨hE2,F2,hF2, -⟩:=Kn;have htake:∀k,k<=s.env.length->u'.env.take k=s.env.take k:=λk hk=>by rw[hF2,adv hk]
   have Y1:=C.bC.len;have Oj:l6 ⟨u.cells,u.trail⟩ u'.env (s.vars+(v:Int)) q m.query (fe (m.h.cells.length:Int) m.choices.length (aK (aV (aD v) head) body).2 m.goals gm.next).1 m.choices s.choices:=C.bC.imp λc d hc hd k=>k.move (hold _ _ k.top k.tr) (by simp only;have :=k.top;omega) (by simp only[t1,bB];have :=k.tr;omega) (htake _ k.Bd) (by rw[hF2,bB];have :=k.Bd;omega) zB p3 p2;have hnew:Both q (.next,{m with h:=⟨u.cells,u.trail⟩,choices:=if jT P g.t (P.length - (k+1)) (k+1)<P.length then⟨kk,jT P g.t (P.length - (k+1)) (k+1),m.h.cells.length,m.h.trail.length⟩::m.choices else m.choices,goals:=(fe (m.h.cells.length:Int) m.choices.length (aK (aV (aD v) head) body).2 m.goals gm.next).1,now:=(fe (m.h.cells.length:Int) m.choices.length (aK (aV (aD v) head) body).2 m.goals gm.next).2}) (.next (yL s.choices.length s.vars body rest),{s with env:=u'.env,choices:=if jT P g.t (P.length - (k+1)) (k+1)<P.length then⟨g::rest,jT P g.t (P.length - (k+1)) (k+1),s.env.length⟩::s.choices else s.choices,vars:=s.vars+(v:Int)}):=by
    refine⟨?_,C.fuel,C.out,?_,?_,?_,?_,?_,by have :=C.ni;have h5:body.length<=5:=hcg.1.2.2.1;simp only[Oi,wD];omega⟩;·simp only;rw[t1]at htl ⊢;exact agS hg1 hB (λx hx=>(t3 x hx).1) htl
    ·simp only[t1,bB];have :=C.tr;omega
    ·refine⟨mG m.h.cells s.vars φ,aEY.NL hok',λw hw=>?_,?_⟩
     ·obtain⟨q1,q2⟩:=hq w hw;refine⟨?_,?_⟩;·unfold Inb at q1 ⊢;simp only;omega
      ·exact aEY.tells hok' _ _ (.var _ zB (by have :=C.qv;omega)) (SL C.good.1 q1 q2)
     ·unfold yL;rw[<-Y1];exact p1
    ·by_cases hmore:jT P g.t (P.length - (k+1)) (k+1)<P.length
     ·simp only[G hmore];refine⟨⟨rfl,by simp only;omega,by simp only[t1,bB];omega,C.tr,by rw[hF2,bB];simp only;omega,?_,?_⟩,λx hx=>?_,Oj⟩;·simp only;rw[hold _ _ (zL _) (zL _),agN];exact C.good
      ·simp only;rw[hold _ _ (zL _) (zL _),agN,htake _ (zL _),nQ];exact C.cur.mono zB p3 p2
      ·obtain⟨d,_,hd⟩:=C.bC.mem x hx;exact⟨hd.top,hd.tr⟩
     ·simp only[O hmore];exact Oj
    ·simp only;have :=C.jD;omega
    ·intro x hx;simp only at hx ⊢;split at hx
     ·rcases jr.1 hx with rfl|hx;·exact C.jD
      ·exact C.oD x hx
     ·exact C.oD x hx
   exact hnew
  ·rw[G (λh=>SY (hls.1 h)),G SY];exact ih
def agV(E:Env):∀(w:Nat)(s ts:List Tm)(w':Nat),bU E w s=some (ts,w')->Tm.aC ts+w'=w:=by
 intro w;induction w using Nat.strongRecOn with
  |_ w ih=>
   intro s ts w' h;match w,s,ih,h with
    |w,[],_,h=>rw[yK]at h;simp at h;obtain⟨rfl,rfl⟩:=h;simp[Tm.aC]
    |0,_::_,_,h=>rw[GA]at h;cases h
    |w+1,a::r,ih,h=>
     rw[bU]at h;try simp only at h
     split at h;·simp at h
     ·rename_i _ Gr w1 h1;have k0:=JA E w _ _ _ h1;have k1:=ih w zB _ _ _ h1;rw[F9 k0.1]at h;split at h;·simp at h
      ·rename_i _ rs w2 h2;have k2:=ih w1 zB _ _ _ h2;simp only[bW,gI]at h;obtain⟨rfl,rfl⟩:=h;simp only[Tm.aC,Tm.nodes];omega
def aq7{N:Int}{E:Env}(hE:cu N E):∀(w:Nat)(s ts:List Tm)(w':Nat),(∀t∈s,t.In N)->bU E w s=some (ts,w')->∀t∈ts,t.In N:=by
 intro w;induction w using Nat.strongRecOn with
  |_ w ih=>
   intro s ts w' hs h;match w,s,ih,h,hs with
    |w,[],_,h,_=>rw[yK]at h;simp at h;obtain⟨rfl,rfl⟩:=h;simp
    |0,_::_,_,h,_=>rw[GA]at h;cases h
    |w+1,a::r,ih,h,hs=>
     have hx:=oZ hE (hs a zh);rw[bU]at h;try simp only at h
     generalize ai E a=x at*;split at h;·simp at h
     ·rename_i _ Gr w1 h1;have k0:=JA E w _ _ _ h1;have k1:=ih w zB _ _ _ (λt ht=>hx.arg ht) h1;rw[F9 k0.1]at h;split at h;·simp at h
      ·rename_i _ rs w2 h2;have k2:=ih w1 zB _ _ _ (λt ht=>hs t (by simp[ht])) h2;simp only[bW,gI]at h;obtain⟨rfl,rfl⟩:=h;intro t ht;rcases jr.1 ht with rfl|ht;·have k3:=k0.2;cases hx with|var n h0 h1'=>simp only[Tm.args,fT,Jb]at k3;subst k3;exact .var n h0 h1'|atom s h9=>simp only[Tm.args,fT,Jb]at k3;subst k3;exact .atom s h9|int n h0 h1'=>simp only[Tm.args,fT,Jb]at k3;subst k3;exact .int n h0 h1'|comp s l a1 a2 a3 a4 a5=>simp only[Tm.args]at k3;exact .comp s Gr a1 a2 zB zB k1
       ·exact k2 t ht
namespace Tm
def aq8{σ:Type}(f:σ->Int->Int×σ):∀(t:Tm)(st:σ),(cZ f st t).1.nodes=t.nodes:=by
 intro t;induction t using induct with
  |h k n s l ih=>
   intro st;have hL:∀(r:List Tm),(∀t∈r,t∈l)->∀st:σ,aC (aZ f st r).1=aC r:=by intro r;induction r with|nil=>intro _ st;rfl|cons x r ihr=>intro hm st;simp only[aZ,aC,ih x (hm x zh),ihr (λt ht=>hm t (by simp[ht]))]
   simp only[cZ,nodes,hL l (λ_ h=>h)]
def agW{σ:Type}(f:σ->Int->Int×σ):∀(l:List Tm)(st:σ),aC (aZ f st l).1=aC l|[],st=>rfl|x::r,st=>by simp only[aZ,aC,aq8,agW f r]
def aq9(st:List Int)(n:Int):st.length<=(aL st n).2.length/\0<=(aL st n).1/\(aL st n).1<(aL st n).2.length:=by
 unfold aL;split;·rename_i h;have :=aAr h;exact⟨zL _,by simp only;omega,by simp only;omega⟩
 ·simp;omega
def ara{N:Int}:∀(t:Tm)(st:List Int),t.Good N->st.length<=(cZ aL st t).2.length/\(cZ aL st t).2.length<=st.length+t.nodes/\∀M:Int,((cZ aL st t).2.length:Int)<=M->(cZ aL st t).1.Good M:=by
 intro t;induction t using induct with
  |h k n s l ih=>
   intro st hg;have hL:∀(r:List Tm),(∀t∈r,t∈l)->∀st:List Int,(∀t∈r,t.Good N)->st.length<=(aZ aL st r).2.length/\(aZ aL st r).2.length<=st.length+aC r/\∀M:Int,((aZ aL st r).2.length:Int)<=M->∀t∈(aZ aL st r).1,t.Good M:=by
    intro r;induction r with
     |nil=>intro _ st _;simp[aZ,aC]
     |cons x r ihr=>
      intro hm st hg;obtain⟨a1,a2,a3⟩:=ih x (hm x zh) st (hg x zh);obtain⟨b1,b2,b3⟩:=ihr (λt ht=>hm t (by simp[ht])) (cZ aL st x).2 (λt ht=>hg t (by simp[ht]));refine⟨by simp only[aZ];omega,by simp only[aZ,aC];omega,λM hM t ht=>?_⟩;simp only[aZ]at hM ht;rcases jr.1 ht with rfl|ht;·exact a3 M zB
      ·exact b3 M hM t ht
   cases hg with
    |var n h0 h1=>have :=aq9 st n;simp only[cZ,num,if_true,aZ,nodes,aC];refine⟨this.1,?_,λM hM=> .var _ this.2.1 zB⟩;unfold aL;split<;>simp
    |atom s h=>simp only[cZ,num,aZ,nodes,aC];exact⟨zh,zh,λM hM=> .atom s h⟩
    |int n h0 h1=>simp only[cZ,num,aZ,nodes,aC];exact⟨zh,zh,λM hM=> .int n h0 h1⟩
    |comp s l a1 a2 a3 a4 a5=>
     obtain⟨b1,b2,b3⟩:=hL l (λ_ h=>h) st a5;have e3:num aL st 3 0=((0:Int),st):=rfl;simp only[cZ,e3,nodes];refine⟨b1,zB,λM hM=> .comp s _ a1 a2 ?_ ?_ (b3 M hM)⟩;·rw[Gj];exact a3
     ·rw[Gj];exact a4
def agX{N:Int}:∀(r:List Tm)(st:List Int),(∀t∈r,t.Good N)->st.length<=(aZ aL st r).2.length/\(aZ aL st r).2.length<=st.length+aC r/\∀M:Int,((aZ aL st r).2.length:Int)<=M->∀t∈(aZ aL st r).1,t.Good M
 |[],st,_=>by simp[aZ,aC]
 |x::r,st,hg=>by
  obtain⟨a1,a2,a3⟩:=ara x st (hg x zh);obtain⟨b1,b2,b3⟩:=agX r (cZ aL st x).2 (λt ht=>hg t (by simp[ht]));refine⟨by simp only[aZ];omega,by simp only[aZ,aC];omega,λM hM t ht=>?_⟩;simp only[aZ]at hM ht;rcases jr.1 ht with rfl|ht;·exact a3 M zB
  ·exact b3 M hM t ht
end Tm
def S9(q:Nat)(l:List Tm):Prop:=l.length=q/\(∀t∈l,t.Good 200)/\Tm.aC l<=200
def agY{N:Int}{q:Nat}{s s':Sv}{b:Bool}(hE:cu N s.env)(hq:(q:Int)<=N)(e:kE q s=(b,s')):(b=false/\s'.out=s.out++[⟨4,[]⟩])\/(∃l,S9 q l/\((b=true/\s'.out=s.out++[⟨1,l⟩]/\s.out.length<11/\s'.env=s.env/\s'.choices=s.choices/\s'.vars=s.vars/\s'.fuel=s.fuel)\/(b=false/\11<=s.out.length/\s'.out=s.out++[⟨1,l⟩]++[⟨6,[]⟩]))):=by
 unfold kE at e;split at e;·simp only[gI]at e;obtain⟨rfl,rfl⟩:=e;exact .inl ⟨rfl,rfl⟩
 ·rename_i l w' h;have h1:=JA _ _ _ _ _ h;have h2:=agV _ _ _ _ _ h;have h3:=aq7 hE _ _ _ _ (by intro t ht;simp only[iZ,mh]at ht;obtain⟨i,hi,rfl⟩:=ht;exact .var _ zB zB) h;obtain⟨k1,k2,k3⟩:=Tm.agX l [] h3;have hA:S9 q (tidy l):=by
   refine⟨?_,k3 200 (by simp only[fT]at k2;omega),?_⟩;·unfold tidy;rw[Tm.Gj,h1.2];simp
   ·unfold tidy;rw[Tm.agW];omega
  refine .inr ⟨_,hA,?_⟩;simp only[bB,dZ]at e;split at e;·simp only[gI]at e;obtain⟨rfl,rfl⟩:=e;exact .inr ⟨rfl,zB,rfl⟩
  ·simp only[gI]at e;obtain⟨rfl,rfl⟩:=e;exact .inl ⟨rfl,rfl,zB,rfl,rfl,rfl,rfl⟩
section
variable {P : List Cl}
def Y2{g:Gl}{rest:List Gl}:∀(n k:Nat)(s s':Sv),fC P g rest n k s=(.off,s')->s'.out=s.out++[⟨4,[]⟩]
 |0,k,s,s',h=>by simp[fC]at h
 |n+1,k,s,s',h=>by
  rw[fC]at h;have ih:=Y2 (g:=g) (rest:=rest) n (k+1) s s';split at h;·simp at h
  ·split at h;·exact ih h
   ·simp only at h;split at h;·simp only[gI,dx]at h;subst h;rfl
    ·split at h;·exact ih h
     ·simp at h
def Ol:∀(cs:List jN)(s s':Sv)(r:vP),(∀c∈cs,c.g≠[])->eQ P cs s=(r,s')->(∀gl,r≠ .next gl)->r= .off/\∃k,s'.out=s.out++[⟨k,[]⟩]/\2<=k/\k<=5
 |[],s,s',r,hg,h,hr=>by simp only[eQ,gI]at h;obtain⟨rfl,rfl⟩:=h;exact⟨rfl,2,rfl,zB,zB⟩
 |c::cs,s,s',r,hg,h,hr=>by
  rw[eQ]at h;split at h;·exact absurd (by assumption) (hg c zh)
  ·split at h;·rename_i s2 he;have :=Cy _ _ _ _ he;subst this;obtain⟨h1,k,h2,h3,h4⟩:=Ol cs _ s' r (λc hc=>hg c (by simp[hc])) h hr;exact⟨h1,k,h2,h3,h4⟩
   ·rename_i hne;cases r with|next gl=>exact absurd rfl (hr gl)|no=>exact absurd h (hne _)|off=>have h9:=Y2 _ _ _ _ h;exact⟨rfl,4,h9,zB,zB⟩
def arb{g:Gl}{s s':Sv}(h:jh g s=(none,s')):∃k,s'.out=s.out++[⟨k,[]⟩]/\2<=k/\k<=5:=by
 unfold jh at h;split at h;·simp at h
 split at h;·simp at h
 split at h;·simp at h
 split at h
 ·simp only at h;split at h;·simp only[gI,dx]at h;subst h;exact⟨4,rfl,zB,zB⟩
  ·simp at h
 ·simp only at h;split at h;·simp only[gI,dx]at h;subst h;exact⟨5,rfl,zB,zB⟩
  split at h;·simp at h
  split at h;·simp only[gI,dx]at h;subst h;exact⟨5,rfl,zB,zB⟩
  ·simp at h
def arc{g:Gl}{rest:List Gl}{s s':Sv}{r:vP}(h:fZ P s)(hg:pg s.vars (g::rest))(e:ig P g rest s=(r,s'))(hr:∀gl,r≠ .next gl):∃k,s'.out=s.out++[⟨k,[]⟩]/\2<=k/\k<=5:=by
 unfold ig at e;split at e;·simp only[gI]at e;rw[<-e.2];exact⟨3,rfl,zB,zB⟩
 ·rename_i hf;have hp:=Nc s.fuel s.choices hf;obtain⟨h1,h2,h3,h4,h5,h6,h7,h8⟩:=h;rw[hp]at h6 h7;have hs1:fZ P {s with fuel:=s.fuel - 1}:=⟨h1,h2,h3,h4,h5,by simp only;omega,by simp only;omega,by simp only;omega⟩;simp only at e;split at e
  ·rename_i hk;split at e;·rename_i s2 he;simp only[gI]at e;rw[<-e.2];have h9:=arb he;exact h9
   ·simp only[gI]at e;exact absurd e.1.symm (hr _)
   ·rename_i s2 he;obtain⟨a1,a2,a3,a4⟩:=JE hs1 (hg g zh).1 hk (by simp only;omega) he zh;obtain⟨-,k,h1,h2⟩:=Ol s2.choices s2 s' r (λc hc=>(a1.bC c hc).ne) e hr;exact⟨k,by rw[h1,a3],h2⟩
  ·split at e;·simp only[gI]at e;rw[<-e.2];exact⟨5,rfl,zB,zB⟩
   ·split at e;·rename_i s2 he;have :=Cy _ _ _ _ he;subst this;obtain⟨-,k,h1,h2⟩:=Ol _ _ s' r (λc hc=>(h4 c hc).ne) e hr;exact⟨k,h1,h2⟩
    ·rename_i hne;cases r with|next gl=>exact absurd rfl (hr gl)|no=>exact absurd e (hne _)|off=>have h9:=Y2 _ _ _ _ e;exact⟨4,h9,zB,zB⟩
def Ends(q d:Nat)(more:List Ev):Prop:=∃(ans:List (List Tm))(k:Int),more=ans.map (λl=>(⟨1,l⟩:Ev))++[⟨k,[]⟩]/\2<=k/\k<=6/\d+ans.length<=12/\(k=6↔d+ans.length=12)/\∀l∈ans,S9 q l
def Ends.one{q d:Nat}{k:Int}(hk:2<=k/\k<=5)(hd:d<=11):Ends q d [⟨k,[]⟩]:=⟨[],k,rfl,zB,zB,by simp;omega,by simp;omega,zh⟩
def Ends.cons{q d:Nat}{l:List Tm}{more:List Ev}(hl:S9 q l)(h:Ends q (d+1) more):Ends q d (⟨1,l⟩::more):=by
 obtain⟨ans,k,rfl,h1,h2,h3,h4,h5⟩:=h;refine⟨l::ans,k,zh,h1,h2,by simp;omega,by rw[h4,bn];omega,λx hx=>?_⟩;rcases jr.1 hx with rfl|hx;·exact hl
 ·exact h5 x hx
def Y3(q:Nat):∀(n:Nat)(gl:List Gl)(s:Sv),fZ P s->pg s.vars gl->(q:Int)<=s.vars->s.out.length<=11->s.fuel+13<=n+s.out.length->∃more,(jC P q n gl s).out=s.out++more/\Ends q s.out.length more
 |0,gl,s,h,hg,hq,ho,hn=>by omega
 |n+1,[],s,h,hg,hq,ho,hn=>by
  rw[jC];cases e:kE q s with
   |mk b s'=>
    rcases agY h.env hq e with⟨rfl,h1⟩|⟨l,hl,⟨rfl,h1,h2,h3,h4,h5,h6⟩|⟨rfl,h1,h2⟩⟩;·exact⟨_,h1,Ends.one zB ho⟩
    ·have hs':fZ P s':=by obtain⟨a1,a2,a3,a4,a5,a6,a7,a8⟩:=h;exact⟨a1,by rw[h5];exact a2,by rw[h5,h3];exact a3,by rw[h4,h5,h3];exact a4,by rw[h4];exact a5,by rw[h5,h6,h4];exact a6,by rw[h3,h6,h4];exact a7,by rw[h4,h6];exact a8⟩
     have hne:∀c∈s'.choices,c.g≠[]:=λc hc=>(hs'.bC c hc).ne;simp only;cases e2:eQ P s'.choices s' with
      |mk r s2=>
       cases r with
        |next gl=>
         obtain⟨b1,b2,b3,b4,hv⟩:=GJ s'.choices s' s2 gl hs' e2;have hlen:s2.out.length=s.out.length+1:=by rw[b4,h1];simp
         obtain⟨more,k1,k2⟩:=Y3 q n gl s2 b1 b2 zB zB zB;refine⟨⟨1,l⟩::more,?_,Ends.cons hl (by rw[<-hlen];exact k2)⟩;simp only;rw[k1,b4,h1];simp
        |no=>have :=Ol s'.choices s' s2 .no hne e2 zh;simp at this
        |off=>obtain⟨-,k,h7,h8⟩:=Ol s'.choices s' s2 .off hne e2 zh;refine⟨[⟨1,l⟩,⟨k,[]⟩],?_,Ends.cons hl (Ends.one h8 zB)⟩;simp only;rw[h7,h1];simp
    ·refine⟨[⟨1,l⟩,⟨6,[]⟩],by rw[h2];simp,[l],6,rfl,zB,zB,by simp;omega,by simp;omega,by simpa using hl⟩
 |n+1,g::rest,s,h,hg,hq,ho,hn=>by
  rw[jC];cases e:ig P g rest s with
   |mk r s'=>
    have hoff:(∀gl,r≠ .next gl)->∃more,s'.out=s.out++more/\Ends q s.out.length more:=λhr=>by obtain⟨k,h1,h2⟩:=arc h hg e hr;exact⟨_,h1,Ends.one h2 ho⟩
    cases r with|next gl=>obtain⟨b1,b2,b3,b4,hv⟩:=RF h hg e;obtain⟨more,k1,k2⟩:=Y3 q n gl s' b1 b2 zB (by rw[b4];exact ho) (by rw[b4];omega);rw[b4]at k1 k2;exact⟨more,k1,k2⟩|no=>exact hoff zh|off=>exact hoff zh
end
section
variable {P : List Cl}
def Sv.more(s:Sv)(m:Nat):Sv:={s with fuel:=s.fuel+m}
end
def Y4{P:List Cl}{Q:List Tm}{vars:Int}{f:Nat}(hP:fV P)(hQ:iJ Q vars)(hf:f<=150):fZ P ⟨[],[],vars,f,[]⟩/\pg vars (Q.map λt=>⟨t,0⟩):=by
 obtain⟨h0,h8,h5,hl⟩:=hQ;refine⟨⟨hP,h0,cu.nil _,zh,zh,?_,?_,?_⟩,?_⟩;·simp only[jD,D8,List.sum_nil];omega
 ·simp only[jD,D8,List.sum_nil,fT];omega
 ·simpa using hf
 ·intro g hg;obtain⟨t,ht,rfl⟩:=iZ.1 hg;exact⟨(hl t ht).2.1,zh⟩
def Kq(P:List Cl)(Q:List Tm)(vars fuel:Int):(¬(fV P/\iJ Q vars)/\jU P Q vars fuel=([],1))\/((fV P/\iJ Q vars)/\(fuel<0\/fuel>150)/\jU P Q vars fuel=([],2))\/((fV P/\iJ Q vars)/\0<=fuel/\fuel<=150/\jU P Q vars fuel=((jC P vars.toNat (fuel.toNat+14) (Q.map λt=>⟨t,0⟩) ⟨[],[],vars,fuel.toNat,[]⟩).out,0)):=by
 unfold jU;by_cases h:fV P/\iJ Q vars
 ·rw[O (by simpa using h)];by_cases h2:fuel<0\/fuel>150;·rw[G h2];exact .inr (.inl ⟨h,h2,rfl⟩)
  ·rw[O h2];exact .inr (.inr ⟨h,zB,zB,rfl⟩)
 ·rw[G h];exact .inl ⟨h,rfl⟩
def agZ{P:List Cl}{Q:List Tm}{vars fuel:Int}(h:(jU P Q vars fuel).2=0):Ends vars.toNat 0 (jU P Q vars fuel).1:=by
 rcases Kq P Q vars fuel with⟨_,e⟩|⟨_,_,e⟩|⟨⟨hP,hQ⟩,h0,h1,e⟩;·rw[e]at h;simp at h
 ·rw[e]at h;simp at h
 ·rw[e];obtain⟨a1,a2⟩:=Y4 (f:=fuel.toNat) hP hQ zB;obtain⟨more,k1,k2⟩:=Y3 vars.toNat (fuel.toNat+14) _ _ a1 a2 (by have :=a1.RD;simp only at this ⊢;omega) zh zh;simp only;rw[k1];simpa using k2
def ard{P:List Cl}{Q:List Tm}{vars fuel:Int}(h:(jU P Q vars fuel).2≠0):(jU P Q vars fuel).1=[]:=by
 rcases Kq P Q vars fuel with⟨_,e⟩|⟨_,_,e⟩|⟨⟨hP,hQ⟩,h0,h1,e⟩;·rw[e]
 ·rw[e]
 ·rw[e]at h;simp at h
structure Td where
  t : Tm
  call : Nat
structure Pv where
  fuel : Nat
  vars : Int
  out : List Ev
  ended : Bool
  calls : Nat
def Pv.put(p:Pv)(kind:Int):Pv:={p with out:=p.out++[⟨kind,[]⟩],ended:=true}
structure Fr where
  call : Nat
  g : Td
  rest : List Td
  gg : Gl
  ag0 : List Gl
  env : Env
  next : Nat
  lev : Nat
def Y5(P:List Cl)(fr:List Fr):List jN:=fr.filterMap λf=>if f.next<P.length then some ⟨f.gg::f.ag0,f.next,f.env.length⟩else none
def below(c:Nat)(fr:List Fr):List Fr:=fr.dropWhile λf=>decide (c<=f.call)
def Y6(P:List Cl)(fr:List Fr):List Td->List Gl->Prop|[],[]=>True|a::td,b::gl=>(a.t=b.t/\b.bar=(Y5 P (below a.call fr)).length)/\Y6 P fr td gl|_,_=>False
def ag2(td:List Td):Prop:=td.Pairwise λa b=>b.call<=a.call
def ag3(P:List Cl):List Fr->Prop|[]=>True|f::fr=>ag3 P fr/\Y6 P fr (f.g::f.rest) (f.gg::f.ag0)/\(∀x∈fr,x.call<f.call)/\(∀a∈f.g::f.rest,a.call<f.call)/\ag2 (f.g::f.rest)/\(∀x∈fr,x.env <+: f.env)
section
variable {P : List Cl} {q : Nat}
end
section
variable {P : List Cl} {q : Nat}
structure Lnk (P : List Cl) (q : Nat) (s : Sv) (p : Pv) (fr : List Fr) : Prop where
  ok : fZ P { s with choices := Y5 P fr }
  q : (q : Int) ≤ s.vars
  frs : ag3 P fr
  fuel : p.fuel = s.fuel
  vars : s.vars = p.vars
  out : s.out = p.out
  ended : p.ended = false
  pre : ∀ x ∈ fr, x.env <+: s.env
  lev : ∀ x ∈ fr, s.fuel < x.lev
  calls : ∀ x ∈ fr, x.call ≤ p.calls
structure aA6 (P : List Cl) (q : Nat) (s : Sv) (p : Pv) (fr : List Fr) (td : List Td) (gl : List Gl) : Prop extends Lnk P q s p fr where
  Ta : s.choices = Y5 P fr
  AB : pg s.vars gl
  rel : Y6 P fr td gl
  desc : ag2 td
  aA7 : ∀ a ∈ td, a.call ≤ p.calls
def fZ.pop{s:Sv}{c:jN}{cs:List jN}(h:fZ P {s with choices:=c::cs}):fZ P {s with choices:=cs,env:=s.env.take c.trail}:=by
 have hc:=h.bC c zh;obtain⟨h1,h2,h3,h4,h5,h6,h7,h8⟩:=h;simp only at h1 h2 h3 h4 h5 h6 h7 h8;rw[GI]at h6 h7;have hT:=Wn.1 h5;have htr:=hc.trail;simp only at htr;have hEl:(s.env.take c.trail).length=c.trail:=by rw[dX];omega
 refine⟨h1,h2,h3.take _,λx hx=>?_,hT.2,by simp only;omega,by simp only[hEl];omega,by simp only[bn]at h8 ⊢;omega⟩;have k:=h4 x (by simp[hx]);exact⟨k.ne,k.AB,k.one,k.lt,by simp only[hEl];exact hT.1 x hx⟩
end
