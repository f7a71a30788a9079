import Derived.Test.YtlpmfkpefoegeacDoorPSolve
import Derived.Test.YtlpmfkpefoegeacDoorPMLoad
import Derived.Test.YtlpmfkpefoegeacDoorPMMor
import Derived.Test.YtlpmfkpefoegeacDoorHLoad
import Derived.Test.YtlpmfkpefoegeacDoorQHUnify
namespace Go.Proofs.YtlpmfkpefoegeacDoor
set_option maxRecDepth 100000
set_option maxHeartbeats 16000000
set_option linter.all false
structure Gm where
  at_ : Int
  bar : Nat
  next : Int
  deriving Inhabited
structure Cm where
  goal : Nat
  from_ : Nat
  top : Nat
  trail : Nat
structure Mv where
  h : Hp
  goals : List Gm
  choices : List Cm
  now : Int
  query : Int
  fuel : Nat
  out : List Ev
inductive RM where
  | next
  | no
  | off
def Mv.put(m:Mv)(kind:Int):Mv:={m with out:=m.out++[⟨kind,[]⟩]}
def Zbg(base:Int)(bar:Nat):List Int->List Gm->Int->List Gm×Int|[],gs,nx=>(gs,nx)|a::r,gs,nx=>((Zbg base bar r gs nx).1++[⟨base+a,bar,(Zbg base bar r gs nx).2⟩],((Zbg base bar r gs nx).1.length:Int))
def ZfA(c:Cl)(x:Ce):Prop:=c.head.s=x.s/\(c.head.args.length:Int)=x.n
noncomputable instance(c:Cl)(x:Ce):Decidable (ZfA c x):=by unfold ZfA;infer_instance
noncomputable def ZaX(P:List Cl)(x:Ce):Nat->Nat->Nat|0,k=>k|n+1,k=>match P[k]? with|none=>k|some c=>if ZfA c x then k else ZaX P x n (k+1)
noncomputable def Zbs(P:List Cl)(n:Nat)(g:Gm):Nat->Nat->Mv->RM×Mv|0,_,m=>(.no,m)|j+1,k,m=>match P[k]? with|none=>(.no,m)|some c=>if ¬ZfA c (Zaa m.h.cells g.at_)then Zbs P n g j (k+1) m else let L:=Zbz m.h (Zaf c).cells;if L.2.2≠0 then(.off,m.put 4)else let u:=Za6 L.1 (L.2.1+(Zaf c).head) g.at_;if u.2.2≠0 then(.off,m.put 4)else if u.2.1=false then Zbs P n g j (k+1) m else(.next,{m with h:=u.1,choices:=if ZaX P (Zaa m.h.cells g.at_) (P.length - (k+1)) (k+1)<P.length then⟨n,ZaX P (Zaa m.h.cells g.at_) (P.length - (k+1)) (k+1),m.h.cells.length,m.h.trail.length⟩::m.choices else m.choices,goals:=(Zbg L.2.1 m.choices.length (Zaf c).goals m.goals g.next).1,now:=(Zbg L.2.1 m.choices.length (Zaf c).goals m.goals g.next).2})
def ZaP(m:Mv)(n:Nat):Gm:=(m.goals[n]?).getD default
noncomputable def Zcs(P:List Cl):List Cm->Mv->RM×Mv|[],m=>(.off,{m with choices:=[]}.put 2)|c::cs,m=>match Zbs P c.goal (ZaP m c.goal) (P.length - c.from_) c.from_ {m with choices:=cs,h:=(ZiI (Zd7 m.h c.trail).1 c.top).1}with|(.no,m')=>Zcs P cs m'|r=>r
noncomputable def ZbV(g:Gm)(m:Mv):Option Bool×Mv:=let s:=(Zaa m.h.cells g.at_).s.toList;if s=[33]then(some true,{m with choices:=m.choices.drop (m.choices.length - min g.bar m.choices.length)})else if s=[116,114,117,101]then(some true,m)else if s=[102,97,105,108]then(some false,m)else if s=[101,113]then let u:=Za6 m.h (g.at_+1) (g.at_+2);if u.2.2≠0 then(none,m.put 4)else(some u.2.1,{m with h:=u.1})else let a:=Zaa m.h.cells (look m.h.cells (g.at_+1));let b:=Zaa m.h.cells (look m.h.cells (g.at_+2));if a.kind≠2\/b.kind≠2 then(none,m.put 5)else if s=[108,101,115,115]then(some (decide (a.n<b.n)),m)else if a.n+b.n>1099511627776\/a.n+b.n< -1099511627776 then(none,m.put 5)else let L:=Zbz m.h [⟨2,a.n+b.n,ByteArray.empty⟩];if L.2.2≠0 then(none,m.put 4)else let u:=Za6 L.1 (g.at_+3) L.2.1;if u.2.2≠0 then(none,{m with h:=L.1}.put 4)else(some u.2.1,{m with h:=u.1})
def ZdC(x:Ce):Prop:=(Tm.mk 0 0 x.s (List.replicate x.n.toNat tm0)).Known
noncomputable def ZcC(P:List Cl)(m:Mv):RM×Mv:=if m.fuel=0 then(.off,m.put 3)else let m:={m with fuel:=m.fuel - 1};let g:=ZaP m m.now.toNat;haveI :=Classical.propDecidable (ZdC (Zaa m.h.cells g.at_));if ZdC (Zaa m.h.cells g.at_)then match ZbV g m with|(none,m')=>(.off,m')|(some true,m')=>(.next,{m' with now:=g.next})|(some false,m')=>Zcs P m'.choices m' else if ZaX P (Zaa m.h.cells g.at_) P.length 0=P.length then(.off,m.put 5)else match Zbs P m.now.toNat g P.length 0 m with|(.no,m')=>Zcs P m'.choices m'|r=>r
noncomputable def Zde(h:Hp)(query:Int):Nat->Option (List Tm×Int)|0=>some ([],200)|v+1=>match Zde h query v with|none=>none|some (l,left)=>if(ZaJ h (query+(v:Nat)) left).2.2≠0 then none else some (l++[(ZaJ h (query+(v:Nat)) left).1],left - (ZaJ h (query+(v:Nat)) left).2.1)
noncomputable def ZbI(P:List Cl)(q:Nat)(m:Mv):RM×Mv:=match Zde m.h m.query q with|none=>(.off,m.put 4)|some (l,_)=>let m:={m with out:=m.out++[⟨1,tidy l⟩]};if m.out.length≥12 then(.off,m.put 6)else Zcs P m.choices m
def Zbl(gs:List Gm):Nat->Int->List Nat->List Nat|0,_,vis=>vis|k+1,n,vis=>if n<0\/n.toNat∈vis then vis else Zbl gs k ((gs[n.toNat]?).getD default).next (vis++[n.toNat])
def ZaU(m:Mv):List Int:=(m.choices.reverse.map fun c=>(c.goal:Int))++[m.now]
def Zbv(gs:List Gm)(l:List Int):List Nat:=l.foldl (fun vis n=>Zbl gs (gs.length+1) n vis) []
def Zbm(q:Nat)(m:Mv):List Int:=((List.range q).map fun v=>m.query+(v:Nat))++(Zbv m.goals (ZaU m)).map fun i=>(ZaP m i).at_
noncomputable def ZbW(q:Nat)(m:Mv):Mv:=let c:=Za3 m.h (Zbm q m) (m.choices.reverse.map fun c=>(c.top:Int)) (m.choices.reverse.map fun c=>(c.trail:Int));if c.err≠0 then m else{m with h:=c.heap,query:=if q>0 then(c.roots[0]?).getD 0 else m.query,goals:=m.goals.mapIdx fun i g=>if i∈Zbv m.goals (ZaU m)then{g with at_:=(c.roots[q+(Zbv m.goals (ZaU m)).idxOf i]?).getD 0}else g,choices:=(m.choices.reverse.mapIdx fun i x=>{x with top:=((c.tops[i]?).getD 0).toNat,trail:=((c.mks[i]?).getD 0).toNat}).reverse}
noncomputable def Zk3(P:List Cl)(q:Nat)(fuel every:Int):Nat->Mv->Mv|0,m=>m|n+1,m=>if m.now<0 then match ZbI P q m with|(.next,m')=>Zk3 P q fuel every n m'|(_,m')=>m' else match ZcC P (if every>0/\(fuel - m.fuel)%every=0 then ZbW q m else m)with|(.next,m')=>Zk3 P q fuel every n m'|(_,m')=>m'
noncomputable def ZdD(Q:List Tm)(vars:Int)(fuel:Nat):Mv:=let b:=Zay Q vars;let L:=Zbz ⟨[],[]⟩ b.cells;{h:=L.1,goals:=(Zbg L.2.1 0 b.goals [] (-1)).1,choices:=[],now:=(Zbg L.2.1 0 b.goals [] (-1)).2,query:=L.2.1,fuel:=fuel,out:=[]}
theorem ZoH(E:Env):∀(w:Nat)(s r:List Tm),flL E w (s++r)=match flL E w s with|none=>none|some (ts,w1)=>match flL E w1 r with|none=>none|some (rs,w2)=>some (ts++rs,w2):=by intro w;induction w using Nat.strongRecOn with|_ w ih=>intro s r;match w,s,ih with
 |w,[],_=>rw[Zdt,List.nil_append];simp only[List.nil_append];cases flL E w r with|none=>rfl|some p=>rfl
 |0,a::s,_=>rw[List.cons_append,ZdV,ZdV]
 |w+1,a::s,ih=>rw[List.cons_append,flL.eq_def E (w+1) (a::(s++r)),flL.eq_def E (w+1) (a::s)];simp only;cases h1:flL E w (slook E a).args with|none=>rfl|some p=>obtain⟨ts1,w1⟩:=p;simp only;rw[ih (min w w1) (by omega) s r];cases h2:flL E (min w w1) s with|none=>rfl|some p=>obtain⟨ts2,w2⟩:=p;simp only;cases h3:flL E w2 r with|none=>rfl|some p=>rfl
def ZpS(l:List Ce)(φ:Int->Int):Option (List Tm×Nat)->Option (List Tm×Nat)->Prop|none,none=>True|some (xs,w1),some (ys,w2)=>w1=w2/\ys=xs.map (Tm.ren φ)/\∀x∈xs,x.Vars (Free l)|_,_=>False
section
variable {l : List Ce} {φ : Int → Int} {E : Env} {N : Int}
theorem ZpG(hE:EnvOk N E):∀(w:Nat)(s:List Int)(ts:List Tm),HrL l φ E (fun _=>True) s ts->(∀t∈ts,t.In N)->ZpS l φ (rdL l w s) (flL E w ts):=by
 intro w;induction w using Nat.strongRecOn with
  |_ w ih=>
   intro s ts hH hI;match w,s,ts,ih,hH,hI with
    |w,[],[],_,_,_=>rw[Zc0,Zdt];exact⟨rfl,rfl,by simp⟩
    |w,[],_::_,_,h,_=>exact h.elim
    |w,_::_,[],_,h,_=>exact h.elim
    |0,a::s,t::ts,_,_,_=>rw[Zer,ZdV];trivial
    |w+1,a::s,t::ts,ih,⟨ha,hr⟩,hI=>
     have hIr:∀t∈ts,t.In N:=fun x hx=>hI x (by simp[hx]);have hi:=ZbU hE (hI t (by simp));rw[rdL,flL];cases ha with
      |@var _ x _ k1 k2 k3 k4 k5=>
       have hx0:=k1.nonneg;rw[ZaS k1,if_neg (by omega),if_neg (by rw[k2];decide)];have hz:slook E t= .mk 0 (φ x) ByteArray.empty []:=by rw[<-k5];generalize slook E t=z at hi k4;cases hi with|var=>rfl|atom=>cases k4|int=>cases k4|comp=>cases k4
       rw[hz];simp only[Tm.args,Zdt,Nat.min_self];have :=ih w (by omega) s ts hr hIr;revert this;cases rdL l w s with
        |none=>cases flL E w ts with|none=>intro _;trivial|some p=>intro h;exact h.elim
        |some p=>
         obtain⟨xs,w1⟩:=p;cases flL E w ts with
          |none=>intro h;exact h.elim
          |some q=>
           obtain⟨ys,w2⟩:=q;rintro⟨e1,e2,e3⟩;simp only[k2,if_true];refine⟨e1,by rw[e2];rfl,fun y hy=>?_⟩;rcases List.mem_cons.1 hy with rfl|hy;·exact .mk _ _ _ _ (fun _=>k1.free k2) (by simp)
           ·exact e3 y hy
      |@leaf _ x _ k1 k2 k3 k4 k5 k6 k7=>
       have hx0:=k1.nonneg;have hk0:(Zaa l x).kind≠0:=by rw[k2];exact k3
       rw[ZaS k1,if_neg (by omega),if_neg (by rw[k2];exact k4),k7];simp only[Zdt,Nat.min_self];have :=ih w (by omega) s ts hr hIr;revert this;cases rdL l w s with
        |none=>cases flL E w ts with|none=>intro _;trivial|some p=>intro h;exact h.elim
        |some p=>
         obtain⟨xs,w1⟩:=p;cases flL E w ts with
          |none=>intro h;exact h.elim
          |some q=>
           obtain⟨ys,w2⟩:=q;rintro⟨e1,e2,e3⟩;simp only[hk0,if_false];refine⟨e1,?_,fun y hy=>?_⟩;·rw[e2,List.map_cons,k2,k5,k6];simp only[Tm.ren,Tm.renL,k3,if_false]
           ·rcases List.mem_cons.1 hy with rfl|hy;·exact .mk _ _ _ _ (fun h=>absurd h hk0) (by simp)
            ·exact e3 y hy
      |@comp _ x _ k1 k2 k3 k4 k5 k6 k7=>
       have hx0:=k1.nonneg;rw[ZaS k1,if_neg (by omega),if_pos k2];have ha:=ih w (by omega) _ _ ((Zgf k5).2 k7) (fun y hy=>hi.arg hy);revert ha;cases rdL l w (Zam x (Zaa l x).n)with
        |none=>cases flL E w (slook E t).args with|none=>intro _;trivial|some p=>intro h;exact h.elim
        |some p=>
         obtain⟨xs,w1⟩:=p;cases flL E w (slook E t).args with
          |none=>intro h;exact h.elim
          |some q=>
           obtain⟨ys,w2⟩:=q;rintro⟨rfl,e2,e3⟩;simp only;have :=ih (min w w1) (by omega) s ts hr hIr;revert this;cases rdL l (min w w1) s with
            |none=>cases flL E (min w w1) ts with|none=>intro _;trivial|some p=>intro h;exact h.elim
            |some p=>
             obtain⟨xs',w1'⟩:=p;cases flL E (min w w1) ts with
              |none=>intro h;exact h.elim
              |some q=>
               obtain⟨ys',w2'⟩:=q;rintro⟨d1,d2,d3⟩;refine⟨d1,?_,fun y hy=>?_⟩;·rw[d2,List.map_cons,k3,k4,k6,e2];simp[Tm.ren,Tm.renL_map]
               ·rcases List.mem_cons.1 hy with rfl|hy;·exact .mk _ _ _ _ (fun h=>absurd h (by decide)) e3
                ·exact d3 y hy
theorem Zl3(hM:Mon N l φ E){xs ys:List Tm}(h:ys=xs.map (Tm.ren φ))(hv:∀x∈xs,x.Vars (Free l)):tidy ys=tidy xs:=by rw[h];exact Zm3 (fun a b ha hb e=>hM.inj ha hb e) xs hv
end
end Go.Proofs.YtlpmfkpefoegeacDoor
