import Derived.Test.YtlpmfkpefoegeacPMMor
import Derived.Test.YtlpmfkpefoegeacPSolveF
namespace Go.Proofs.Ytlpmfkpefoegeac
set_option maxRecDepth 100000
set_option maxHeartbeats 16000000
set_option linter.all false
def Zob(l:List Ce)(φ:Int->Int):Option (List Tm×Nat)->Option (List Tm×Nat)->Prop|none,none=>True|some (xs,w1),some (ys,w2)=>w1=w2/\ys=xs.map (Tm.ren φ)/\∀x∈xs,x.Vars (Free l)|_,_=>False
section
variable {l : List Ce} {φ : Int → Int} {E : Env} {N : Int}
theorem Zn3(hE:EnvOk N E):∀(w:Nat)(s:List Int)(ts:List Tm),HrL l φ E (fun _=>True) s ts->(∀t∈ts,t.In N)->Zob l φ (rdL l w s) (flL E w ts):=by
 intro w;induction w using Nat.strongRecOn with
  |_ w ih=>
   intro s ts hH hI;match w,s,ts,ih,hH,hI with
    |w,[],[],_,_,_=>rw[ZcQ,Zb8];exact⟨rfl,rfl,by simp⟩
    |w,[],_::_,_,h,_=>exact h.elim
    |w,_::_,[],_,h,_=>exact h.elim
    |0,a::s,t::ts,_,_,_=>rw[Zd5,ZcT];trivial
    |w+1,a::s,t::ts,ih,⟨ha,hr⟩,hI=>
     have hIr:∀t∈ts,t.In N:=fun x hx=>hI x (by simp[hx]);have hi:=ZaY hE (hI t (by simp));rw[rdL,flL];cases ha with
      |@var _ x _ k1 k2 k3 k4 k5=>
       have hx0:=k1.nonneg;rw[ZaN k1,if_neg (by omega),if_neg (by rw[k2];decide)];have hz:slook E t= .mk 0 (φ x) ByteArray.empty []:=by rw[<-k5];generalize slook E t=z at hi k4;cases hi with|var=>rfl|atom=>cases k4|int=>cases k4|comp=>cases k4
       rw[hz];simp only[Tm.args,Zb8,Nat.min_self];have :=ih w (by omega) s ts hr hIr;revert this;cases rdL l w s with
        |none=>cases flL E w ts with|none=>intro _;trivial|some p=>intro h;exact h.elim
        |some p=>
         obtain⟨xs,w1⟩:=p;cases flL E w ts with
          |none=>intro h;exact h.elim
          |some q=>
           obtain⟨ys,w2⟩:=q;rintro⟨e1,e2,e3⟩;simp only[k2,if_true];refine⟨e1,by rw[e2];rfl,fun y hy=>?_⟩;rcases List.mem_cons.1 hy with rfl|hy;·exact .mk _ _ _ _ (fun _=>k1.free k2) (by simp)
           ·exact e3 y hy
      |@leaf _ x _ k1 k2 k3 k4 k5 k6 k7=>
       have hx0:=k1.nonneg;have hk0:(Zaa l x).kind≠0:=by rw[k2];exact k3
       rw[ZaN k1,if_neg (by omega),if_neg (by rw[k2];exact k4),k7];simp only[Zb8,Nat.min_self];have :=ih w (by omega) s ts hr hIr;revert this;cases rdL l w s with
        |none=>cases flL E w ts with|none=>intro _;trivial|some p=>intro h;exact h.elim
        |some p=>
         obtain⟨xs,w1⟩:=p;cases flL E w ts with
          |none=>intro h;exact h.elim
          |some q=>
           obtain⟨ys,w2⟩:=q;rintro⟨e1,e2,e3⟩;simp only[hk0,if_false];refine⟨e1,?_,fun y hy=>?_⟩;·rw[e2,List.map_cons,k2,k5,k6];simp only[Tm.ren,Tm.renL,k3,if_false]
           ·rcases List.mem_cons.1 hy with rfl|hy;·exact .mk _ _ _ _ (fun h=>absurd h hk0) (by simp)
            ·exact e3 y hy
      |@comp _ x _ k1 k2 k3 k4 k5 k6 k7=>
       have hx0:=k1.nonneg;rw[ZaN k1,if_neg (by omega),if_pos k2];have ha:=ih w (by omega) _ _ ((ZfN k5).2 k7) (fun y hy=>hi.arg hy);revert ha;cases rdL l w (Zap x (Zaa l x).n)with
        |none=>cases flL E w (slook E t).args with|none=>intro _;trivial|some p=>intro h;exact h.elim
        |some p=>
         obtain⟨xs,w1⟩:=p;cases flL E w (slook E t).args with
          |none=>intro h;exact h.elim
          |some q=>
           obtain⟨ys,w2⟩:=q;rintro⟨rfl,e2,e3⟩;simp only;have :=ih (min w w1) (by omega) s ts hr hIr;revert this;cases rdL l (min w w1) s with
            |none=>cases flL E (min w w1) ts with|none=>intro _;trivial|some p=>intro h;exact h.elim
            |some p=>
             obtain⟨xs',w1'⟩:=p;cases flL E (min w w1) ts with
              |none=>intro h;exact h.elim
              |some q=>
               obtain⟨ys',w2'⟩:=q;rintro⟨d1,d2,d3⟩;refine⟨d1,?_,fun y hy=>?_⟩;·rw[d2,List.map_cons,k3,k4,k6,e2];simp[Tm.ren,Tm.renL_map]
               ·rcases List.mem_cons.1 hy with rfl|hy;·exact .mk _ _ _ _ (fun h=>absurd h (by decide)) e3
                ·exact d3 y hy
theorem ZkY(hM:Mon N l φ E){xs ys:List Tm}(h:ys=xs.map (Tm.ren φ))(hv:∀x∈xs,x.Vars (Free l)):tidy ys=tidy xs:=by rw[h];exact Zlw (fun a b ha hb e=>hM.inj ha hb e) xs hv
end
end Go.Proofs.Ytlpmfkpefoegeac
