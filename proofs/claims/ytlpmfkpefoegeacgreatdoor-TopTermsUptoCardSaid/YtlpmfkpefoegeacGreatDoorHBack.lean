import Derived.Test.YtlpmfkpefoegeacGreatDoorQIsHeap
namespace Go.Proofs.YtlpmfkpefoegeacGreatDoor
set_option maxRecDepth 99999
set_option maxHeartbeats 0
set_option linter.all false
open Classical in noncomputable def EI(h:Hp)(roots:List Int):List Bool×Int:=if h.Good then(marks h.cells roots,0)else([],1)
structure afZ where
  heap : Hp
  roots : List Int
  eB : List Int
  eD : List Int
  err : Int
  deriving DecidableEq
open Classical in noncomputable def oo(h:Hp)(roots eB eD:List Int):afZ:=if ¬h.Good then⟨h,[],[],[],1⟩else if ¬(∀r∈roots,Inb h.cells r)then⟨h,[],[],[],4⟩else⟨jy h roots,roots.map (ahead (marks h.cells roots)),eB.map (ahead (marks h.cells roots)),eD.map (ahead (aP (marks h.cells roots) h.trail)),0⟩
section
variable {h : Hp} {roots : List Int}
end
open Classical in noncomputable def rQ(h:Hp)(n:Int):Hp×Int:=if ¬h.Good then(h,1)else if ¬(0<=n/\n<=h.trail.length)then(h,2)else(⟨iP h.cells (h.trail.drop n.toNat),h.trail.take n.toNat⟩,0)
open Classical in noncomputable def rR(h:Hp)(n:Int):Hp×Int:=if ¬h.Good then(h,1)else if ¬(0<=n/\n<=h.cells.length)then(h,2)else if ¬Hp.Good ⟨h.cells.take n.toNat,h.trail⟩then(h,1)else(⟨h.cells.take n.toNat,h.trail⟩,0)
def xE:Tm:= .mk 0 0 .empty []
def jV(l:List Ce)(w:Nat)(a:Int):Option (Tm×Nat):=match eO l w [a]with|some (t::_,w')=>some (t,w')|_=>none
def leftOf(most:Int):Int:=max 0 (min most 65536)
def AY(left:Int):Option (Tm×Nat)->Tm×Int×Int|none=>(xE,0,3)|some (t,w)=>(t,left - w,0)
open Classical in noncomputable def dK(h:Hp)(a most:Int):Tm×Int×Int:=if ¬h.Good then(xE,0,1)else if ¬Inb h.cells a then(xE,0,4)else AY (leftOf most) (jV h.cells (leftOf most).toNat a)
theorem aqk(l:List Ce)(w:Nat)(a:Int):eO l (w+1) [a]=if look l a<0 then none else if(cellAt l (look l a)).kind=3 then(match eO l w (argsAt (look l a) (cellAt l (look l a)).n)with|none=>none|some (ts,w1)=>some ([.mk 3 0 (cellAt l (look l a)).s ts],w1))else some ([if(cellAt l (look l a)).kind=0 then .mk 0 (look l a) .empty []else .mk (cellAt l (look l a)).kind (cellAt l (look l a)).n (cellAt l (look l a)).s []],w):=by
 rw[eO];by_cases h1:look l a<0;·rw[G h1,G h1]
 ·rw[O h1,O h1];by_cases h2:(cellAt l (look l a)).kind=3;·rw[G h2,G h2];cases hq:eO l w (argsAt (look l a) (cellAt l (look l a)).n)with|none=>rfl|some p=>obtain⟨ts,w1⟩:=p;have :=(Js l w _ _ _ hq).1;simp only[F9 this,Cj]
  ·rw[O h2,O h2];simp only[Cj]
theorem af0(l:List Ce)(a:Int):jV l 0 a=none:=by unfold jV;rw[ML]
theorem Yr(l:List Ce)(w:Nat)(a:Int):jV l (w+1) a=if look l a<0 then none else if(cellAt l (look l a)).kind=3 then(match eO l w (argsAt (look l a) (cellAt l (look l a)).n)with|none=>none|some (ts,w1)=>some (.mk 3 0 (cellAt l (look l a)).s ts,w1))else some (if(cellAt l (look l a)).kind=0 then .mk 0 (look l a) .empty []else .mk (cellAt l (look l a)).kind (cellAt l (look l a)).n (cellAt l (look l a)).s [],w):=by
 unfold jV;rw[aqk];by_cases h1:look l a<0;·rw[G h1,G h1]
 ·rw[O h1,O h1];by_cases h2:(cellAt l (look l a)).kind=3;·rw[G h2,G h2];cases eO l w (argsAt (look l a) (cellAt l (look l a)).n)with|none=>rfl|some p=>rfl
  ·rw[O h2,O h2]
theorem He{l:List Ce}{w:Nat}{a:Int}{t:Tm}{w':Nat}(h:jV l w a=some (t,w')):w'<=w:=by
 unfold jV at h;split at h;·rename_i t' ts w1 hq;simp only[bW,gI]at h;have :=(Js l w _ _ _ hq).1;omega
 ·cases h
theorem NN(l:List Ce)(w:Nat)(a:Int)(r:List Int):eO l w (a::r)=(match jV l w a with|none=>none|some (t,w1)=>match eO l w1 r with|none=>none|some (rs,w2)=>some (t::rs,w2)):=by
 cases w with
  |zero=>rw[ML,af0]
  |succ w=>
   rw[eO,Yr];by_cases hn:look l a<0;·rw[G hn,G hn]
   ·rw[O hn,O hn];by_cases h3:(cellAt l (look l a)).kind=3;·rw[G h3,G h3];cases hq:eO l w (argsAt (look l a) (cellAt l (look l a)).n)with|none=>rfl|some p=>obtain⟨ts,w1⟩:=p;have :=(Js l w _ _ _ hq).1;simp only[F9 this];cases eO l w1 r<;>rfl
    ·rw[O h3,O h3];simp only;cases eO l w r<;>rfl
theorem af1(l:List Ce):∀(s:List Int)(w:Nat)(a:Int),eO l w (s++[a])=(match eO l w s with|none=>none|some (ts,w1)=>match jV l w1 a with|none=>none|some (t,w2)=>some (ts++[t],w2))
 |[],w,a=>by rw[Ap,Cj,NN];cases h:jV l w a with|none=>simp only[h]|some p=>simp only[Cj,Ap,h]
 |x::s,w,a=>by rw[oO,NN,NN];cases hx:jV l w x with|none=>rfl|some p=>obtain⟨t,w1⟩:=p;simp only;rw[af1 l s w1 a];cases eO l w1 s with|none=>rfl|some q=>obtain⟨ts,w2⟩:=q;simp only;cases jV l w2 a with|none=>rfl|some r=>rfl
theorem aql(l:List Ce)(w:Nat)(s r:List Int)(h:eO l w s=none):eO l w (s++r)=none:=by induction s generalizing w with|nil=>rw[Cj]at h;cases h|cons x s ih=>rw[NN]at h;rw[oO,NN];cases hx:jV l w x with|none=>rfl|some p=>obtain⟨t,w1⟩:=p;rw[hx]at h;simp only at h ⊢;cases hq:eO l w1 s with|none=>rw[ih w1 hq]|some q=>rw[hq]at h;cases h
