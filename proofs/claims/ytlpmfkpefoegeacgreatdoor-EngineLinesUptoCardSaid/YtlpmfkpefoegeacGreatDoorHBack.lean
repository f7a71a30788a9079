import Derived.Test.YtlpmfkpefoegeacGreatDoorQIsHeap
namespace Go.Proofs.YtlpmfkpefoegeacGreatDoor
set_option maxRecDepth 99999
set_option maxHeartbeats 0
set_option linter.all false
open Classical in noncomputable def Bl(h:Hp)(roots:List Int):List Bool×Int:=if h.Good then(marks h.cells roots,0)else([],1)
structure aah where
  heap : Hp
  roots : List Int
  dP : List Int
  dQ : List Int
  err : Int
  deriving DecidableEq
open Classical in noncomputable def lL(h:Hp)(roots dP dQ:List Int):aah:=if ¬h.Good then⟨h,[],[],[],1⟩else if ¬(∀r∈roots,Inb h.cells r)then⟨h,[],[],[],4⟩else⟨iq h roots,roots.map (ahead (marks h.cells roots)),dP.map (ahead (marks h.cells roots)),dQ.map (ahead (aT (marks h.cells roots) h.trail)),0⟩
section
variable {h : Hp} {roots : List Int}
end
open Classical in noncomputable def oO(h:Hp)(n:Int):Hp×Int:=if ¬h.Good then(h,1)else if ¬(0<=n/\n<=h.trail.length)then(h,2)else(⟨gK h.cells (h.trail.drop n.toNat),h.trail.take n.toNat⟩,0)
open Classical in noncomputable def oP(h:Hp)(n:Int):Hp×Int:=if ¬h.Good then(h,1)else if ¬(0<=n/\n<=h.cells.length)then(h,2)else if ¬Hp.Good ⟨h.cells.take n.toNat,h.trail⟩then(h,1)else(⟨h.cells.take n.toNat,h.trail⟩,0)
def xL:Tm:= .mk 0 0 .empty []
def iT(l:List Ce)(w:Nat)(a:Int):Option (Tm×Nat):=match dX l w [a]with|some (t::_,w')=>some (t,w')|_=>none
def leftOf(most:Int):Int:=max 0 (min most 65536)
def xM(left:Int):Option (Tm×Nat)->Tm×Int×Int|none=>(xL,0,3)|some (t,w)=>(t,left - w,0)
open Classical in noncomputable def dF(h:Hp)(a most:Int):Tm×Int×Int:=if ¬h.Good then(xL,0,1)else if ¬Inb h.cells a then(xL,0,4)else xM (leftOf most) (iT h.cells (leftOf most).toNat a)
theorem aj1(l:List Ce)(w:Nat)(a:Int):dX l (w+1) [a]=if look l a<0 then none else if(cellAt l (look l a)).kind=3 then(match dX l w (argsAt (look l a) (cellAt l (look l a)).n)with|none=>none|some (ts,w1)=>some ([.mk 3 0 (cellAt l (look l a)).s ts],w1))else some ([if(cellAt l (look l a)).kind=0 then .mk 0 (look l a) .empty []else .mk (cellAt l (look l a)).kind (cellAt l (look l a)).n (cellAt l (look l a)).s []],w):=by
 rw[dX];by_cases h1:look l a<0;·rw[ah h1,ah h1]
 ·rw[ae h1,ae h1];by_cases h2:(cellAt l (look l a)).kind=3;·rw[ah h2,ah h2];cases hq:dX l w (argsAt (look l a) (cellAt l (look l a)).n)with|none=>rfl|some p=>obtain⟨ts,w1⟩:=p;have :=(EJ l w _ _ _ hq).1;simp only[Eu this,yK]
  ·rw[ae h2,ae h2];simp only[yK]
theorem aai(l:List Ce)(a:Int):iT l 0 a=none:=by unfold iT;rw[Ie]
theorem R3(l:List Ce)(w:Nat)(a:Int):iT l (w+1) a=if look l a<0 then none else if(cellAt l (look l a)).kind=3 then(match dX l w (argsAt (look l a) (cellAt l (look l a)).n)with|none=>none|some (ts,w1)=>some (.mk 3 0 (cellAt l (look l a)).s ts,w1))else some (if(cellAt l (look l a)).kind=0 then .mk 0 (look l a) .empty []else .mk (cellAt l (look l a)).kind (cellAt l (look l a)).n (cellAt l (look l a)).s [],w):=by
 unfold iT;rw[aj1];by_cases h1:look l a<0;·rw[ah h1,ah h1]
 ·rw[ae h1,ae h1];by_cases h2:(cellAt l (look l a)).kind=3;·rw[ah h2,ah h2];cases dX l w (argsAt (look l a) (cellAt l (look l a)).n)with|none=>rfl|some p=>rfl
  ·rw[ae h2,ae h2]
theorem MX{l:List Ce}{w:Nat}{a:Int}{t:Tm}{w':Nat}(h:iT l w a=some (t,w')):w'<=w:=by
 unfold iT at h;split at h;·rename_i t' ts w1 hq;simp only[cZ,fG]at h;have :=(EJ l w _ _ _ hq).1;omega
 ·cases h
theorem Jc(l:List Ce)(w:Nat)(a:Int)(r:List Int):dX l w (a::r)=(match iT l w a with|none=>none|some (t,w1)=>match dX l w1 r with|none=>none|some (rs,w2)=>some (t::rs,w2)):=by
 cases w with
  |zero=>rw[Ie,aai]
  |succ w=>
   rw[dX,R3];by_cases hn:look l a<0;·rw[ah hn,ah hn]
   ·rw[ae hn,ae hn];by_cases h3:(cellAt l (look l a)).kind=3;·rw[ah h3,ah h3];cases hq:dX l w (argsAt (look l a) (cellAt l (look l a)).n)with|none=>rfl|some p=>obtain⟨ts,w1⟩:=p;have :=(EJ l w _ _ _ hq).1;simp only[Eu this];cases dX l w1 r<;>rfl
    ·rw[ae h3,ae h3];simp only;cases dX l w r<;>rfl
theorem aaj(l:List Ce):∀(s:List Int)(w:Nat)(a:Int),dX l w (s++[a])=(match dX l w s with|none=>none|some (ts,w1)=>match iT l w1 a with|none=>none|some (t,w2)=>some (ts++[t],w2))
 |[],w,a=>by rw[xn,yK,Jc];cases h:iT l w a with|none=>simp only[h]|some p=>simp only[yK,xn,h]
 |x::s,w,a=>by rw[mE,Jc,Jc];cases hx:iT l w x with|none=>rfl|some p=>obtain⟨t,w1⟩:=p;simp only;rw[aaj l s w1 a];cases dX l w1 s with|none=>rfl|some q=>obtain⟨ts,w2⟩:=q;simp only;cases iT l w2 a with|none=>rfl|some r=>rfl
theorem aj2(l:List Ce)(w:Nat)(s r:List Int)(h:dX l w s=none):dX l w (s++r)=none:=by induction s generalizing w with|nil=>rw[yK]at h;cases h|cons x s ih=>rw[Jc]at h;rw[mE,Jc];cases hx:iT l w x with|none=>rfl|some p=>obtain⟨t,w1⟩:=p;rw[hx]at h;simp only at h ⊢;cases hq:dX l w1 s with|none=>rw[ih w1 hq]|some q=>rw[hq]at h;cases h
