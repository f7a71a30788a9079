import Derived.Test.YtlpmfkpefoegeacDoorQLoad
import Derived.Test.YtlpmfkpefoegeacDoorQIsHeap
import Derived.Test.YtlpmfkpefoegeacDoorQOwn
namespace Go.Proofs.YtlpmfkpefoegeacDoor
set_option maxRecDepth 100000
set_option maxHeartbeats 16000000
set_option linter.all false
open Go.RowKit
theorem SlR.drop{α:Type}{size:Nat}{R:(Nat->Prop)->World->α->List Value->Prop}{A:Nat->Prop}{w:World}{l:List α}{a:Option Addr}{len cap:Nat}(h:SlR size R A w l (.slice a len cap)){k:Nat}(hk:k<=l.length):SlR size R A w (l.drop k) (.slice (if cap=k then a else a.map fun x=>x.add (k*size)) (len - k) (cap - k)):=by
 obtain⟨b,off,hs,he⟩:=h;refine⟨b,off+k*size,?_,fun i x hx=>?_⟩
 ·obtain⟨h1,⟨h0,a',c',e,hc⟩|⟨h0,hA,c',e,hc,hm⟩⟩:=hs;·simp only[Value.slice.injEq]at e;obtain⟨rfl,rfl,rfl⟩:=e;exact⟨by simp;omega,.inl ⟨by simp;omega,_,_,by rw[Nat.zero_sub],by omega⟩⟩
  ·simp only[Value.slice.injEq]at e;obtain⟨rfl,rfl,rfl⟩:=e;by_cases hkl:k=l.length;·exact⟨by simp;omega,.inl ⟨by simp;omega,_,_,by rw[hkl,Nat.sub_self],by omega⟩⟩
   ·refine⟨by simp;omega,.inr ⟨by simp;omega,hA,cap - k,?_,by simp;omega,by omega⟩⟩;rw[if_neg (by omega),List.length_drop];simp[Addr.add]
 ·rw[List.getElem?_drop]at hx;obtain⟨vs,h1,h2,h3⟩:=he _ _ hx;exact⟨vs,h1,h2,by rw[show off+k*size+i*size=off+(k+i)*size by rw[Nat.add_mul];omega];exact h3⟩
end Go.Proofs.YtlpmfkpefoegeacDoor
