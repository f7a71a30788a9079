import Derived.Test.YtlpmfkpefoegeacDoorHMark
import Derived.Test.YtlpmfkpefoegeacDoorQMarks
import Derived.Test.YtlpmfkpefoegeacDoorQIsHeap
namespace Go.Proofs.YtlpmfkpefoegeacDoor
set_option maxRecDepth 100000
set_option maxHeartbeats 16000000
set_option linter.all false
structure FxSt (l : List Ce) (roots : List Int) (m : List Bool) : Prop where
  len : m.length = l.length
  sound : ∀ i, m[i]? = some true → Reach l roots i
section
variable {l : List Ce} {roots : List Int} {m : List Bool}
end
end Go.Proofs.YtlpmfkpefoegeacDoor
namespace Go.Proofs.YtlpmfkpefoegeacDoor
set_option maxRecDepth 100000
set_option maxHeartbeats 16000000
set_option linter.all false
open Go.RowKit
theorem OwnB.mark{w:World}{B g n cap:Nat}{m:List Bool}(h:OwnB w B m (.slice (some ⟨g,0,none⟩) n cap)){k:Nat}(hk:k<m.length):OwnB (w.setCell ⟨g,k,none⟩ (.bool true)) B (m.set k true) (.slice (some ⟨g,0,none⟩) n cap)/\(∀o,w.frozen? ⟨g,o,none⟩=false)/\Zai (.slice (some ⟨g,0,none⟩) n cap)=some g/\B<=g/\g<w.heap.size:=by obtain⟨g',cap',e,h0,h1,h2,h3,h4,h5,h6,hc⟩:=OwnF.at ZbS h (by omega);simp only[Value.slice.injEq,Option.some.injEq,Addr.mk.injEq,and_true]at e;obtain⟨rfl,rfl,rfl⟩:=e;refine⟨?_,h4,h3,h6,h5⟩;have :=OwnF.set (y:=true) (u:= .bool true) ZbS h h3 (i:=k) (j:=0) hk (by omega) rfl trivial;simpa using this
end Go.Proofs.YtlpmfkpefoegeacDoor
