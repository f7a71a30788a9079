import Derived.Test.YtlpmfkpefoegeacQIsHeap
namespace Go.Proofs.Ytlpmfkpefoegeac
set_option maxRecDepth 100000
set_option maxHeartbeats 16000000
set_option linter.all false
open Classical in /-- what Marks answers -/ noncomputable def ZeX(h:Hp)(roots:List Int):List Bool×Int:=if h.Good then(marks h.cells roots,0)else([],1)
structure Coll where
  heap : Hp
  roots : List Int
  tops : List Int
  mks : List Int
  err : Int
  deriving DecidableEq
open Classical in noncomputable def ZaT(h:Hp)(roots tops mks:List Int):Coll:=if ¬h.Good then⟨h,[],[],[],1⟩else if ¬(∀r∈roots,Inb h.cells r)then⟨h,[],[],[],4⟩else⟨gcH h roots,roots.map (ahead (marks h.cells roots)),tops.map (ahead (marks h.cells roots)),mks.map (ahead (Zar (marks h.cells roots) h.trail)),0⟩
section
variable {h : Hp} {roots : List Int}
end
end Go.Proofs.Ytlpmfkpefoegeac
