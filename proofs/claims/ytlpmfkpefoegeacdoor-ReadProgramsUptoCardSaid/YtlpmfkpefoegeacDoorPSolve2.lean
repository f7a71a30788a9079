import Derived.Test.YtlpmfkpefoegeacDoorPSolve
namespace Go.Proofs.YtlpmfkpefoegeacDoor
set_option maxRecDepth 100000
set_option maxHeartbeats 16000000
set_option linter.all false
def pot(fuel:Nat)(cs:List Chc):Nat:=25*fuel+(cs.map fun c=>24 - c.at_).sum
def Zhd(N:Int)(gl:List Gl):Prop:=∀g∈gl,g.t.In N/\g.bar<=150
structure ChcOk (P : List Cl) (N : Int) (L : Nat) (c : Chc) : Prop where
  ne : c.g ≠ []
  gls : Zhd N c.g
  one : 1 ≤ c.at_
  lt : c.at_ < P.length
  trail : c.trail ≤ L
structure SvOk (P : List Cl) (s : Sv) : Prop where
  prog : Zhb P
  vars0 : 0 ≤ s.vars
  env : EnvOk s.vars s.env
  chc : ∀ c ∈ s.choices, ChcOk P s.vars s.env.length c
  trails : s.choices.Pairwise fun c d => d.trail ≤ c.trail
  potV : s.vars + 8 * (pot s.fuel s.choices : Nat) ≤ 30008
  potE : s.env.length + 400 * pot s.fuel s.choices ≤ 1500000
  few : s.choices.length + s.fuel ≤ 150
section
variable {P : List Cl} {g : Gl} {rest : List Gl}
end
section
variable {P : List Cl}
end
end Go.Proofs.YtlpmfkpefoegeacDoor
