import Derived.Test.YtlpmfkpefoegeacGreatDoorPSolve2
import Derived.Test.YtlpmfkpefoegeacGreatDoorQUbind
namespace Go.Proofs.YtlpmfkpefoegeacGreatDoor
set_option maxRecDepth 99999
set_option maxHeartbeats 0
set_option linter.all false
open Go.RowKit
def TmV(A:Nat->Prop)(w:World)(t:Tm)(v:Value):Prop:=∃us,v= .agg us.toArray/\Tm.rep A w t us
def Zy(A:Nat->Prop)(w:World):Env->List (Int×Value)->Prop|[],[]=>True|(n,t)::E,(m,v)::L=>(m=n/\TmV A w t v)/\Zy A w E L|_,_=>False
def aiE(A:Nat->Prop)(w:World)(mb:Nat)(E:Env):Prop:=∃L,ahX w mb L/\Zy A w E L
def Zz(A:Nat->Prop)(w:World):List Gl->Value->Prop|[],v=>v= .pointer none|g::r,v=>∃b a cap rv,v= .pointer (some ⟨b,0,none⟩)/\A b/\w.heap[b]?=some (.cells #[.int .i64 g.t.kind,.int .i64 g.t.n,.string g.t.s,.slice a g.t.args.length cap,.int .i64 (g.bar:Int),rv] 100 (0,0))/\Tm.rep A w g.t [.int .i64 g.t.kind,.int .i64 g.t.n,.string g.t.s,.slice a g.t.args.length cap]/\Zz A w r rv
def aiF(A:Nat->Prop)(w:World)(c:jf)(vs:List Value):Prop:=∃v,vs=[v,.int .i64 (c.at_:Int),.int .i64 (c.trail:Int)]/\Zz A w c.g v
def oJ(A:Nat->Prop)(w:World)(e:Ev)(vs:List Value):Prop:=∃v,vs=[.int .i64 e.kind,v]/\iP A w e.terms v/\au e.kind
theorem uy:gz oJ:=by
 refine⟨fun A w w' c vs h hk=>?_,fun A A' w c vs h hA=>?_,fun A w c vs h=>?_⟩;·obtain⟨v,h1,h2,h3⟩:=h;exact⟨v,h1,h2.keeps hk,h3⟩
 ·obtain⟨v,h1,h2,h3⟩:=h;exact⟨v,h1,aj.mono Tm.aA (by omega) h2 hA,h3⟩
 ·obtain⟨v,rfl,h2,h3⟩:=h;obtain⟨a,cap,_,_,rfl, -⟩:=aj.at h2;simp[Value.oneCell']
theorem aI.mono'{α:Type}{w:World}{base:Nat}{E:TypeId}{size:Nat}{R:(Nat->Prop)->World->α->List Value->Prop}{A A':Nat->Prop}{xs:List α}{v:Value}(hR:gz R)(h:aI w base E size R A xs v)(hA:∀b,b<w.heap.size->A b->ownB v≠some b->A' b):aI w base E size R A' xs v:=by obtain⟨vals,hl,ho,he⟩:=h;refine⟨vals,hl,ho,fun i x vs hx hv=>?_⟩;obtain⟨h1,h2⟩:=he i x vs hx hv;exact⟨h1,hR.2.1 _ _ _ _ _ h2 fun b hb hb'=>⟨hA b hb hb'.1 hb'.2,hb'.2⟩⟩
def SM(g mb:Nat)(tv cv ov:Value)(b:Nat):Prop:=b=g\/b=mb\/ownB tv=some b\/ownB cv=some b\/ownB ov=some b
def SA(g mb xb:Nat)(tv cv ov:Value)(b:Nat):Prop:=¬SM g mb tv cv ov b/\b≠xb
structure SvI (base : Nat) (P : List Cl) (q : Nat) (g mb xb : Nat) (pv tv cv ov : Value) (s : Sv) (w : World) : Prop where
  box : w.heap[g]? = some (.cells #[pv, .map (some mb), tv, cv, .int .i64 s.vars, .int .i64 (s.fuel : Int), ov, .int .i64 (q : Int)] 97 (0, 0))
  prog : EP (fun b => b < base) w P pv
  env : aiE (SA g mb xb tv cv ov) w mb s.env
  trail : dA w base (s.env.map (·.1)) tv
  cu : aI w base 161 3 aiF (SA g mb xb tv cv ov) s.choices.reverse cv
  out : aI w base 42 2 oJ (SA g mb xb tv cv ov) s.out ov
  bg : base ≤ g
  bm : base ≤ mb
  bx : base ≤ xb
  bxl : xb < w.heap.size
  nx : xb = g ∨ ¬ SM g mb tv cv ov xb
  v0 : 0 ≤ s.vars
  v1 : s.vars ≤ 1000000
  fu : s.fuel ≤ 150
  qq : q ≤ 8
  len : s.env.length ≤ 1000000
  few : s.choices.length ≤ 1000
  ar0 : s.out.length ≤ 20
section
variable {base : Nat} {P : List Cl} {q g mb xb : Nat} {pv tv cv ov : Value} {s : Sv} {w : World}
end
