import Derived.Test.YtlpmfkpefoegeacPSolveE
namespace Go.Proofs.Ytlpmfkpefoegeac
set_option maxRecDepth 100000
set_option maxHeartbeats 16000000
set_option linter.all false
section
variable {P : List Cl}
def Sv.more(s:Sv)(m:Nat):Sv:={s with fuel:=s.fuel+m}
end
theorem ZiX{P:List Cl}{Q:List Tm}{vars:Int}{f:Nat}(hP:GoodP P)(hQ:ZbZ Q vars)(hf:f<=150):SvOk P ⟨[],[],vars,f,[]⟩/\GlsOk vars (Q.map fun t=>⟨t,0⟩):=by
 obtain⟨h0,h8,h5,hl⟩:=hQ;refine⟨⟨hP,h0,EnvOk.nil _,by simp,by simp,?_,?_,?_⟩,?_⟩;·simp only[pot,List.map_nil,List.sum_nil];omega
 ·simp only[pot,List.map_nil,List.sum_nil,List.length_nil];omega
 ·simpa using hf
 ·intro g hg;obtain⟨t,ht,rfl⟩:=List.mem_map.1 hg;exact⟨(hl t ht).2.1,by simp⟩
theorem ZcA(P:List Cl)(Q:List Tm)(vars fuel:Int):(¬(GoodP P/\ZbZ Q vars)/\Zca P Q vars fuel=([],1))\/((GoodP P/\ZbZ Q vars)/\(fuel<0\/fuel>150)/\Zca P Q vars fuel=([],2))\/((GoodP P/\ZbZ Q vars)/\0<=fuel/\fuel<=150/\Zca P Q vars fuel=((Ze3 P vars.toNat (fuel.toNat+14) (Q.map fun t=>⟨t,0⟩) ⟨[],[],vars,fuel.toNat,[]⟩).out,0)):=by
 unfold Zca;by_cases h:GoodP P/\ZbZ Q vars
 ·rw[if_neg (by simpa using h)];by_cases h2:fuel<0\/fuel>150;·rw[if_pos h2];exact .inr (.inl ⟨h,h2,rfl⟩)
  ·rw[if_neg h2];exact .inr (.inr ⟨h,by omega,by omega,rfl⟩)
 ·rw[if_pos h];exact .inl ⟨h,rfl⟩
structure Td where
  t : Tm
  call : Nat
structure Pv where
  fuel : Nat
  vars : Int
  out : List Ev
  ended : Bool
  calls : Nat
def Pv.put(p:Pv)(kind:Int):Pv:={p with out:=p.out++[⟨kind,[]⟩],ended:=true}
structure Fr where
  call : Nat
  g : Td
  rest : List Td
  gg : Gl
  grest : List Gl
  env : Env
  next : Nat
  lev : Nat
def ZmW(P:List Cl)(fr:List Fr):List Chc:=fr.filterMap fun f=>if f.next<P.length then some ⟨f.gg::f.grest,f.next,f.env.length⟩else none
def below(c:Nat)(fr:List Fr):List Fr:=fr.dropWhile fun f=>decide (c<=f.call)
def ZnW(P:List Cl)(fr:List Fr):List Td->List Gl->Prop|[],[]=>True|a::td,b::gl=>(a.t=b.t/\b.bar=(ZmW P (below a.call fr)).length)/\ZnW P fr td gl|_,_=>False
def Desc(td:List Td):Prop:=td.Pairwise fun a b=>b.call<=a.call
def ZnB(P:List Cl):List Fr->Prop|[]=>True|f::fr=>ZnB P fr/\ZnW P fr (f.g::f.rest) (f.gg::f.grest)/\(∀x∈fr,x.call<f.call)/\(∀a∈f.g::f.rest,a.call<f.call)/\Desc (f.g::f.rest)/\(∀x∈fr,x.env <+: f.env)
section
variable {P : List Cl} {q : Nat}
end
section
variable {P : List Cl} {q : Nat}
structure Lnk (P : List Cl) (q : Nat) (s : Sv) (p : Pv) (fr : List Fr) : Prop where
  ok : SvOk P { s with choices := ZmW P fr }
  q : (q : Int) ≤ s.vars
  frs : ZnB P fr
  fuel : p.fuel = s.fuel
  vars : s.vars = p.vars
  out : s.out = p.out
  ended : p.ended = false
  pre : ∀ x ∈ fr, x.env <+: s.env
  lev : ∀ x ∈ fr, s.fuel < x.lev
  calls : ∀ x ∈ fr, x.call ≤ p.calls
structure LnkG (P : List Cl) (q : Nat) (s : Sv) (p : Pv) (fr : List Fr) (td : List Td) (gl : List Gl) : Prop extends Lnk P q s p fr where
  chs : s.choices = ZmW P fr
  gls : GlsOk s.vars gl
  rel : ZnW P fr td gl
  desc : Desc td
  tcalls : ∀ a ∈ td, a.call ≤ p.calls
theorem SvOk.pop{s:Sv}{c:Chc}{cs:List Chc}(h:SvOk P {s with choices:=c::cs}):SvOk P {s with choices:=cs,env:=s.env.take c.trail}:=by
 have hc:=h.chc c (by simp);obtain⟨h1,h2,h3,h4,h5,h6,h7,h8⟩:=h;simp only at h1 h2 h3 h4 h5 h6 h7 h8;rw[ZcV]at h6 h7;have hT:=List.pairwise_cons.1 h5;have htr:=hc.trail;simp only at htr;have hEl:(s.env.take c.trail).length=c.trail:=by rw[List.length_take];omega
 refine⟨h1,h2,h3.take _,fun x hx=>?_,hT.2,by simp only;omega,by simp only[hEl];omega,by simp only[List.length_cons]at h8 ⊢;omega⟩;have k:=h4 x (by simp[hx]);exact⟨k.ne,k.gls,k.one,k.lt,by simp only[hEl];exact hT.1 x hx⟩
end
end Go.Proofs.Ytlpmfkpefoegeac
