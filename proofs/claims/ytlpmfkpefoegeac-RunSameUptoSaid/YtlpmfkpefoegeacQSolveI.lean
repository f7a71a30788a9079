import Derived.Test.YtlpmfkpefoegeacPSolveF
import Derived.Test.YtlpmfkpefoegeacQMap
import Derived.Test.YtlpmfkpefoegeacQUbind
namespace Go.Proofs.Ytlpmfkpefoegeac
set_option maxRecDepth 100000
set_option maxHeartbeats 16000000
set_option linter.all false
open Go.RowKit
def TmV(A:Nat->Prop)(w:World)(t:Tm)(v:Value):Prop:=∃us,v= .agg us.toArray/\Tm.rep A w t us
theorem TmV.keeps{A:Nat->Prop}{w w':World}{t:Tm}{v:Value}(h:TmV A w t v)(hk:Keeps A w w'):TmV A w' t v:=by obtain⟨us,h1,h2⟩:=h;exact⟨us,h1,Tm.rep_lasts.1 _ _ _ _ _ h2 hk⟩
theorem TmV.mono{A A':Nat->Prop}{w:World}{t:Tm}{v:Value}(h:TmV A w t v)(hA:∀b,b<w.heap.size->A b->A' b):TmV A' w t v:=by obtain⟨us,h1,h2⟩:=h;exact⟨us,h1,Tm.rep_lasts.2.1 _ _ _ _ _ h2 hA⟩
def EnvL(A:Nat->Prop)(w:World):Env->List (Int×Value)->Prop|[],[]=>True|(n,t)::E,(m,v)::L=>(m=n/\TmV A w t v)/\EnvL A w E L|_,_=>False
theorem EnvL.keeps{A:Nat->Prop}{w w':World}:∀{E:Env}{L:List (Int×Value)},EnvL A w E L->Keeps A w w'->EnvL A w' E L|[],[],_,_=>trivial|(n,t)::E,(m,v)::L,h,hk=>⟨⟨h.1.1,h.1.2.keeps hk⟩,EnvL.keeps h.2 hk⟩|[],_::_,h,_=>h.elim|_::_,[],h,_=>h.elim
theorem EnvL.mono{A A':Nat->Prop}{w:World}:∀{E:Env}{L:List (Int×Value)},EnvL A w E L->(∀b,b<w.heap.size->A b->A' b)->EnvL A' w E L|[],[],_,_=>trivial|(n,t)::E,(m,v)::L,h,hk=>⟨⟨h.1.1,h.1.2.mono hk⟩,EnvL.mono h.2 hk⟩|[],_::_,h,_=>h.elim|_::_,[],h,_=>h.elim
theorem EnvL.append{A:Nat->Prop}{w:World}:∀{E:Env}{L:List (Int×Value)}{E':Env}{L':List (Int×Value)},EnvL A w E L->EnvL A w E' L'->EnvL A w (E++E') (L++L')|[],[],_,_,_,h=>h|(n,t)::E,(m,v)::L,_,_,h,h'=>⟨h.1,EnvL.append h.2 h'⟩|[],_::_,_,_,h,_=>h.elim|_::_,[],_,_,h,_=>h.elim
theorem EnvL.take{A:Nat->Prop}{w:World}:∀{E:Env}{L:List (Int×Value)}(k:Nat),EnvL A w E L->EnvL A w (E.take k) (L.take k)|[],[],k,_=>by simp[EnvL]|(n,t)::E,(m,v)::L,0,h=>by simp[EnvL]|(n,t)::E,(m,v)::L,k+1,h=>⟨h.1,EnvL.take k h.2⟩|[],_::_,_,h=>h.elim|_::_,[],_,h=>h.elim
theorem EnvL.keys{A:Nat->Prop}{w:World}:∀{E:Env}{L:List (Int×Value)},EnvL A w E L->L.map (·.1)=E.map (·.1)|[],[],_=>rfl|(n,t)::E,(m,v)::L,h=>by rw[List.map_cons,List.map_cons,EnvL.keys h.2,h.1.1]|[],_::_,h=>h.elim|_::_,[],h=>h.elim
theorem EnvL.get{A:Nat->Prop}{w:World}(n:Int):∀{E:Env}{L:List (Int×Value)},EnvL A w E L->(eget E n=none/\mget L n=none)\/∃t v,eget E n=some t/\mget L n=some v/\TmV A w t v
 |[],[],_=> .inl ⟨rfl,rfl⟩
 |(k,t)::E,(m,v)::L,h=>by
  obtain⟨⟨rfl,h1⟩,h2⟩:=h;by_cases e:m=n;·exact .inr ⟨t,v,by simp[eget,e],by simp[mget,e],h1⟩
  ·have e1:eget ((m,t)::E) n=eget E n:=by simp[eget,e]
   have e2:mget ((m,v)::L) n=mget L n:=by simp[mget,e]
   rw[e1,e2];exact EnvL.get n h2
 |[],_::_,h=>h.elim
 |_::_,[],h=>h.elim
def EnvR(A:Nat->Prop)(w:World)(mb:Nat)(E:Env):Prop:=∃L,MapIs w mb L/\EnvL A w E L
def GlsR(A:Nat->Prop)(w:World):List Gl->Value->Prop|[],v=>v= .pointer none|g::r,v=>∃b a cap rv,v= .pointer (some ⟨b,0,none⟩)/\A b/\w.heap[b]?=some (.cells #[.int .i64 g.t.kind,.int .i64 g.t.n,.string g.t.s,.slice a g.t.args.length cap,.int .i64 (g.bar:Int),rv] 45 (0,0))/\Tm.rep A w g.t [.int .i64 g.t.kind,.int .i64 g.t.n,.string g.t.s,.slice a g.t.args.length cap]/\GlsR A w r rv
theorem GlsR.keeps{A:Nat->Prop}{w w':World}:∀{l:List Gl}{v:Value},GlsR A w l v->Keeps A w w'->GlsR A w' l v|[],v,h,_=>h|g::r,v,h,hk=>by obtain⟨b,a,cap,rv,h1,h2,h3,h4,h5⟩:=h;exact⟨b,a,cap,rv,h1,h2,Zaj h3 hk h2,Tm.rep_lasts.1 _ _ _ _ _ h4 hk,GlsR.keeps h5 hk⟩
theorem GlsR.mono{A A':Nat->Prop}{w:World}:∀{l:List Gl}{v:Value},GlsR A w l v->(∀b,b<w.heap.size->A b->A' b)->GlsR A' w l v|[],v,h,_=>h|g::r,v,h,hk=>by obtain⟨b,a,cap,rv,h1,h2,h3,h4,h5⟩:=h;exact⟨b,a,cap,rv,h1,hk b (Zag h3) h2,h3,Tm.rep_lasts.2.1 _ _ _ _ _ h4 hk,GlsR.mono h5 hk⟩
theorem GlsR.ptr{A:Nat->Prop}{w:World}{l:List Gl}{v:Value}(h:GlsR A w l v):∃p,v= .pointer p:=by cases l with|nil=>exact⟨none,h⟩|cons g r=>obtain⟨b,_,_,_,rfl,_⟩:=h;exact⟨_,rfl⟩
def Znh(A:Nat->Prop)(w:World)(c:Chc)(vs:List Value):Prop:=∃v,vs=[v,.int .i64 (c.at_:Int),.int .i64 (c.trail:Int)]/\GlsR A w c.g v
theorem ZaI:Lasts Znh:=by
 refine⟨fun A w w' c vs h hk=>?_,fun A A' w c vs h hA=>?_,fun A w c vs h=>?_⟩;·obtain⟨v,h1,h2⟩:=h;exact⟨v,h1,h2.keeps hk⟩
 ·obtain⟨v,h1,h2⟩:=h;exact⟨v,h1,h2.mono hA⟩
 ·obtain⟨v,rfl,h2⟩:=h;obtain⟨p,rfl⟩:=h2.ptr;simp[Value.oneCell']
def evR(A:Nat->Prop)(w:World)(e:Ev)(vs:List Value):Prop:=∃v,vs=[.int .i64 e.kind,v]/\TmsR A w e.terms v/\I64 e.kind
theorem ZaB:Lasts evR:=by
 refine⟨fun A w w' c vs h hk=>?_,fun A A' w c vs h hA=>?_,fun A w c vs h=>?_⟩;·obtain⟨v,h1,h2,h3⟩:=h;exact⟨v,h1,h2.keeps hk,h3⟩
 ·obtain⟨v,h1,h2,h3⟩:=h;exact⟨v,h1,SlR.mono Tm.rep_lasts (by omega) h2 hA,h3⟩
 ·obtain⟨v,rfl,h2,h3⟩:=h;obtain⟨a,cap,_,_,rfl, -⟩:=SlR.at h2;simp[Value.oneCell']
theorem OwnR.mono'{α:Type}{w:World}{base:Nat}{E:TypeId}{size:Nat}{R:(Nat->Prop)->World->α->List Value->Prop}{A A':Nat->Prop}{xs:List α}{v:Value}(hR:Lasts R)(h:OwnR w base E size R A xs v)(hA:∀b,b<w.heap.size->A b->Zai v≠some b->A' b):OwnR w base E size R A' xs v:=by obtain⟨vals,hl,ho,he⟩:=h;refine⟨vals,hl,ho,fun i x vs hx hv=>?_⟩;obtain⟨h1,h2⟩:=he i x vs hx hv;exact⟨h1,hR.2.1 _ _ _ _ _ h2 fun b hb hb'=>⟨hA b hb hb'.1 hb'.2,hb'.2⟩⟩
def SM(g mb:Nat)(tv cv ov:Value)(b:Nat):Prop:=b=g\/b=mb\/Zai tv=some b\/Zai cv=some b\/Zai ov=some b
def SA(g mb xb:Nat)(tv cv ov:Value)(b:Nat):Prop:=¬SM g mb tv cv ov b/\b≠xb
structure SvI (base : Nat) (P : List Cl) (q : Nat) (g mb xb : Nat) (pv tv cv ov : Value) (s : Sv) (w : World) : Prop where
  box : w.heap[g]? = some (.cells #[pv, .map (some mb), tv, cv, .int .i64 s.vars, .int .i64 (s.fuel : Int), ov, .int .i64 (q : Int)] 40 (0, 0))
  prog : Zj5 (fun b => b < base) w P pv
  env : EnvR (SA g mb xb tv cv ov) w mb s.env
  trail : OwnN w base (s.env.map (·.1)) tv
  chc : OwnR w base 79 3 Znh (SA g mb xb tv cv ov) s.choices.reverse cv
  out : OwnR w base 71 2 evR (SA g mb xb tv cv ov) s.out ov
  bg : base ≤ g
  bm : base ≤ mb
  bx : base ≤ xb
  bxl : xb < w.heap.size
  nx : xb = g ∨ ¬ SM g mb tv cv ov xb
  v0 : 0 ≤ s.vars
  v1 : s.vars ≤ 1000000
  fu : s.fuel ≤ 150
  qq : q ≤ 8
  len : s.env.length ≤ 1000000
  few : s.choices.length ≤ 1000
  out13 : s.out.length ≤ 20
section
variable {base : Nat} {P : List Cl} {q g mb xb : Nat} {pv tv cv ov : Value} {s : Sv} {w : World}
theorem SvI.mb_ne(h:SvI base P q g mb xb pv tv cv ov s w):mb≠g:=by intro e;obtain⟨L,⟨es,clock,h1,_⟩,_⟩:=h.env;rw[e,h.box]at h1;simp at h1
theorem SvI.lt(h:SvI base P q g mb xb pv tv cv ov s w):g<w.heap.size/\mb<w.heap.size/\base<=w.heap.size:=by obtain⟨L,hm,_⟩:=h.env;have :=Zag h.box;have :=hm.lt;have :=h.bg;omega
theorem SvI.sm_lt(h:SvI base P q g mb xb pv tv cv ov s w):∀b,SM g mb tv cv ov b->base<=b/\b<w.heap.size:=by
 intro b hb;have hl:=h.lt;rcases hb with rfl|rfl|hb|hb|hb;·exact⟨h.bg,hl.1⟩
 ·exact⟨h.bm,hl.2.1⟩
 ·exact h.trail.lt b hb
 ·exact h.chc.lt b hb
 ·exact h.out.lt b hb
theorem EnvR.keeps{A B:Nat->Prop}{w w':World}{mb:Nat}{E:Env}(h:EnvR A w mb E)(hk:Keeps B w w')(hA:∀b,A b->B b)(hm:B mb):EnvR A w' mb E:=by obtain⟨L,h1,h2⟩:=h;exact⟨L,h1.keeps hk hm,h2.keeps (hk.mono fun b _ hb=>hA b hb)⟩
theorem SvI.envAt(h:SvI base P q g mb xb pv tv cv ov s w):EnvR (fun b=>SA g mb xb tv cv ov b/\b<w.heap.size) w mb s.env:=by obtain⟨L,h1,h2⟩:=h.env;exact⟨L,h1,h2.mono fun b hb hA=>⟨hA,hb⟩⟩
theorem SvI.keeps{w':World}(h:SvI base P q g mb xb pv tv cv ov s w)(hk:Keeps (fun b=>b≠xb\/b=g) w w'):SvI base P q g mb xb pv tv cv ov s w':=by
 obtain⟨h1,h2,h3,h4,h5,h6,h7,h8,h8',h8'',h9,h10,h11,h12,h13,h14,h15,h16⟩:=h;have hne:∀b,SM g mb tv cv ov b->b≠xb\/b=g:=fun b hb=>by
  rcases h9 with e|e
  ·by_cases hbx:b=g;·exact .inr hbx
   ·exact .inl (by rw[e];exact hbx)
  ·exact .inl fun e2=>e (e2▸hb)
 have hA:∀b,SA g mb xb tv cv ov b->b≠xb\/b=g:=fun b hb=> .inl hb.2;refine⟨Zaj h1 hk (.inr rfl),SlR.keeps Cl.rep_lasts h2 (hk.mono fun b _ hb=> .inl (by omega)),?_,?_,?_,?_,h7,h8,h8',Nat.lt_of_lt_of_le h8'' hk.size,h9,h10,h11,h12,h13,h14,h15,h16⟩;·obtain⟨L,hm,hL⟩:=h3;exact⟨L,hm.keeps hk (hne mb (.inr (.inl rfl))),hL.keeps (hk.mono fun b _ hb=>hA b hb)⟩
 ·exact⟨Own.keeps h4.1 hk (fun b hb=>hne b (.inr (.inr (.inl hb)))),h4.2⟩
 ·exact h5.keeps ZaI hk hA (fun b hb=>hne b (.inr (.inr (.inr (.inl hb)))))
 ·exact h6.keeps ZaB hk hA (fun b hb=>hne b (.inr (.inr (.inr (.inr hb)))))
theorem SvI.below{w':World}(h:SvI base P q g mb xb pv tv cv ov s w)(hb:Below w.heap.size w w'):SvI base P q g mb xb pv tv cv ov s w':=h.keeps (Keeps.ob hb)
theorem SvI.alloc(h:SvI base P q g mb xb pv tv cv ov s w)(o:Obj):SvI base P q g mb xb pv tv cv ov s (w.alloc o):=h.keeps (Keeps.alloc _ _ _)
theorem SvI.ch{w':World}(h:SvI base P q g mb xb pv tv cv ov s w)(hx:xb≠g)(hc:Ch (fun b=>b=xb) w w'):SvI base P q g mb xb pv tv cv ov s w':=h.keeps (hc.keeps fun b _ hb e=>hb.elim (fun h1=>h1 e) (fun h1=>hx (e.symm.trans h1)))
theorem SvI.leave(h:SvI base P q g mb g pv tv cv ov s w)(o:Obj):SvI base P q g mb w.heap.size pv tv cv ov s (w.alloc o):=by have hsm:=h.sm_lt;have hlt:=h.lt;have h':=h.alloc o;have hA:∀b,b<w.heap.size->SA g mb g tv cv ov b->SA g mb w.heap.size tv cv ov b:=fun b hb h=>⟨h.1,by omega⟩;refine⟨h'.box,h'.prog,?_,h'.trail,(h.chc.mono ZaI hA).alloc ZaI o,(h.out.mono ZaB hA).alloc ZaB o,h'.bg,h'.bm,by omega,by simp,.inr fun e=>by have :=hsm _ e;omega,h'.v0,h'.v1,h'.fu,h'.qq,h'.len,h'.few,h'.out13⟩;obtain⟨L,hm,hL⟩:=h.env;exact⟨L,hm.keeps (Keeps.alloc (fun _=>True) w o) trivial,(hL.mono hA).keeps (Keeps.alloc _ w o)⟩
theorem SvI.take_in(h:SvI base P q g mb xb pv tv cv ov s w):SvI base P q g mb g pv tv cv ov s w:=by have hlt':=h.lt;obtain⟨h1,h2,h3,h4,h5,h6,h7,h8,h8',h8'',h9,h10,h11,h12,h13,h14,h15,h16⟩:=h;have hA:∀b,b<w.heap.size->SA g mb xb tv cv ov b->SA g mb g tv cv ov b:=fun b hb h=>⟨h.1,fun e=>h.1 (.inl e)⟩;refine⟨h1,h2,?_,h4,h5.mono ZaI hA,h6.mono ZaB hA,h7,h8,h7,hlt'.1,.inl rfl,h10,h11,h12,h13,h14,h15,h16⟩;obtain⟨L,hm,hL⟩:=h3;exact⟨L,hm,hL.mono hA⟩
theorem SvI.vals(h:SvI base P q g mb xb pv tv cv ov s w):∃pa pc ta tc ca cc oa oc,pv= .slice pa P.length pc/\tv= .slice ta s.env.length tc/\cv= .slice ca s.choices.length cc/\ov= .slice oa s.out.length oc/\P.length<=pc/\pc<=maxLen/\s.env.length<=tc/\tc<=maxLen/\s.choices.length<=cc/\cc<=maxLen/\s.out.length<=oc/\oc<=maxLen:=by obtain⟨pa,pc,_,_,rfl,p1,p2, -⟩:=SlR.at h.prog;obtain⟨ta,tc,rfl,t1,t2⟩:=OwnF.val h.trail;obtain⟨ca,cc,rfl,c1,c2⟩:=OwnR.val' h.chc;obtain⟨oa,oc,rfl,o1,o2⟩:=OwnR.val' h.out;simp only[List.length_map,List.length_reverse]at*;exact⟨pa,pc,ta,tc,ca,cc,oa,oc,rfl,rfl,rfl,rfl,p1,p2,t1,t2,c1,c2,o1,o2⟩
end
theorem ZbW{w:World}{g:Nat}{E:TypeId}{v0 v1 v2 v3 v4 v5 v6 v7:Value}(h:w.heap[g]?=some (.cells #[v0,v1,v2,v3,v4,v5,v6,v7] E (0,0))):w.cell? ⟨g,0,none⟩=some v0/\w.cell? ⟨g,1,none⟩=some v1/\w.cell? ⟨g,2,none⟩=some v2/\w.cell? ⟨g,3,none⟩=some v3/\w.cell? ⟨g,4,none⟩=some v4/\w.cell? ⟨g,5,none⟩=some v5/\w.cell? ⟨g,6,none⟩=some v6/\w.cell? ⟨g,7,none⟩=some v7/\∀o,w.frozen? ⟨g,o,none⟩=false:=⟨(Zax h 0).trans rfl,(Zax h 1).trans rfl,(Zax h 2).trans rfl,(Zax h 3).trans rfl,(Zax h 4).trans rfl,(Zax h 5).trans rfl,(Zax h 6).trans rfl,(Zax h 7).trans rfl,fun o=>by simp[World.frozen?,h]⟩
theorem ZlB:Ze8 Try.prog 36 43 (.agg #[.int .i64 0,.int .i64 0,.string ByteArray.empty,.slice none 0 0]):=⟨3,Try.underlying36,Try.underlying3,fun _=>by kernel_rfl⟩
theorem Zks{w:World}{g:Nat}{E:TypeId}{a b c d v0 v1 v2 v3:Value}(h:w.heap[g]?=some (.cells #[a,b,c,d] E (0,0))):((((w.setCell ⟨g,0,none⟩ v0).setCell ⟨g,1,none⟩ v1).setCell ⟨g,2,none⟩ v2).setCell ⟨g,3,none⟩ v3).heap[g]?=some (.cells #[v0,v1,v2,v3] E (0,0)):=(Zal (Zal (Zal (Zal h 0 v0) 1 v1) 2 v2) 3 v3).trans rfl
theorem Zbp(w:World)(g b:Nat)(v0 v1 v2 v3:Value)(h:b≠g):((((w.setCell ⟨g,0,none⟩ v0).setCell ⟨g,1,none⟩ v1).setCell ⟨g,2,none⟩ v2).setCell ⟨g,3,none⟩ v3).heap[b]?=w.heap[b]?:=by rw[Below.heap_setCell _ _ _ _ h,Below.heap_setCell _ _ _ _ h,Below.heap_setCell _ _ _ _ h,Below.heap_setCell _ _ _ _ h]
theorem Zb1{B:Nat}{w0 w:World}(hb:Below B w0 w){g:Nat}(hg:B<=g)(v0 v1 v2 v3:Value):Below B w0 ((((w.setCell ⟨g,0,none⟩ v0).setCell ⟨g,1,none⟩ v1).setCell ⟨g,2,none⟩ v2).setCell ⟨g,3,none⟩ v3):=Below.setCell (Below.setCell (Below.setCell (Below.setCell hb hg _) hg _) hg _) hg _
theorem Zbx(A:Nat->Prop)(w:World){g:Nat}(hg:¬A g)(v0 v1 v2 v3:Value):Keeps A w ((((w.setCell ⟨g,0,none⟩ v0).setCell ⟨g,1,none⟩ v1).setCell ⟨g,2,none⟩ v2).setCell ⟨g,3,none⟩ v3):=(((Keeps.setCell A _ _ _ hg).trans (Keeps.setCell A _ _ _ hg)).trans (Keeps.setCell A _ _ _ hg)).trans (Keeps.setCell A _ _ _ hg)
theorem Zgz{M:Nat->Prop}{a w:World}(h:Ch M a w){g:Nat}(hg:M g\/a.heap.size<=g)(v0 v1 v2 v3:Value):Ch M a ((((w.setCell ⟨g,0,none⟩ v0).setCell ⟨g,1,none⟩ v1).setCell ⟨g,2,none⟩ v2).setCell ⟨g,3,none⟩ v3):=(((h.setCell (p:=⟨g,0,none⟩) hg _).setCell (p:=⟨g,1,none⟩) hg _).setCell (p:=⟨g,2,none⟩) hg _).setCell (p:=⟨g,3,none⟩) hg _
def ZmS(g:Nat)(w:World):Nat:=match w.cell? ⟨g,0,none⟩,w.cell? ⟨g,1,none⟩with|some (.int _ k),some (.int _ n)=>if k=0 then n.toNat+1 else 0|_,_=>0
theorem ZiP{w:World}{g:Nat}{E:TypeId}{k n:Int}{c d:Value}(h:w.heap[g]?=some (.cells #[.int .i64 k,.int .i64 n,c,d] E (0,0))):ZmS g w=if k=0 then n.toNat+1 else 0:=by obtain⟨h0,h1,_⟩:=Za0 h;unfold ZmS;rw[h0,h1]
def Znv(A:Nat->Prop)(w:World)(t:Tm)(e:Ending)(w':World):Prop:=∃v,e= .returned v/\Below w.heap.size w w'/\TmV A w' t v
theorem Zcz{base:Nat}{P:List Cl}{q g mb xb:Nat}{pv tv cv ov:Value}{s:Sv}{N:Int}(t:Tm)(A:Nat->Prop)(w:World)(vs:List Value)(h:SvI base P q g mb xb pv tv cv ov s w)(hE:EnvOk N s.env)(ht:t.In N)(hen:EnvR A w mb s.env)(hv:Tm.rep A w t vs):Calls Try.prog 50 #[.pointer (some ⟨g,0,none⟩),.agg vs.toArray] w (Znv A w (slook s.env t)):=by
 have HU:=zh h;have HE:=zh hE;have HT:=zh ht;have HV:=zh hv;obtain⟨a,cap,rfl, -⟩:=Tm.rep4 hv;have hlt:=h.lt;obtain⟨hl1,hl2,hl3⟩:=hlt;have HV':=zh (Tm.rep_lasts.2.1 _ (fun b=>A b/\b<w.heap.size) _ _ _ hv fun b hb hA=>⟨hA,hb⟩);obtain⟨L,hM0,hL0⟩:=hen;have HM0:=zh hM0;have HL0:=zh (hL0.mono (A':=fun b=>A b/\b<w.heap.size) fun b hb hA=>⟨hA,hb⟩);clear h hE ht hv hM0 hL0;go_enter Try.func50,Try.ntmps50;go_wp2_with fail;have HB0:=zh (((Below.refl _ w).alloc (zL _) (.cells #[.int .i64 t.kind,.int .i64 t.n,.string t.s,.slice a t.args.length cap] 43)).alloc (by simp) (.cells #[.int .i64 0,.int .i64 0,.string ByteArray.empty,.slice none 0 0] 43));have HX0:=zh (Zcv w (.cells #[.int .i64 t.kind,.int .i64 t.n,.string t.s,.slice a t.args.length cap] 43) (.cells #[.int .i64 0,.int .i64 0,.string ByteArray.empty,.slice none 0 0] 43));go_loopw[5](fun _ wr=>∃(t':Tm)(a':Option Addr)(cap':Nat),Below w.heap.size w wr/\wr.heap[w.heap.size]?=some (.cells #[.int .i64 t'.kind,.int .i64 t'.n,.string t'.s,.slice a' t'.args.length cap'] 43 (0,0))/\wr.heap[w.heap.size+1]?=some (.cells #[.int .i64 0,.int .i64 0,.string ByteArray.empty,.slice none 0 0] 43 (0,0))/\Tm.rep (fun b=>A b/\b<w.heap.size) wr t' [.int .i64 t'.kind,.int .i64 t'.n,.string t'.s,.slice a' t'.args.length cap']/\t'.In N/\slook s.env t'=slook s.env t)(fun _ wr=>ZmS w.heap.size wr);case atStart=>exact⟨t,a,cap,HB0.o,HX0.o.1,HX0.o.2,Tm.rep_lasts.1 _ _ _ _ _ HV'.o (Keeps.ob HB0.o),HT.o,rfl⟩
 case round=>
  obtain⟨t',a',cap',hb,hx,hy,hr,hin,hsl⟩:=hrel;have HB:=zh hb;have HX:=zh hx;have HY:=zh hy;have HR:=zh hr;have HIN:=zh hin;have HSL:=zh hsl;have hz:=Zag hy;have hz0:w.heap.size<wr.heap.size:=by omega
  have hzg:g<wr.heap.size:=by omega
  have hU:=HU.o.below hb;obtain⟨x0,x1,x2,x3,xf⟩:=Za0 hx;obtain⟨y0,y1,y2,y3,yf⟩:=Za0 hy;obtain⟨b0,b1, -, -, -, -, -, -,bf⟩:=ZbW hU.box;have hcs:=Zak;have HUW:=zh hU;clear hb hx hy hr hin hsl hU;by_cases hk:t'.kind=0
  ·rw[hk]at x0;have hnn:=(HIN.o.n hk).1;have hM:=HM0.o.keeps (Keeps.ob (A:=fun _=>True) HB.o) trivial;have hL:=HL0.o.keeps (Keeps.ob HB.o);have HK:=zh hk;rcases hL.get t'.n with⟨e1,e2⟩|⟨z,zv,e1,e2,hz2⟩
   ·have HRES:=zh (HSL.o.symm.trans (Zay (.inr e1)));have HLK:=zh (fun(W:World)(hW:Below wr.drew.heap.size wr.drew W)=>(by have :=ZdO (n:=t'.n) ZlB (hM.keeps ((Keeps.drew (fun _=>True) wr).trans (Keeps.ob hW)) trivial);rw[e2]at this;exact this:(Instr.lookup 36 (.map (some mb)) (.int .i64 t'.n) true).run Try.prog W= .ok (.tuple #[.agg #[.int .i64 0,.int .i64 0,.string ByteArray.empty,.slice none 0 0],.bool false]) W));clear hk e1 e2 hM hL;go_wp2_with fail;refine Zav (F:=fun _ w'=>Below wr.drew.heap.size wr.drew w') (by kernel_rfl) ?_;have HF:Below wr.drew.heap.size wr.drew wr.drew:=zB _ _;refine zT 0 HF ?_;try simp only[zP]
    refine zT 1 HF ?_;try simp only[zP]
    refine zT 2 HF ?_;try simp only[zP]
    refine ZaE (i:=3) (v:=?_) rfl (Or.inl ⟨by rfl,?_⟩) HF ?_;rotate_left;·(intro w' hw;have q1:=(hw.cell (p:=⟨g,1,none⟩) (by simp only[World.size_drew];omega)).trans b1;clear hw;go_simp<;>with_reducible rfl)
    try simp only[zP]
    refine zT 4 HF ?_;try simp only[zP]
    refine ZaE (i:=5) (v:=?_) rfl (Or.inl ⟨by rfl,?_⟩) HF ?_;rotate_left;·(intro w' hw;have q1:=(hw.cell (p:=⟨w.heap.size,1,none⟩) (by simp only[World.size_drew];omega)).trans x1;clear hw;go_simp<;>with_reducible rfl)
    try simp only[zP]
    refine ZaE (i:=6) (v:= .tuple #[.agg #[.int .i64 0,.int .i64 0,.string ByteArray.empty,.slice none 0 0],.bool false]) rfl (Or.inl ⟨by rfl,?_⟩) HF ?_;·(intro w' hw;have q1:=HLK.o w' hw;clear hw;go_simp)
    try simp only[zP]
    refine zT 7 HF ?_;try simp only[zP]
    refine zT 8 HF ?_;try simp only[zP]
    refine zT 9 HF ?_;try simp only[zP]
    refine Zab (i:=10) (by kernel_rfl) (Zad rfl (by rfl) ?_);go_simp;refine⟨fun _ _ h=>h.alloc (zL _) _,?_⟩;refine Zab (i:=11) (by kernel_rfl) (Zad rfl (by rfl) ?_);go_simp;refine⟨fun _ _ _=>(Below.refl _ wr.drew).alloc (zL _) _,?_⟩;refine Zab (i:=12) (by kernel_rfl) (Zad rfl (by rfl) ?_);go_simp;refine⟨fun _ _ h=>h,?_⟩;refine Zan (by kernel_rfl) ?_ _;go_wp2_with fail;refine bodyPost_ret (v:= .agg #[.int .i64 0,.int .i64 t'.n,.string t'.s,.slice a' t'.args.length cap']) (by simp[results,Try.results50,go_sem,hcs,y0,y1,y2,y3,hz]) rfl ⟨_,rfl,?_,_,rfl,?_⟩;·exact((Zb1 HB.o (by omega) _ _ _ _).alloc (by simp;omega) _).drew
    ·rw[HRES.o];have hr:=HR.o;rw[HK.o]at hr;exact Tm.rep_lasts.2.1 _ _ _ _ _ (Tm.rep_lasts.1 _ _ _ _ _ hr (((Zbx _ _ (fun h=>by omega) _ _ _ _).trans (Keeps.alloc _ _ _)).trans (Keeps.drew _ _))) fun b _ h=>h.1
   ·obtain⟨zs,rfl,hzr⟩:=hz2;have HZR:=zh hzr;obtain⟨za,zc,rfl, -⟩:=Tm.rep4 hzr;have HNX:=zh ((ZdA HE.o HIN.o hk e1).symm.trans HSL.o);have HZI:=zh (show z.In N from HE.o.tm _ (Zea e1));have HLS:=zh (show z.kind=0->z.n<t'.n from HE.o.less _ (Zea e1));have HLK:=zh (fun(W:World)(hW:Below wr.drew.heap.size wr.drew W)=>(by have :=ZdO (n:=t'.n) ZlB (hM.keeps ((Keeps.drew (fun _=>True) wr).trans (Keeps.ob hW)) trivial);rw[e2]at this;exact this:(Instr.lookup 36 (.map (some mb)) (.int .i64 t'.n) true).run Try.prog W= .ok (.tuple #[.agg #[.int .i64 z.kind,.int .i64 z.n,.string z.s,.slice za z.args.length zc],.bool true]) W));clear hk e1 e2 hM hL hzr;go_wp2_with fail;refine Zav (F:=fun _ w'=>Below wr.drew.heap.size wr.drew w') (by kernel_rfl) ?_;have HF:Below wr.drew.heap.size wr.drew wr.drew:=zB _ _;refine zT 0 HF ?_;try simp only[zP]
    refine zT 1 HF ?_;try simp only[zP]
    refine zT 2 HF ?_;try simp only[zP]
    refine ZaE (i:=3) (v:=?_) rfl (Or.inl ⟨by rfl,?_⟩) HF ?_;rotate_left;·(intro w' hw;have q1:=(hw.cell (p:=⟨g,1,none⟩) (by simp only[World.size_drew];omega)).trans b1;clear hw;go_simp<;>with_reducible rfl)
    try simp only[zP]
    refine zT 4 HF ?_;try simp only[zP]
    refine ZaE (i:=5) (v:=?_) rfl (Or.inl ⟨by rfl,?_⟩) HF ?_;rotate_left;·(intro w' hw;have q1:=(hw.cell (p:=⟨w.heap.size,1,none⟩) (by simp only[World.size_drew];omega)).trans x1;clear hw;go_simp<;>with_reducible rfl)
    try simp only[zP]
    refine ZaE (i:=6) (v:= .tuple #[.agg #[.int .i64 z.kind,.int .i64 z.n,.string z.s,.slice za z.args.length zc],.bool true]) rfl (Or.inl ⟨by rfl,?_⟩) HF ?_;·(intro w' hw;have q1:=HLK.o w' hw;clear hw;go_simp)
    try simp only[zP]
    refine zT 7 HF ?_;try simp only[zP]
    refine zT 8 HF ?_;try simp only[zP]
    refine zT 9 HF ?_;try simp only[zP]
    refine Zab (i:=10) (by kernel_rfl) (Zad rfl (by rfl) ?_);go_simp;refine⟨fun _ _ h=>h.alloc (zL _) _,?_⟩;refine Zab (i:=11) (by kernel_rfl) (Zad rfl (by rfl) ?_);go_simp;refine⟨fun _ _ _=>(Below.refl _ wr.drew).alloc (zL _) _,?_⟩;refine Zab (i:=12) (by kernel_rfl) (Zad rfl (by rfl) ?_);go_simp;refine⟨fun _ _ h=>h,?_⟩;refine Zan (by kernel_rfl) ?_ _;go_wp2_with fail;go_roundw;case rel=>refine⟨z,za,zc,((Zb1 HB.o (zL _) _ _ _ _).alloc (by simp;omega) _).drew,Zaf (Zks HX.o) _,Zaf ((Zbp _ _ _ _ _ _ _ (by omega)).trans HY.o) _,?_,HZI.o,HNX.o⟩;exact Tm.rep_lasts.1 _ _ _ _ _ HZR.o (((Zbx _ _ (fun h=>by omega) _ _ _ _).trans (Keeps.alloc _ _ _)).trans (Keeps.drew _ _))
    case measure=>
     have e1:=ZiP HX.o;rw[HK.o]at e1;have e2:=fun o=>ZiP (w:=(((((wr.setCell _ _).setCell _ _).setCell _ _).setCell _ _).alloc o).drew) (Zaf (Zks (v0:= .int .i64 z.kind) (v1:= .int .i64 z.n) (v2:= .string z.s) (v3:= .slice za z.args.length zc) HX.o) o);have h3:=HLS.o;have h4:=HZI.o.n;rw[e1,e2];by_cases e:z.kind=0;·have :=h3 e;have :=h4 e;rw[if_pos e,if_pos rfl];omega
     ·rw[if_neg e,if_pos rfl];omega
  ·have hk':(t'.kind==0)=false:=by simpa using hk
   have HRES:=zh (HSL.o.symm.trans (Zay (.inl hk)));clear hk;go_wp2_with fail;refine bodyPost_ret (v:= .agg #[.int .i64 t'.kind,.int .i64 t'.n,.string t'.s,.slice a' t'.args.length cap']) (by simp[results,Try.results50,go_sem,hcs,y0,y1,y2,y3]) rfl ⟨_,rfl,Zb1 HB.o (by omega) _ _ _ _,_,rfl,?_⟩;rw[HRES.o];exact Tm.rep_lasts.2.1 _ _ _ _ _ (Tm.rep_lasts.1 _ _ _ _ _ HR.o (Zbx _ _ (fun h=>by omega) _ _ _ _)) fun b _ h=>h.1
def WkAt(xb:Nat)(k:Int)(w:World):Prop:=w.heap[xb]?=some (.cells #[.int .i64 k] 3 (0,0))
theorem WkAt.cell{xb:Nat}{k:Int}{w:World}(h:WkAt xb k w):w.cell? ⟨xb,0,none⟩=some (.int .i64 k)/\(∀o,w.frozen? ⟨xb,o,none⟩=false)/\xb<w.heap.size:=⟨(Zax h 0).trans rfl,fun o=>by simp[World.frozen?,show w.heap[xb]?=_ from h],Zag h⟩
def ZmT(xb:Nat)(w:World)(p:Bool×Int)(e:Ending)(w':World):Prop:=e= .returned (.bool p.1)/\Ch (fun b=>b=xb) w w'/\WkAt xb p.2 w'
def ZlC(base:Nat)(P:List Cl)(q g mb xb:Nat)(pv tv cv ov:Value)(s:Sv)(N v:Int)(k:Nat):Prop:=∀(t:Tm)(w:World)(vs:List Value),SvI base P q g mb xb pv tv cv ov s w->WkAt xb k w->t.In N->Tm.rep (SA g mb xb tv cv ov) w t vs->Calls Try.prog 69 #[.pointer (some ⟨g,0,none⟩),.int .i64 v,.agg vs.toArray,.pointer (some ⟨xb,0,none⟩)] w (ZmT xb w (inS s.env v k [t]))
section
variable {base : Nat} {P : List Cl} {q g mb xb : Nat} {pv tv cv ov : Value} {s : Sv} {N : Int}
theorem ZjB(xb o:Nat)(w:World)(u:Value):Ch (fun b=>b=xb) w (w.setCell ⟨xb,o,none⟩ u):=ZeV xb o w u
theorem WkAt.set{k k':Int}{w:World}(h:WkAt xb k w):WkAt xb k' (w.setCell ⟨xb,0,none⟩ (.int .i64 k')):=(Zal h 0 _).trans rfl
theorem ZlD(v:Int)(hx:xb≠g):ZlC base P q g mb xb pv tv cv ov s N v 0:=by
 intro t w vs h hw ht hv;obtain⟨a,cap,rfl, -⟩:=Tm.rep4 hv;obtain⟨x0,xf,xl⟩:=hw.cell;have HW:=zh hw;have hcs:=Zak;rw[show((0:Nat):Int)=0 from rfl]at x0;clear hv ht h hw;go_enter Try.func69,Try.ntmps69;go_wp2_with fail;go_ret;refine⟨rfl,?_,?_⟩;·exact((ZjB _ _ _ _).alloc _)
 ·exact Zaf (HW.o.set (k':= -1)) _
theorem ZlE(v:Int)(hv:I64 v)(hx:xb≠g)(hE:EnvOk N s.env)(k:Nat)(hk4:k<=400)(ih:∀m,m<=k->ZlC base P q g mb xb pv tv cv ov s N v m):ZlC base P q g mb xb pv tv cv ov s N v (k+1):=by
 intro t w vs h hw ht hvv;have HU:=zh h;have HE:=zh hE;have HT:=zh ht;have IH:=zh ih;obtain⟨a,cap,rfl, -⟩:=Tm.rep4 hvv;have HV:=zh hvv;obtain⟨x0,xf,xl⟩:=hw.cell;have HW:=zh hw;have hcs:=Zak;obtain⟨hl1,hl2,hl3⟩:=h.lt;have hk0:(0:Int)<=(k:Int):=zN _;have hk400:(k:Int)<=400:=by omega
 rw[show((k+1:Nat):Int)=(k:Int)+1 by omega]at x0;have HX:=zh hx;have HVV:=zh hv;clear h hE ht ih hvv hw hv;go_enter Try.func69,Try.ntmps69;go_wp2_with fail;have HC1:=zh (show Ch (fun b=>b=xb) w ((w.setCell ⟨xb,0,none⟩ (.int .i64 (k:Int))).alloc (.cells #[.int .i64 t.kind,.int .i64 t.n,.string t.s,.slice a t.args.length cap] 43))from(ZjB _ _ _ _).alloc _);have HU1:=zh (HU.o.ch HX.o HC1.o);have HV1:=zh (Tm.rep_lasts.1 _ _ _ _ _ (Tm.rep_lasts.2.1 _ (fun b=>SA g mb xb tv cv ov b/\b<w.heap.size) _ _ _ HV.o fun b hb h=>⟨h,hb⟩) (HC1.o.keeps (A:=fun b=>SA g mb xb tv cv ov b/\b<w.heap.size) fun b _ hb e=>hb.1.2 e));have HN1:=zh (HU.o.envAt.keeps (HC1.o.keeps (A:=fun b=>b≠xb) fun b _ hb e=>hb e) (fun b hb=>hb.1.2) (fun e=>by
  rcases HU.o.nx with h|h;·exact HX.o h
  ·exact h (e▸ .inr (.inl rfl))));refine(Zcz t _ _ _ HU1.o HE.o HT.o HN1.o HV1.o).mono ?_;rintro e w2⟨r,rfl,hb2,us,rfl,hr⟩;have HLI:=zh (ZaY HE.o HT.o);have HIN:=zh (Zcx s.env v k t []);generalize slook s.env t=x at*;obtain⟨xa,xc,rfl, -, -, -,hxc1,hxc2,hxc3,hsl⟩:=Tm.rep4 hr;have HR:=zh hr;have HC2:=zh (HC1.o.tb hb2);have HU2:=zh (HU1.o.below hb2);have HW2:=zh (show WkAt xb k w2 from Zac (Zaf (HW.o.set (k':=(k:Int))) _) hb2);have HB2:=zh (Zac (show((w.setCell ⟨xb,0,none⟩ (.int .i64 (k:Int))).alloc (.cells #[.int .i64 t.kind,.int .i64 t.n,.string t.s,.slice a t.args.length cap] 43)).heap[w.heap.size]?=_ by have :=Zao (w.setCell ⟨xb,0,none⟩ (.int .i64 (k:Int))) (.cells #[.int .i64 t.kind,.int .i64 t.n,.string t.s,.slice a t.args.length cap] 43);simpa using this) hb2);obtain⟨y0,y1,y2,y3,yf⟩:=Za0 HB2.o;obtain⟨z0,zf,zl⟩:=HW2.o.cell;have hz2:=hb2.size;simp only[World.size_alloc,World.size_setCell]at hz2;have HSL:=zh hsl;have hne:xb≠w.heap.size:=by omega
 have hne':w.heap.size≠xb:=by omega
 have hzz:w.heap.size<w2.heap.size:=by omega
 clear x0 xf hb2 hr hsl;have hK4:Keeps (fun b=>b≠w.heap.size) w2 (((((w2.setCell ⟨w.heap.size,0,none⟩ (.int .i64 x.kind)).setCell ⟨w.heap.size,1,none⟩ (.int .i64 x.n)).setCell ⟨w.heap.size,2,none⟩ (.string x.s)).setCell ⟨w.heap.size,3,none⟩ (.slice xa x.args.length xc))):=Zbx _ _ (fun h=>h rfl) _ _ _ _;have HC3:=zh (show Ch (fun b=>b=xb) w (((((w2.setCell ⟨w.heap.size,0,none⟩ (.int .i64 x.kind)).setCell ⟨w.heap.size,1,none⟩ (.int .i64 x.n)).setCell ⟨w.heap.size,2,none⟩ (.string x.s)).setCell ⟨w.heap.size,3,none⟩ (.slice xa x.args.length xc)))from(((HC2.o.setCell (p:=⟨w.heap.size,0,none⟩) (.inr (zL _)) _).setCell (p:=⟨w.heap.size,1,none⟩) (.inr (zL _)) _).setCell (p:=⟨w.heap.size,2,none⟩) (.inr (zL _)) _).setCell (p:=⟨w.heap.size,3,none⟩) (.inr (zL _)) _);have HW3:=zh (show WkAt xb k (((((w2.setCell ⟨w.heap.size,0,none⟩ (.int .i64 x.kind)).setCell ⟨w.heap.size,1,none⟩ (.int .i64 x.n)).setCell ⟨w.heap.size,2,none⟩ (.string x.s)).setCell ⟨w.heap.size,3,none⟩ (.slice xa x.args.length xc)))from Zaj HW2.o hK4 hne);have HK4:=zh hK4;have HB3:=zh (Zks (v0:= .int .i64 x.kind) (v1:= .int .i64 x.n) (v2:= .string x.s) (v3:= .slice xa x.args.length xc) HB2.o);clear hK4;by_cases hk:x.kind=0
 ·have HK:=zh hk;have hnx:=(HLI.o.n hk);rw[hk];by_cases hxv:x.n=v
  ·have hr:=zh (show inS s.env v (k+1) [t]=(true,(k:Int))by rw[HIN.o,if_pos hk,if_pos hxv]);have hq:(x.n==v)=true:=by simpa using hxv
   rw[hk]at HC3 HW3;clear hxv hk;go_wp2_with fail;go_ret;rw[hr.out];exact⟨rfl,HC3.o,HW3.o⟩
  ·have hr:=zh (show inS s.env v (k+1) [t]=(false,(k:Int))by rw[HIN.o,if_pos hk,if_neg hxv,ZdU]);have hq:(x.n==v)=false:=by simpa using hxv
   rw[hk]at HC3 HW3;clear hxv hk;go_wp2_with fail;go_ret;rw[hr.out];exact⟨rfl,HC3.o,HW3.o⟩
 ·have hk':(x.kind==0)=false:=by simpa using hk
  have hr:=zh (show inS s.env v (k+1) [t]=inS s.env v k x.args by rw[HIN.o,if_neg hk,List.append_nil]);clear hk;unfold maxLen at hxc2;go_wp2_with fail;have HU3:=zh (HU.o.ch HX.o HC3.o);obtain⟨_,_,eb,eo,e9, -, -, -,hea,hee⟩:=HSL.o.at;simp only[Value.slice.injEq,true_and]at e9;obtain⟨rfl,rfl⟩:=e9;have HEE:=zh (hee.keeps Tm.rep_lasts (fun hne=>(hea (List.length_pos_iff.2 hne)).2) (HK4.o.mono fun b _ hb=>by have :=hb.2;omega));have HEA:=zh hea;clear hea hee;generalize(((((w2.setCell ⟨w.heap.size,0,none⟩ (.int .i64 x.kind)).setCell ⟨w.heap.size,1,none⟩ (.int .i64 x.n)).setCell ⟨w.heap.size,2,none⟩ (.string x.s)).setCell ⟨w.heap.size,3,none⟩ (.slice xa x.args.length xc)))=w3 at*;go_loopw[33](fun i wr=>∃j m:Nat,j<=x.args.length/\i= .int .i64 (j:Int)/\m<=k/\inS s.env v k (x.args.take j)=(false,(m:Int))/\WkAt xb m wr/\Ch (fun b=>b=xb) w3 wr)(fun i _=>x.args.length - (intOf i).toNat);case atStart=>exact⟨0,k,Nat.zero_le _,rfl,zL _,by rw[List.take_zero,ZdU],HW3.o,Ch.refl _ _⟩
  case round=>
   obtain⟨j,m,hj,rfl,hm,htk,hw,hch⟩:=hrel;have HTK:=zh htk;have HW4:=zh hw;have HC4:=zh hch;obtain⟨q0,qf,ql⟩:=hw.cell;clear htk hw hch;by_cases hlt:j<x.args.length
   ·obtain⟨rfl,hAb⟩:=HEA.o (by omega);obtain⟨sa,sc,c0,c1,c2,c3,hr3⟩:=ZaG HEE.o hAb (HC4.o.keeps fun b _ hb e=>hb.1.2 e) hlt;have HA3:=zh (Tm.rep_lasts.2.1 _ (SA g mb xb tv cv ov) _ _ _ hr3 fun b _ h=>h.1);have hsplit:x.args=x.args.take j++([x.args[j]]++x.args.drop (j+1)):=by
     conv=>lhs;rw[<-List.take_append_drop j x.args,List.drop_eq_getElem_cons hlt]
     rfl
    have HSP:=zh (show inS s.env v k x.args=inS s.env v m ([x.args[j]]++x.args.drop (j+1))by
     conv=>lhs;rw[hsplit]
     rw[Zfu,HTK.o,if_neg (by simp)];simp);have HNX:=zh (show inS s.env v k (x.args.take (j+1))=inS s.env v m [x.args[j]]by rw[List.take_succ_eq_append_getElem hlt,Zfu,HTK.o,if_neg (by simp)];simp);have HGI:=zh (HLI.o.arg (List.getElem_mem hlt));have hz4:=HC4.o.size;have HCC:=zh (show Ch (fun b=>b=xb) w3 (wr.alloc (.cells #[.int .i64 x.args[j].kind,.int .i64 x.args[j].n,.string x.args[j].s,.slice sa x.args[j].args.length sc] 43))from HC4.o.alloc _);clear hsplit hr3;go_wp2_with fail;refine(IH.out m hm x.args[j] _ _ (HU3.o.ch HX.o HCC.o) (Zaf HW4.o _) HGI.o (Tm.rep_lasts.1 _ _ _ _ _ HA3.o (Keeps.alloc _ _ _))).mono ?_;rintro e w5⟨rfl,hch5,hw5⟩;have HC5:=zh (HCC.o.trans hch5 (fun _ h=> .inl h));have HW5:=zh hw5;obtain⟨r0,rf,rl⟩:=hw5.cell;have hple:=Zf4 s.env v m [x.args[j]];have happ:=Zfu s.env v m [x.args[j]] (x.args.drop (j+1));have htru:=Zeb s.env v m [x.args[j]];generalize inS s.env v m [x.args[j]]=p at*;obtain⟨pf,pw⟩:=p;simp only at hple happ htru r0;have HAPP:=zh happ;have HTRU:=zh htru;clear hw5 hch5 happ htru q0 qf c0 c1 c2 c3;obtain⟨hp1,hp2⟩:=hple;cases pf with
     |true=>have hpw:0<=pw:=HTRU.o rfl;have hres:=zh (show inS s.env v (k+1) [t]=(true,pw)by rw[hr.out,HSP.o,HAPP.o,if_pos (.inl rfl)]);go_wp2_with fail;go_ret;rw[hres.o];exact⟨rfl,HC3.o.trans HC5.o (fun _ h=> .inl h),HW5.o⟩
     |false=>
      by_cases hpw:pw<0;·have hres:=zh (show inS s.env v (k+1) [t]=(false,pw)by rw[hr.out,HSP.o,HAPP.o,if_pos (.inr hpw)]);have hpd:=zh (decide_eq_false (show ¬(0:Int)<=pw by omega));go_wp2_with fail;go_ret;rw[hres.o];exact⟨congrArg Ending.returned (congrArg Value.bool hpd.out),HC3.o.trans HC5.o (fun _ h=> .inl h),HW5.o⟩
      ·obtain⟨pm,rfl⟩:=Int.eq_ofNat_of_zero_le (show 0<=pw by omega);go_wp2_with fail;go_roundw;case rel=>exact⟨j+1,pm,by omega,by go_num,by omega,HNX.o,HW5.o,HC5.o⟩
       case measure=>simp[intOf];omega
   ·have hje:j=x.args.length:=by omega
    have hres:=zh (show inS s.env v (k+1) [t]=(false,(m:Int))by have :=HTK.o;rw[List.take_of_length_le (by omega)]at this;rw[hr.out,this]);clear hje;go_wp2_with fail;go_ret;rw[hres.o];exact⟨rfl,HC3.o.trans HC4.o (fun _ h=> .inl h),HW4.o⟩
theorem Zmx(v:Int)(hv:I64 v)(hx:xb≠g)(hE:EnvOk N s.env):∀k,k<=400->ZlC base P q g mb xb pv tv cv ov s N v k:=by intro k;induction k using Nat.strongRecOn with|_ k ih=>intro hk;cases k with|zero=>exact ZlD v hx|succ k=>exact ZlE v hv hx hE k (by omega) fun m hm=>ih m (by omega) (by omega)
end
end Go.Proofs.Ytlpmfkpefoegeac
