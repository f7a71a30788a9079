import Derived.Test.YtlpmfkpefoegeacGreatDoorPSolve2
import Derived.Test.YtlpmfkpefoegeacGreatDoorQUbind
namespace Go.Proofs.YtlpmfkpefoegeacGreatDoor
set_option maxRecDepth 99999
set_option maxHeartbeats 0
set_option linter.all false
open Go.RowKit
def CE(A:Nat->Prop)(w:World)(t:Tm)(v:Value):Prop:=∃us,v= .agg us.toArray/\Tm.rep A w t us
theorem CE.keeps{A:Nat->Prop}{w w':World}{t:Tm}{v:Value}(h:CE A w t v)(hk:J A w w'):CE A w' t v:=by obtain⟨us,h1,h2⟩:=h;exact⟨us,h1,Tm.ae.1 _ _ _ _ _ h2 hk⟩
theorem CE.mono{A A':Nat->Prop}{w:World}{t:Tm}{v:Value}(h:CE A w t v)(hA:∀b,b<w.heap.size->A b->A' b):CE A' w t v:=by obtain⟨us,h1,h2⟩:=h;exact⟨us,h1,Tm.ae.2.1 _ _ _ _ _ h2 hA⟩
def jE(A:Nat->Prop)(w:World):Env->List (Int×Value)->Prop|[],[]=>True|(n,t)::E,(m,v)::L=>(m=n/\CE A w t v)/\jE A w E L|_,_=>False
theorem jE.keeps{A:Nat->Prop}{w w':World}:∀{E:Env}{L:List (Int×Value)},jE A w E L->J A w w'->jE A w' E L|[],[],_,_=>trivial|(n,t)::E,(m,v)::L,h,hk=>⟨⟨h.1.1,h.1.2.keeps hk⟩,jE.keeps h.2 hk⟩|[],_::_,h,_=>h.elim|_::_,[],h,_=>h.elim
theorem jE.mono{A A':Nat->Prop}{w:World}:∀{E:Env}{L:List (Int×Value)},jE A w E L->(∀b,b<w.heap.size->A b->A' b)->jE A' w E L|[],[],_,_=>trivial|(n,t)::E,(m,v)::L,h,hk=>⟨⟨h.1.1,h.1.2.mono hk⟩,jE.mono h.2 hk⟩|[],_::_,h,_=>h.elim|_::_,[],h,_=>h.elim
theorem jE.append{A:Nat->Prop}{w:World}:∀{E:Env}{L:List (Int×Value)}{E':Env}{L':List (Int×Value)},jE A w E L->jE A w E' L'->jE A w (E++E') (L++L')|[],[],_,_,_,h=>h|(n,t)::E,(m,v)::L,_,_,h,h'=>⟨h.1,jE.append h.2 h'⟩|[],_::_,_,_,h,_=>h.elim|_::_,[],_,_,h,_=>h.elim
theorem jE.take{A:Nat->Prop}{w:World}:∀{E:Env}{L:List (Int×Value)}(k:Nat),jE A w E L->jE A w (E.take k) (L.take k)|[],[],k,_=>by simp[jE]|(n,t)::E,(m,v)::L,0,h=>by simp[jE]|(n,t)::E,(m,v)::L,k+1,h=>⟨h.1,jE.take k h.2⟩|[],_::_,_,h=>h.elim|_::_,[],_,h=>h.elim
theorem jE.keys{A:Nat->Prop}{w:World}:∀{E:Env}{L:List (Int×Value)},jE A w E L->L.map (·.1)=E.map (·.1)|[],[],_=>rfl|(n,t)::E,(m,v)::L,h=>by rw[sH,sH,jE.keys h.2,h.1.1]|[],_::_,h=>h.elim|_::_,[],h=>h.elim
theorem jE.get{A:Nat->Prop}{w:World}(n:Int):∀{E:Env}{L:List (Int×Value)},jE A w E L->(jf E n=none/\sU L n=none)\/∃t v,jf E n=some t/\sU L n=some v/\CE A w t v
 |[],[],_=> .inl ⟨rfl,rfl⟩
 |(k,t)::E,(m,v)::L,h=>by
  obtain⟨⟨rfl,h1⟩,h2⟩:=h;by_cases e:m=n;·exact .inr ⟨t,v,by simp[jf,e],by simp[sU,e],h1⟩
  ·have e1:jf ((m,t)::E) n=jf E n:=by simp[jf,e]
   have e2:sU ((m,v)::L) n=sU L n:=by simp[sU,e]
   rw[e1,e2];exact jE.get n h2
 |[],_::_,h=>h.elim
 |_::_,[],h=>h.elim
def GN(A:Nat->Prop)(w:World)(mb:Nat)(E:Env):Prop:=∃L,qi w mb L/\jE A w E L
def gJ(A:Nat->Prop)(w:World):List Gl->Value->Prop|[],v=>v= .pointer none|g::r,v=>∃b a cap rv,v= .pointer (some ⟨b,0,none⟩)/\A b/\w.heap[b]?=some (.cells #[.int .i64 g.t.kind,.int .i64 g.t.n,.string g.t.s,.slice a g.t.args.length cap,.int .i64 (g.bar:Int),rv] 100 (0,0))/\Tm.rep A w g.t [.int .i64 g.t.kind,.int .i64 g.t.n,.string g.t.s,.slice a g.t.args.length cap]/\gJ A w r rv
theorem gJ.keeps{A:Nat->Prop}{w w':World}:∀{l:List Gl}{v:Value},gJ A w l v->J A w w'->gJ A w' l v|[],v,h,_=>h|g::r,v,h,hk=>by obtain⟨b,a,cap,rv,h1,h2,h3,h4,h5⟩:=h;exact⟨b,a,cap,rv,h1,h2,bJ h3 hk h2,Tm.ae.1 _ _ _ _ _ h4 hk,gJ.keeps h5 hk⟩
theorem gJ.mono{A A':Nat->Prop}{w:World}:∀{l:List Gl}{v:Value},gJ A w l v->(∀b,b<w.heap.size->A b->A' b)->gJ A' w l v|[],v,h,_=>h|g::r,v,h,hk=>by obtain⟨b,a,cap,rv,h1,h2,h3,h4,h5⟩:=h;exact⟨b,a,cap,rv,h1,hk b (ax h3) h2,h3,Tm.ae.2.1 _ _ _ _ _ h4 hk,gJ.mono h5 hk⟩
theorem gJ.ptr{A:Nat->Prop}{w:World}{l:List Gl}{v:Value}(h:gJ A w l v):∃p,v= .pointer p:=by cases l with|nil=>exact⟨none,h⟩|cons g r=>obtain⟨b,_,_,_,rfl,_⟩:=h;exact⟨_,rfl⟩
def JI(A:Nat->Prop)(w:World)(c:jN)(vs:List Value):Prop:=∃v,vs=[v,.int .i64 (c.at_:Int),.int .i64 (c.trail:Int)]/\gJ A w c.g v
theorem pz:iy JI:=by
 refine⟨fun A w w' c vs h hk=>?_,fun A A' w c vs h hA=>?_,fun A w c vs h=>?_⟩;·obtain⟨v,h1,h2⟩:=h;exact⟨v,h1,h2.keeps hk⟩
 ·obtain⟨v,h1,h2⟩:=h;exact⟨v,h1,h2.mono hA⟩
 ·obtain⟨v,rfl,h2⟩:=h;obtain⟨p,rfl⟩:=h2.ptr;simp[Value.oneCell']
def uK(A:Nat->Prop)(w:World)(e:Ev)(vs:List Value):Prop:=∃v,vs=[.int .i64 e.kind,v]/\iN A w e.terms v/\ah e.kind
theorem iL:iy uK:=by
 refine⟨fun A w w' c vs h hk=>?_,fun A A' w c vs h hA=>?_,fun A w c vs h=>?_⟩;·obtain⟨v,h1,h2,h3⟩:=h;exact⟨v,h1,h2.keeps hk,h3⟩
 ·obtain⟨v,h1,h2,h3⟩:=h;exact⟨v,h1,ag.mono Tm.ae (by omega) h2 hA,h3⟩
 ·obtain⟨v,rfl,h2,h3⟩:=h;obtain⟨a,cap,_,_,rfl, -⟩:=ag.at h2;simp[Value.oneCell']
theorem az.mono'{α:Type}{w:World}{base:Nat}{E:TypeId}{size:Nat}{R:(Nat->Prop)->World->α->List Value->Prop}{A A':Nat->Prop}{xs:List α}{v:Value}(hR:iy R)(h:az w base E size R A xs v)(hA:∀b,b<w.heap.size->A b->ownB v≠some b->A' b):az w base E size R A' xs v:=by obtain⟨vals,hl,ho,he⟩:=h;refine⟨vals,hl,ho,fun i x vs hx hv=>?_⟩;obtain⟨h1,h2⟩:=he i x vs hx hv;exact⟨h1,hR.2.1 _ _ _ _ _ h2 fun b hb hb'=>⟨hA b hb hb'.1 hb'.2,hb'.2⟩⟩
def SM(g mb:Nat)(tv cv ov:Value)(b:Nat):Prop:=b=g\/b=mb\/ownB tv=some b\/ownB cv=some b\/ownB ov=some b
def SA(g mb xb:Nat)(tv cv ov:Value)(b:Nat):Prop:=¬SM g mb tv cv ov b/\b≠xb
structure aR (base : Nat) (P : List Cl) (q : Nat) (g mb xb : Nat) (pv tv cv ov : Value) (s : Sv) (w : World) : Prop where
  box : w.heap[g]? = some (.cells #[pv, .map (some mb), tv, cv, .int .i64 s.vars, .int .i64 (s.fuel : Int), ov, .int .i64 (q : Int)] 97 (0, 0))
  prog : Ay (fun b => b < base) w P pv
  env : GN (SA g mb xb tv cv ov) w mb s.env
  trail : dC w base (s.env.map (·.1)) tv
  bC : az w base 161 3 JI (SA g mb xb tv cv ov) s.choices.reverse cv
  out : az w base 42 2 uK (SA g mb xb tv cv ov) s.out ov
  bg : base ≤ g
  bm : base ≤ mb
  bx : base ≤ xb
  bxl : xb < w.heap.size
  nx : xb = g ∨ ¬ SM g mb tv cv ov xb
  v0 : 0 ≤ s.vars
  v1 : s.vars ≤ 1000000
  fu : s.fuel ≤ 150
  qq : q ≤ 8
  len : s.env.length ≤ 1000000
  few : s.choices.length ≤ 1000
  XN : s.out.length ≤ 20
section
variable {base : Nat} {P : List Cl} {q g mb xb : Nat} {pv tv cv ov : Value} {s : Sv} {w : World}
theorem aR.XO(h:aR base P q g mb xb pv tv cv ov s w):mb≠g:=by intro e;obtain⟨L,⟨es,clock,h1,_⟩,_⟩:=h.env;rw[e,h.box]at h1;simp at h1
theorem aR.lt(h:aR base P q g mb xb pv tv cv ov s w):g<w.heap.size/\mb<w.heap.size/\base<=w.heap.size:=by obtain⟨L,hm,_⟩:=h.env;have :=ax h.box;have :=hm.lt;have :=h.bg;omega
theorem aR.tF(h:aR base P q g mb xb pv tv cv ov s w):∀b,SM g mb tv cv ov b->base<=b/\b<w.heap.size:=by
 intro b hb;have hl:=h.lt;rcases hb with rfl|rfl|hb|hb|hb;·exact⟨h.bg,hl.1⟩
 ·exact⟨h.bm,hl.2.1⟩
 ·exact h.trail.lt b hb
 ·exact h.bC.lt b hb
 ·exact h.out.lt b hb
theorem GN.keeps{A B:Nat->Prop}{w w':World}{mb:Nat}{E:Env}(h:GN A w mb E)(hk:J B w w')(hA:∀b,A b->B b)(hm:B mb):GN A w' mb E:=by obtain⟨L,h1,h2⟩:=h;exact⟨L,h1.keeps hk hm,h2.keeps (hk.mono fun b _ hb=>hA b hb)⟩
theorem aR.Nk(h:aR base P q g mb xb pv tv cv ov s w):GN (fun b=>SA g mb xb tv cv ov b/\b<w.heap.size) w mb s.env:=by obtain⟨L,h1,h2⟩:=h.env;exact⟨L,h1,h2.mono fun b hb hA=>⟨hA,hb⟩⟩
theorem aR.keeps{w':World}(h:aR base P q g mb xb pv tv cv ov s w)(hk:J (fun b=>b≠xb\/b=g) w w'):aR base P q g mb xb pv tv cv ov s w':=by
 obtain⟨h1,h2,h3,h4,h5,h6,h7,h8,h8',AP,h9,h10,h11,h12,dR,CF,AQ,h16⟩:=h;have hne:∀b,SM g mb tv cv ov b->b≠xb\/b=g:=fun b hb=>by
  rcases h9 with e|e
  ·by_cases hbx:b=g;·exact .inr hbx
   ·exact .inl (by rw[e];exact hbx)
  ·exact .inl fun e2=>e (e2▸hb)
 have hA:∀b,SA g mb xb tv cv ov b->b≠xb\/b=g:=fun b hb=> .inl hb.2;refine⟨bJ h1 hk (.inr rfl),ag.keeps Cl.ae h2 (hk.mono fun b _ hb=> .inl (by omega)),?_,?_,?_,?_,h7,h8,h8',uB AP hk.size,h9,h10,h11,h12,dR,CF,AQ,h16⟩;·obtain⟨L,hm,hL⟩:=h3;exact⟨L,hm.keeps hk (hne mb (.inr (.inl rfl))),hL.keeps (hk.mono fun b _ hb=>hA b hb)⟩
 ·exact⟨Own.keeps h4.1 hk (fun b hb=>hne b (.inr (.inr (.inl hb)))),h4.2⟩
 ·exact h5.keeps pz hk hA (fun b hb=>hne b (.inr (.inr (.inr (.inl hb)))))
 ·exact h6.keeps iL hk hA (fun b hb=>hne b (.inr (.inr (.inr (.inr hb)))))
theorem aR.below{w':World}(h:aR base P q g mb xb pv tv cv ov s w)(hb:Below w.heap.size w w'):aR base P q g mb xb pv tv cv ov s w':=h.keeps (J.ob hb)
theorem aR.alloc(h:aR base P q g mb xb pv tv cv ov s w)(o:Obj):aR base P q g mb xb pv tv cv ov s (w.alloc o):=h.keeps (J.alloc _ _ _)
theorem aR.ch{w':World}(h:aR base P q g mb xb pv tv cv ov s w)(hx:xb≠g)(hc:Ch (fun b=>b=xb) w w'):aR base P q g mb xb pv tv cv ov s w':=h.keeps (hc.keeps fun b _ hb e=>hb.elim (fun h1=>h1 e) (fun h1=>hx (e.symm.trans h1)))
theorem aR.leave(h:aR base P q g mb g pv tv cv ov s w)(o:Obj):aR base P q g mb w.heap.size pv tv cv ov s (w.alloc o):=by have hsm:=h.tF;have hlt:=h.lt;have h':=h.alloc o;have hA:∀b,b<w.heap.size->SA g mb g tv cv ov b->SA g mb w.heap.size tv cv ov b:=fun b hb h=>⟨h.1,by omega⟩;refine⟨h'.box,h'.prog,?_,h'.trail,(h.bC.mono pz hA).alloc pz o,(h.out.mono iL hA).alloc iL o,h'.bg,h'.bm,by omega,by simp,.inr fun e=>by have :=hsm _ e;omega,h'.v0,h'.v1,h'.fu,h'.qq,h'.len,h'.few,h'.XN⟩;obtain⟨L,hm,hL⟩:=h.env;exact⟨L,hm.keeps (J.alloc (fun _=>True) w o) trivial,(hL.mono hA).keeps (J.alloc _ w o)⟩
theorem aR.Nl(h:aR base P q g mb xb pv tv cv ov s w):aR base P q g mb g pv tv cv ov s w:=by have hlt':=h.lt;obtain⟨h1,h2,h3,h4,h5,h6,h7,h8,h8',AP,h9,h10,h11,h12,dR,CF,AQ,h16⟩:=h;have hA:∀b,b<w.heap.size->SA g mb xb tv cv ov b->SA g mb g tv cv ov b:=fun b hb h=>⟨h.1,fun e=>h.1 (.inl e)⟩;refine⟨h1,h2,?_,h4,h5.mono pz hA,h6.mono iL hA,h7,h8,h7,hlt'.1,.inl rfl,h10,h11,h12,dR,CF,AQ,h16⟩;obtain⟨L,hm,hL⟩:=h3;exact⟨L,hm,hL.mono hA⟩
theorem aR.vals(h:aR base P q g mb xb pv tv cv ov s w):∃pa pc ta tc ca cc oa oc,pv= .slice pa P.length pc/\tv= .slice ta s.env.length tc/\cv= .slice ca s.choices.length cc/\ov= .slice oa s.out.length oc/\P.length<=pc/\pc<=maxLen/\s.env.length<=tc/\tc<=maxLen/\s.choices.length<=cc/\cc<=maxLen/\s.out.length<=oc/\oc<=maxLen:=by obtain⟨pa,pc,_,_,rfl,p1,p2, -⟩:=ag.at h.prog;obtain⟨ta,tc,rfl,t1,t2⟩:=I.val h.trail;obtain⟨ca,cc,rfl,c1,c2⟩:=az.kG h.bC;obtain⟨oa,oc,rfl,o1,o2⟩:=az.kG h.out;simp only[nR,DZ]at*;exact⟨pa,pc,ta,tc,ca,cc,oa,oc,rfl,rfl,rfl,rfl,p1,p2,t1,t2,c1,c2,o1,o2⟩
end
theorem dS{w:World}{g:Nat}{E:TypeId}{v0 v1 v2 v3 v4 v5 v6 v7:Value}(h:w.heap[g]?=some (.cells #[v0,v1,v2,v3,v4,v5,v6,v7] E (0,0))):w.cell? ⟨g,0,none⟩=some v0/\w.cell? ⟨g,1,none⟩=some v1/\w.cell? ⟨g,2,none⟩=some v2/\w.cell? ⟨g,3,none⟩=some v3/\w.cell? ⟨g,4,none⟩=some v4/\w.cell? ⟨g,5,none⟩=some v5/\w.cell? ⟨g,6,none⟩=some v6/\w.cell? ⟨g,7,none⟩=some v7/\∀o,w.frozen? ⟨g,o,none⟩=false:=⟨(bY h 0).trans rfl,(bY h 1).trans rfl,(bY h 2).trans rfl,(bY h 3).trans rfl,(bY h 4).trans rfl,(bY h 5).trans rfl,(bY h 6).trans rfl,(bY h 7).trans rfl,fun o=>by simp[World.frozen?,h]⟩
theorem RQ:Rw Tryz.prog 94 34 (.agg #[.int .i64 0,.int .i64 0,.string .empty,.slice none 0 0]):=⟨3,Tryz.underlying94,Tryz.underlying3,fun _=>by kernel_rfl⟩
theorem yQ{w:World}{g:Nat}{E:TypeId}{a b c d v0 v1 v2 v3:Value}(h:w.heap[g]?=some (.cells #[a,b,c,d] E (0,0))):((((w.setCell ⟨g,0,none⟩ v0).setCell ⟨g,1,none⟩ v1).setCell ⟨g,2,none⟩ v2).setCell ⟨g,3,none⟩ v3).heap[g]?=some (.cells #[v0,v1,v2,v3] E (0,0)):=(aX (aX (aX (aX h 0 v0) 1 v1) 2 v2) 3 v3).trans rfl
theorem AR(w:World)(g b:Nat)(v0 v1 v2 v3:Value)(h:b≠g):((((w.setCell ⟨g,0,none⟩ v0).setCell ⟨g,1,none⟩ v1).setCell ⟨g,2,none⟩ v2).setCell ⟨g,3,none⟩ v3).heap[b]?=w.heap[b]?:=by rw[aW _ _ _ _ h,aW _ _ _ _ h,aW _ _ _ _ h,aW _ _ _ _ h]
theorem GQ{B:Nat}{w0 w:World}(hb:Below B w0 w){g:Nat}(hg:B<=g)(v0 v1 v2 v3:Value):Below B w0 ((((w.setCell ⟨g,0,none⟩ v0).setCell ⟨g,1,none⟩ v1).setCell ⟨g,2,none⟩ v2).setCell ⟨g,3,none⟩ v3):=bE (bE (bE (bE hb hg _) hg _) hg _) hg _
theorem CG(A:Nat->Prop)(w:World){g:Nat}(hg:¬A g)(v0 v1 v2 v3:Value):J A w ((((w.setCell ⟨g,0,none⟩ v0).setCell ⟨g,1,none⟩ v1).setCell ⟨g,2,none⟩ v2).setCell ⟨g,3,none⟩ v3):=(((J.setCell A _ _ _ hg).trans (J.setCell A _ _ _ hg)).trans (J.setCell A _ _ _ hg)).trans (J.setCell A _ _ _ hg)
theorem RS{M:Nat->Prop}{a w:World}(h:Ch M a w){g:Nat}(hg:M g\/a.heap.size<=g)(v0 v1 v2 v3:Value):Ch M a ((((w.setCell ⟨g,0,none⟩ v0).setCell ⟨g,1,none⟩ v1).setCell ⟨g,2,none⟩ v2).setCell ⟨g,3,none⟩ v3):=(((h.setCell (p:=⟨g,0,none⟩) hg _).setCell (p:=⟨g,1,none⟩) hg _).setCell (p:=⟨g,2,none⟩) hg _).setCell (p:=⟨g,3,none⟩) hg _
def XP(g:Nat)(w:World):Nat:=match w.cell? ⟨g,0,none⟩,w.cell? ⟨g,1,none⟩with|some (.int _ k),some (.int _ n)=>if k=0 then n.toNat+1 else 0|_,_=>0
theorem afm{w:World}{g:Nat}{E:TypeId}{k n:Int}{c d:Value}(h:w.heap[g]?=some (.cells #[.int .i64 k,.int .i64 n,c,d] E (0,0))):XP g w=if k=0 then n.toNat+1 else 0:=by obtain⟨h0,h1,_⟩:=aF h;unfold XP;rw[h0,h1]
