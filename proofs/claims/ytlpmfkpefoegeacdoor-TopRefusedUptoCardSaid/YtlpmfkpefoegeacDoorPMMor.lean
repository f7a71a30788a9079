import Derived.Test.YtlpmfkpefoegeacDoorQIsHeap
import Derived.Test.YtlpmfkpefoegeacDoorPSolve
import Derived.Test.YtlpmfkpefoegeacDoorPMUni
namespace Go.Proofs.YtlpmfkpefoegeacDoor
set_option maxRecDepth 100000
set_option maxHeartbeats 16000000
set_option linter.all false
open Classical in /-- what Marks answers -/ noncomputable def Zfs(h:Hp)(roots:List Int):List Bool×Int:=if h.Good then(marks h.cells roots,0)else([],1)
structure Coll where
  heap : Hp
  roots : List Int
  tops : List Int
  mks : List Int
  err : Int
  deriving DecidableEq
open Classical in noncomputable def Za3(h:Hp)(roots tops mks:List Int):Coll:=if ¬h.Good then⟨h,[],[],[],1⟩else if ¬(∀r∈roots,Inb h.cells r)then⟨h,[],[],[],4⟩else⟨gcH h roots,roots.map (ahead (marks h.cells roots)),tops.map (ahead (marks h.cells roots)),mks.map (ahead (Zan (marks h.cells roots) h.trail)),0⟩
section
variable {h : Hp} {roots : List Int}
end
open Classical in /-- what Undo answers -/ noncomputable def Zd7(h:Hp)(n:Int):Hp×Int:=if ¬h.Good then(h,1)else if ¬(0<=n/\n<=h.trail.length)then(h,2)else(⟨ZbG h.cells (h.trail.drop n.toNat),h.trail.take n.toNat⟩,0)
open Classical in /-- what Cut answers -/ noncomputable def ZiI(h:Hp)(n:Int):Hp×Int:=if ¬h.Good then(h,1)else if ¬(0<=n/\n<=h.cells.length)then(h,2)else if ¬Hp.Good ⟨h.cells.take n.toNat,h.trail⟩then(h,1)else(⟨h.cells.take n.toNat,h.trail⟩,0)
def tm0:Tm:= .mk 0 0 ByteArray.empty []
def rd1(l:List Ce)(w:Nat)(a:Int):Option (Tm×Nat):=match rdL l w [a]with|some (t::_,w')=>some (t,w')|_=>none
def Zdy(most:Int):Int:=max 0 (min most 65536)
def Zeb(left:Int):Option (Tm×Nat)->Tm×Int×Int|none=>(tm0,0,3)|some (t,w)=>(t,left - w,0)
open Classical in /-- what Term answers -/ noncomputable def ZaJ(h:Hp)(a most:Int):Tm×Int×Int:=if ¬h.Good then(tm0,0,1)else if ¬Inb h.cells a then(tm0,0,4)else Zeb (Zdy most) (rd1 h.cells (Zdy most).toNat a)
theorem ZoC(l:List Ce)(w:Nat)(a:Int):rdL l (w+1) [a]=if look l a<0 then none else if(Zaa l (look l a)).kind=3 then(match rdL l w (Zam (look l a) (Zaa l (look l a)).n)with|none=>none|some (ts,w1)=>some ([.mk 3 0 (Zaa l (look l a)).s ts],w1))else some ([if(Zaa l (look l a)).kind=0 then .mk 0 (look l a) ByteArray.empty []else .mk (Zaa l (look l a)).kind (Zaa l (look l a)).n (Zaa l (look l a)).s []],w):=by
 rw[rdL];by_cases h1:look l a<0;·rw[if_pos h1,if_pos h1]
 ·rw[if_neg h1,if_neg h1];by_cases h2:(Zaa l (look l a)).kind=3;·rw[if_pos h2,if_pos h2];cases hq:rdL l w (Zam (look l a) (Zaa l (look l a)).n)with|none=>rfl|some p=>obtain⟨ts,w1⟩:=p;have :=(ZgP l w _ _ _ hq).1;simp only[Nat.min_eq_right this,Zc0]
  ·rw[if_neg h2,if_neg h2];simp only[Zc0]
theorem ZjZ(l:List Ce)(a:Int):rd1 l 0 a=none:=by unfold rd1;rw[Zer]
theorem Zhu(l:List Ce)(w:Nat)(a:Int):rd1 l (w+1) a=if look l a<0 then none else if(Zaa l (look l a)).kind=3 then(match rdL l w (Zam (look l a) (Zaa l (look l a)).n)with|none=>none|some (ts,w1)=>some (.mk 3 0 (Zaa l (look l a)).s ts,w1))else some (if(Zaa l (look l a)).kind=0 then .mk 0 (look l a) ByteArray.empty []else .mk (Zaa l (look l a)).kind (Zaa l (look l a)).n (Zaa l (look l a)).s [],w):=by
 unfold rd1;rw[ZoC];by_cases h1:look l a<0;·rw[if_pos h1,if_pos h1]
 ·rw[if_neg h1,if_neg h1];by_cases h2:(Zaa l (look l a)).kind=3;·rw[if_pos h2,if_pos h2];cases rdL l w (Zam (look l a) (Zaa l (look l a)).n)with|none=>rfl|some p=>rfl
  ·rw[if_neg h2,if_neg h2]
theorem Zgg{l:List Ce}{w:Nat}{a:Int}{t:Tm}{w':Nat}(h:rd1 l w a=some (t,w')):w'<=w:=by
 unfold rd1 at h;split at h;·rename_i t' ts w1 hq;simp only[Option.some.injEq,Prod.mk.injEq]at h;have :=(ZgP l w _ _ _ hq).1;omega
 ·cases h
theorem ZeH(l:List Ce)(w:Nat)(a:Int)(r:List Int):rdL l w (a::r)=(match rd1 l w a with|none=>none|some (t,w1)=>match rdL l w1 r with|none=>none|some (rs,w2)=>some (t::rs,w2)):=by
 cases w with
  |zero=>rw[Zer,ZjZ]
  |succ w=>
   rw[rdL,Zhu];by_cases hn:look l a<0;·rw[if_pos hn,if_pos hn]
   ·rw[if_neg hn,if_neg hn];by_cases h3:(Zaa l (look l a)).kind=3;·rw[if_pos h3,if_pos h3];cases hq:rdL l w (Zam (look l a) (Zaa l (look l a)).n)with|none=>rfl|some p=>obtain⟨ts,w1⟩:=p;have :=(ZgP l w _ _ _ hq).1;simp only[Nat.min_eq_right this];cases rdL l w1 r<;>rfl
    ·rw[if_neg h3,if_neg h3];simp only;cases rdL l w r<;>rfl
theorem Zj0(l:List Ce):∀(s:List Int)(w:Nat)(a:Int),rdL l w (s++[a])=(match rdL l w s with|none=>none|some (ts,w1)=>match rd1 l w1 a with|none=>none|some (t,w2)=>some (ts++[t],w2))
 |[],w,a=>by rw[List.nil_append,Zc0,ZeH];cases h:rd1 l w a with|none=>simp only[h]|some p=>simp only[Zc0,List.nil_append,h]
 |x::s,w,a=>by rw[List.cons_append,ZeH,ZeH];cases hx:rd1 l w x with|none=>rfl|some p=>obtain⟨t,w1⟩:=p;simp only;rw[Zj0 l s w1 a];cases rdL l w1 s with|none=>rfl|some q=>obtain⟨ts,w2⟩:=q;simp only;cases rd1 l w2 a with|none=>rfl|some r=>rfl
theorem Zni(l:List Ce)(w:Nat)(s r:List Int)(h:rdL l w s=none):rdL l w (s++r)=none:=by induction s generalizing w with|nil=>rw[Zc0]at h;cases h|cons x s ih=>rw[ZeH]at h;rw[List.cons_append,ZeH];cases hx:rd1 l w x with|none=>rfl|some p=>obtain⟨t,w1⟩:=p;rw[hx]at h;simp only at h ⊢;cases hq:rdL l w1 s with|none=>rw[ih w1 hq]|some q=>rw[hq]at h;cases h
section
variable {h : Hp} {roots : List Int}
def RP(h:Hp)(roots:List Int)(a:Int):Prop:=0<=a/\Reach h.cells roots a.toNat
theorem RP.nat{a:Int}(hr:RP h roots a)(hg:GoodC h.cells):∃k:Nat,a=(k:Int)/\k<h.cells.length/\Reach h.cells roots k:=by obtain⟨h0,h1⟩:=hr;obtain⟨k,rfl⟩:=Int.eq_ofNat_of_zero_le h0;rw[Int.toNat_natCast]at h1;exact⟨k,rfl,h1.lt hg,h1⟩
theorem RP.of{k:Nat}(hr:Reach h.cells roots k):RP h roots (k:Int):=⟨zN _,by rw[Int.toNat_natCast];exact hr⟩
theorem Zbr(m:List Bool)(k:Nat):ahead m (k:Int)=(cnt m k:Nat):=by unfold ahead;rw[Int.toNat_natCast]
theorem ZoD(hg:GoodC h.cells){a:Int}(hr:RP h roots a):Zaa (gcH h roots).cells (ahead (marks h.cells roots) a)=adj (marks h.cells roots) (Zaa h.cells a):=by obtain⟨k,rfl,hk,hr⟩:=hr.nat hg;rw[Zbr,ZfV k hk hr]
theorem Zn6(hg:GoodC h.cells){a:Int}(hr:RP h roots a):Inb (gcH h roots).cells (ahead (marks h.cells roots) a)/\Inb h.cells a:=by obtain⟨k,rfl,hk,hr⟩:=hr.nat hg;have :=ZhW (h:=h) hk hr;rw[Zbr];unfold Inb;omega
theorem RP.next(hg:GoodC h.cells){a:Int}(hr:RP h roots a)(hk:(Zaa h.cells a).kind=0):RP h roots (Zaa h.cells a).n:=by obtain⟨k,rfl,hkl,hr⟩:=hr.nat hg;have h1:=hg k hkl;rw[ZaC hkl]at hk ⊢;unfold Ce.OkAt at h1;obtain⟨m,hm⟩:=Int.eq_ofNat_of_zero_le (show 0<=h.cells[k].n by omega);rw[hm];exact RP.of (.step hr (.inl (by rw[ZaC hkl];exact⟨hk,hm⟩)))
theorem ZoE(hg:GoodC h.cells){a:Int}(hr:RP h roots a)(hk:(Zaa h.cells a).kind=3):Zam (ahead (marks h.cells roots) a) (Zaa h.cells a).n=(Zam a (Zaa h.cells a).n).map (ahead (marks h.cells roots))/\∀x∈Zam a (Zaa h.cells a).n,RP h roots x:=by
 obtain⟨k,rfl,hkl,hr⟩:=hr.nat hg;have h1:=hg k hkl;have hk':=hk;rw[ZaC hkl]at hk';unfold Ce.OkAt at h1;have hn:0<=(Zaa h.cells (k:Int)).n:=by rw[ZaC hkl];omega
 obtain⟨n,hn⟩:=Int.eq_ofNat_of_zero_le hn;rw[hn];have key:∀i,i<n->cnt (marks h.cells roots) (k+1+i)=cnt (marks h.cells roots) k+1+i/\Reach h.cells roots (k+1+i):=fun i hi=>by refine⟨(Zes hg hkl hr hk i (by omega)).1,?_⟩;have :=(Zes hg hkl hr hk (i+1) (by omega)).2 (by omega);rw[show k+1+i=k+(i+1)by omega];exact this
 constructor;·unfold Zam;rw[List.map_map];refine List.map_congr_left fun i hi=>?_;rw[List.mem_range,Int.toNat_natCast]at hi;obtain⟨k1,k2⟩:=key i hi;simp only[Function.comp_apply];rw[show(k:Int)+1+(i:Nat)=((k+1+i:Nat):Int)by omega,Zbr,Zbr,k1];omega
 ·intro x hx;unfold Zam at hx;obtain⟨i,hi,rfl⟩:=List.mem_map.1 hx;rw[List.mem_range,Int.toNat_natCast]at hi;rw[show(k:Int)+1+(i:Nat)=((k+1+i:Nat):Int)by omega];exact RP.of (key i hi).2
end
def mvC(mv:Int->Int)(c:Ce):Ce:=if c.kind=0 then{c with n:=mv c.n}else c
structure Mor (l l' : List Ce) (S : Int → Prop) (mv : Int → Int) : Prop where
  inb : ∀ a, S a → Inb l a ∧ Inb l' (mv a)
  cell : ∀ a, S a → Zaa l' (mv a) = mvC mv (Zaa l a)
  next : ∀ a, S a → (Zaa l a).kind = 0 → S (Zaa l a).n
  args : ∀ a, S a → (Zaa l a).kind = 3 → ∀ i : Nat, (i : Int) < (Zaa l a).n → S (a + 1 + (i : Nat)) ∧ mv (a + 1 + (i : Nat)) = mv a + 1 + (i : Nat)
  lt : ∀ a b, S a → S b → a < b → mv a < mv b
section
variable {l l' : List Ce} {S : Int → Prop} {mv : Int → Int} {φ φ' : Int → Int} {E : Env} {K K' : Int → Prop} {N : Int}
theorem Mor.inj(h:Mor l l' S mv){a b:Int}(ha:S a)(hb:S b)(e:mv a=mv b):a=b:=by
 rcases Int.lt_trichotomy a b with h1|h1|h1;·have :=h.lt a b ha hb h1;omega
 ·exact h1
 ·have :=h.lt b a hb ha h1;omega
theorem Zb8(mv:Int->Int)(c:Ce):(mvC mv c).kind=c.kind:=by unfold mvC;split<;>rfl
theorem ZkX(mv:Int->Int)(c:Ce):(mvC mv c).s=c.s:=by unfold mvC;split<;>rfl
theorem Znj(mv:Int->Int){c:Ce}(h:c.kind≠0):(mvC mv c).n=c.n:=by unfold mvC;rw[if_neg h]
theorem Zj1(mv:Int->Int){c:Ce}(h:c.kind=0):(mvC mv c).n=mv c.n:=by unfold mvC;rw[if_pos h]
theorem Mor.stop(h:Mor l l' S mv){a:Int}(ha:S a):Stop l' (mv a)↔Stop l a:=by
 unfold Stop;rw[h.cell a ha,Zb8];by_cases hk:(Zaa l a).kind=0
 ·rw[Zj1 mv hk];constructor
  ·rintro(e|e);·exact .inl e
   ·exact .inr (h.inj (h.next a ha hk) ha e)
  ·rintro(e|e);·exact .inl e
   ·exact .inr (by rw[e])
 ·exact⟨fun _=> .inl hk,fun _=> .inl hk⟩
theorem Mor.looks(h:Mor l l' S mv){a x:Int}(hl:Looks l a x)(ha:S a):Looks l' (mv a) (mv x)/\S x:=by induction hl with|stop h1 h2=>exact⟨.stop (h.inb _ ha).2 ((h.stop ha).2 h2),ha⟩|@next a x h1 h2 _ ih=>have hk:(Zaa l a).kind=0:=Classical.byContradiction fun hk=>h2 (.inl hk);obtain⟨k1,k2⟩:=ih (h.next a ha hk);refine⟨.next (h.inb _ ha).2 (fun hs=>h2 ((h.stop ha).1 hs)) ?_,k2⟩;rw[h.cell a ha,Zj1 mv hk];exact k1
theorem Mor.free(h:Mor l l' S mv){a:Int}(ha:S a):Free l' (mv a)↔Free l a:=by
 unfold Free;rw[h.cell a ha,Zb8];by_cases hk:(Zaa l a).kind=0;·rw[Zj1 mv hk];exact⟨fun⟨_,_,e⟩=>⟨(h.inb a ha).1,hk,h.inj (h.next a ha hk) ha e⟩,fun⟨_,_,e⟩=>⟨(h.inb a ha).2,hk,by rw[e]⟩⟩
 ·exact⟨fun⟨_,e,_⟩=>absurd e hk,fun⟨_,e,_⟩=>absurd e hk⟩
theorem Mor.hr(h:Mor l l' S mv)(hφ:∀x,S x->Free l x->K x->φ' (mv x)=φ x/\K' (mv x)){a:Int}{t:Tm}(hr:Hr l φ E K a t):S a->Hr l' φ' E K' (mv a) t:=by
 induction hr with
  |@var a x t h1 h2 h3 h4 h5=>intro ha;obtain⟨k1,k2⟩:=h.looks h1 ha;obtain⟨k3,k4⟩:=hφ x k2 (h1.free h2) h3;exact .var k1 (by rw[h.cell x k2,Zb8];exact h2) k4 h4 (by rw[k3];exact h5)
  |@leaf a x t h1 h2 h3 h4 h5 h6 h7=>
   intro ha;obtain⟨k1,k2⟩:=h.looks h1 ha;have hk:(Zaa l x).kind≠0:=by rw[h2];exact h3
   exact .leaf k1 (by rw[h.cell x k2,Zb8];exact h2) h3 h4 (by rw[h.cell x k2,Znj mv hk];exact h5) (by rw[h.cell x k2,ZkX];exact h6) h7
  |@comp a x t h1 h2 h3 h4 h5 h6 h7 ih=>
   intro ha;obtain⟨k1,k2⟩:=h.looks h1 ha;have hk:(Zaa l x).kind≠0:=by rw[h2];decide
   refine .comp k1 (by rw[h.cell x k2,Zb8];exact h2) h3 h4 (by rw[h.cell x k2,Znj mv hk];exact h5) (by rw[h.cell x k2,ZkX];exact h6) fun i hi=>?_;obtain⟨q1,q2⟩:=h.args x k2 h2 i (by rw[h5];omega);rw[<-q2];exact ih i hi q1
open Classical in
/-- where a place came from -/
noncomputable def ZkY (S : Int → Prop) (mv : Int → Int) (y : Int) : Int := if h : ∃ x, S x ∧ mv x = y then Classical.choose h else 0
theorem Mor.back(h:Mor l l' S mv){a:Int}(ha:S a):ZkY S mv (mv a)=a:=by have he:∃x,S x/\mv x=mv a:=⟨a,ha,rfl⟩;unfold ZkY;rw[dif_pos he];obtain⟨h1,h2⟩:=Classical.choose_spec he;exact h.inj h1 ha h2
theorem Mor.all(h:Mor l l' S mv)(hsur:∀y,Inb l' y->∃x,S x/\mv x=y)(hM:Mon N l φ E):Mon N l' (fun y=>φ (ZkY S mv y)) E/\∀a t,S a->Hr l φ E (fun _=>True) a t->Hr l' (fun y=>φ (ZkY S mv y)) E (fun _=>True) (mv a) t:=by
 refine⟨⟨fun x y hx hy hlt=>?_,fun x hx=>?_,fun x hx=>?_⟩,fun a t ha hr=>h.hr (fun x hx _ _=>⟨by rw[h.back hx],trivial⟩) hr ha⟩
 ·obtain⟨a,ha,rfl⟩:=hsur x hx.1;obtain⟨b,hb,rfl⟩:=hsur y hy.1;rw[h.back ha,h.back hb];refine hM.lt a b ((h.free ha).1 hx) ((h.free hb).1 hy) ?_;rcases Int.lt_trichotomy a b with h1|h1|h1;·exact h1
  ·subst h1;omega
  ·have :=h.lt b a hb ha h1;omega
 ·obtain⟨a,ha,rfl⟩:=hsur x hx.1;rw[h.back ha];exact hM.bd a ((h.free ha).1 hx)
 ·obtain⟨a,ha,rfl⟩:=hsur x hx.1;rw[h.back ha];exact hM.free a ((h.free ha).1 hx)
end
def ZcG(h:Hp)(top tr:Nat):Hp:=⟨(ZbG h.cells (h.trail.drop tr)).take top,h.trail.take tr⟩
def Zfb(m:List Bool)(v:Int):Bool:=(m[v.toNat]?).getD false
theorem Zeh(m:List Bool)(t:List Int):∀(k:Nat),k<=t.length->Zfx m t k=((t.take k).filter (Zfb m)).map (ahead m)
 |0,_=>by simp[Zfx]
 |k+1,hk=>by
  have hlt:k<t.length:=by omega
  rw[List.take_succ_eq_append_getElem hlt,List.filter_append,List.map_append,<-Zeh m t k (by omega),Zfx];have e:(Zan m t)[k]?=some (Zfb m t[k]):=by unfold Zan;rw[List.getElem?_map,List.getElem?_eq_getElem hlt];rfl
  rw[e];cases hq:Zfb m t[k]with|true=>rw[if_pos rfl,List.getElem?_eq_getElem hlt];simp[hq]|false=>rw[if_neg (by simp)];simp[hq]
section
variable {h : Hp} {roots : List Int}
theorem Zn7(hg:h.Good):Mor h.cells (gcH h roots).cells (RP h roots) (ahead (marks h.cells roots)):=by
 refine⟨fun a ha=>⟨(Zn6 hg.1 ha).2,(Zn6 hg.1 ha).1⟩,fun a ha=>ZoD hg.1 ha,fun a ha hk=>ha.next hg.1 hk,fun a ha hk i hi=>?_,fun a b ha hb hlt=>?_⟩
 ·obtain⟨h1,h2⟩:=ZoE hg.1 ha hk;have hm:a+1+(i:Nat)∈Zam a (Zaa h.cells a).n:=by unfold Zam;exact List.mem_map.2 ⟨i,List.mem_range.2 (by omega),rfl⟩
  refine⟨h2 _ hm,?_⟩;have h3:=congrArg (fun l=>l[i]?) h1;unfold Zam at h3;simp only[List.getElem?_map,List.getElem?_range (show i<(Zaa h.cells a).n.toNat by omega),Option.map_some,Option.some.injEq]at h3;exact h3.symm
 ·obtain⟨k,rfl,hk,ha⟩:=ha.nat hg.1;obtain⟨m,rfl,hm,hb⟩:=hb.nat hg.1;rw[Zbr,Zbr];have :=ZhV (m:=marks h.cells roots) (i:=k) (j:=m) (by omega) ((Zbk hk).2 ha);omega
theorem Zpb(hg:h.Good):∀y,Inb (gcH h roots).cells y->∃x,RP h roots x/\ahead (marks h.cells roots) x=y:=by intro y hy;obtain⟨k,rfl⟩:=Int.eq_ofNat_of_zero_le hy.1;obtain⟨i,h1,h2,h3⟩:=Zlr (h:=h) (roots:=roots) (j:=k) (by have :=hy.2;omega);exact⟨(i:Int),RP.of h2,by rw[Zbr,h3]⟩
theorem Zfc(hg:h.Good){v:Int}(hv:v∈h.trail):Zfb (marks h.cells roots) v=true↔RP h roots v:=by
 obtain⟨j,hj,rfl⟩:=List.mem_iff_getElem.1 hv;obtain⟨k,e,hk, -⟩:=hg.2.1 j hj;rw[e];unfold Zfb RP;rw[Int.toNat_natCast];constructor;·intro h1;refine⟨zN _,(Zbk hk).1 ?_⟩;cases hq:(marks h.cells roots)[k]? with|none=>rw[hq]at h1;simp at h1|some b=>rw[hq]at h1;simp only[Option.getD_some]at h1;rw[h1]
 ·intro h1;rw[(Zbk hk).2 h1.2];rfl
theorem Zj2(tr:Nat)(htr:tr<=h.trail.length):(gcH h roots).trail.take (cnt (Zan (marks h.cells roots) h.trail) tr)=((h.trail.take tr).filter (Zfb (marks h.cells roots))).map (ahead (marks h.cells roots))/\(gcH h roots).trail.drop (cnt (Zan (marks h.cells roots) h.trail) tr)=((h.trail.drop tr).filter (Zfb (marks h.cells roots))).map (ahead (marks h.cells roots)):=by
 have h1:(gcH h roots).trail=(h.trail.filter (Zfb (marks h.cells roots))).map (ahead (marks h.cells roots)):=by show Zfx _ _ _=_;rw[Zeh _ _ _ (zL _),List.take_length]
 have h2:cnt (Zan (marks h.cells roots) h.trail) tr=(((h.trail.take tr).filter (Zfb (marks h.cells roots))).map (ahead (marks h.cells roots))).length:=by rw[<-ZbC,Zeh _ _ _ htr]
 have h3:(h.trail.filter (Zfb (marks h.cells roots))).map (ahead (marks h.cells roots))=((h.trail.take tr).filter (Zfb (marks h.cells roots))).map (ahead (marks h.cells roots))++((h.trail.drop tr).filter (Zfb (marks h.cells roots))).map (ahead (marks h.cells roots)):=by rw[<-List.map_append,<-List.filter_append,List.take_append_drop]
 rw[h1,h2,h3];exact⟨List.take_left' rfl,List.drop_left' rfl⟩
theorem Zcp(top tr:Nat)(htop:top<=h.cells.length):(ZcG h top tr).cells.length=top:=by show((ZbG _ _).take top).length=top;rw[List.length_take,Zbj];omega
theorem Zd0{top tr:Nat}{a:Int}(htop:top<=h.cells.length)(h0:0<=a)(h1:a<top):Zaa (ZcG h top tr).cells a=if a∈h.trail.drop tr then{Zaa h.cells a with n:=a}else Zaa h.cells a:=by
 obtain⟨k,rfl⟩:=Int.eq_ofNat_of_zero_le h0;have hk:k<(ZcG h top tr).cells.length:=by rw[Zcp top tr htop];omega
 have hk2:k<h.cells.length:=by omega
 rw[ZaC hk,ZaC hk2];have hk':k<((ZbG h.cells (h.trail.drop tr)).take top).length:=hk;show((ZbG h.cells (h.trail.drop tr)).take top)[k]'hk'=_;rw[List.getElem_take,Zdj]
theorem ZlT(hg:h.Good){top tr:Nat}(htop:top<=h.cells.length)(htr:tr<=h.trail.length)(ho:(ZcG h top tr).Good):Mor (ZcG h top tr).cells (ZcG (gcH h roots) (cnt (marks h.cells roots) top) (cnt (Zan (marks h.cells roots) h.trail) tr)).cells (fun a=>RP h roots a/\a<top) (ahead (marks h.cells roots))/\(∀y,Inb (ZcG (gcH h roots) (cnt (marks h.cells roots) top) (cnt (Zan (marks h.cells roots) h.trail) tr)).cells y->∃x,(RP h roots x/\x<top)/\ahead (marks h.cells roots) x=y):=by
 have hlen:=Zcp (h:=h) top tr htop;have htop':cnt (marks h.cells roots) top<=(gcH h roots).cells.length:=by show _<=(Zfo _ _ _).length;rw[Zbh];exact ZcS htop
 have hlen':=Zcp (h:=gcH h roots) (cnt (marks h.cells roots) top) (cnt (Zan (marks h.cells roots) h.trail) tr) htop';have hM:=Zn7 (roots:=roots) hg;have hin:∀a,RP h roots a->a<top->0<=ahead (marks h.cells roots) a/\ahead (marks h.cells roots) a<(cnt (marks h.cells roots) top:Nat):=fun a ha hlt=>by obtain⟨k,rfl,hk,hr⟩:=ha.nat hg.1;rw[Zbr];have :=ZhV (m:=marks h.cells roots) (i:=k) (j:=top) (by omega) ((Zbk hk).2 hr);omega
 have hun:∀a,RP h roots a->(ahead (marks h.cells roots) a∈(gcH h roots).trail.drop (cnt (Zan (marks h.cells roots) h.trail) tr)↔a∈h.trail.drop tr):=fun a ha=>by
  rw[(Zj2 tr htr).2];constructor;·intro hm;obtain⟨x,hx,e⟩:=List.mem_map.1 hm;obtain⟨hx1,hx2⟩:=List.mem_filter.1 hx;rw[<-hM.inj ((Zfc hg (List.mem_of_mem_drop hx1)).1 hx2) ha e];exact hx1
  ·intro hm;exact List.mem_map.2 ⟨a,List.mem_filter.2 ⟨hm,(Zfc hg (List.mem_of_mem_drop hm)).2 ha⟩,rfl⟩
 have htk:∀a,a∈h.trail->(Zaa h.cells a).kind=0:=fun a ha=>by obtain⟨j,hj,rfl⟩:=List.mem_iff_getElem.1 ha;obtain⟨k,e,hk,hk0⟩:=hg.2.1 j hj;rw[e,ZaC hk];exact hk0
 have hok:∀a:Int,0<=a->a<(top:Int)->(Zaa (ZcG h top tr).cells a).OkAt top a.toNat:=fun a h0 h1=>by
  obtain⟨k,rfl⟩:=Int.eq_ofNat_of_zero_le h0;have hk:k<(ZcG h top tr).cells.length:=by omega
  have :=ho.1 k hk;rw[ZaC hk,Int.toNat_natCast];rwa[hlen]at this
 refine⟨⟨fun a⟨ha,hlt⟩=>⟨⟨ha.1,by omega⟩,by have :=hin a ha hlt;unfold Inb;omega⟩,fun a⟨ha,hlt⟩=>?_,fun a⟨ha,hlt⟩hk=>?_,fun a⟨ha,hlt⟩hk i hi=>?_,fun a b ha hb hlt=>hM.lt a b ha.1 hb.1 hlt⟩,fun y hy=>?_⟩
 ·obtain⟨q1,q2⟩:=hin a ha hlt;rw[Zd0 htop' q1 q2,Zd0 htop ha.1 hlt,hM.cell a ha];by_cases hm:a∈h.trail.drop tr;·rw[if_pos hm,if_pos ((hun a ha).2 hm)];have hk:=htk a (List.mem_of_mem_drop hm);unfold mvC;rw[if_pos hk,if_pos hk]
  ·rw[if_neg hm,if_neg (fun h=>hm ((hun a ha).1 h))]
 ·have h1:=hok a ha.1 hlt;rw[Zd0 htop ha.1 hlt]at h1 hk ⊢;by_cases hm:a∈h.trail.drop tr;·rw[if_pos hm];exact⟨ha,hlt⟩
  ·rw[if_neg hm]at h1 hk ⊢;unfold Ce.OkAt at h1;exact⟨hM.next a ha hk,by omega⟩
 ·have h1:=hok a ha.1 hlt;rw[Zd0 htop ha.1 hlt]at h1 hk hi;have hm:¬a∈h.trail.drop tr:=fun hm=>by rw[if_pos hm]at hk;have :=htk a (List.mem_of_mem_drop hm);simp only at hk;omega
  rw[if_neg hm]at h1 hk hi;obtain⟨k1,k2⟩:=hM.args a ha hk i hi;unfold Ce.OkAt at h1;have :=ha.1;exact⟨⟨k1,by omega⟩,k2⟩
 ·obtain⟨j,rfl⟩:=Int.eq_ofNat_of_zero_le hy.1;have hj:j<cnt (marks h.cells roots) top:=by have :=hy.2;omega
  obtain⟨i,h1,h2,h3⟩:=ZfU _ _ hj;exact⟨(i:Int),⟨RP.of ((Zbk (by omega)).1 h2),by omega⟩,by rw[Zbr,h3]⟩
theorem Mor.good{l l':List Ce}{S:Int->Prop}{mv:Int->Int}(hM:Mor l l' S mv)(hsur:∀y,Inb l' y->∃x,S x/\mv x=y)(hg:GoodC l):GoodC l':=by
 intro i hi;obtain⟨x,hx,e⟩:=hsur (i:Int) ⟨zN _,by omega⟩;have h1:=hM.cell x hx;rw[e,ZaC hi]at h1;obtain⟨k,rfl,hk,hc⟩:=ZaY (hM.inb x hx).1;have h2:=hg k hk;rw[h1];have hnext:=hM.next _ hx;have hargs:=hM.args _ hx;rw[hc]at hnext hargs ⊢;unfold Ce.OkAt at h2 ⊢;rcases h2 with⟨a1,a2,a3,a4⟩|⟨a1,a2,a3⟩|⟨a1,a2⟩|⟨a1,a2,a3,a4,a5⟩;·left;have hb:=(hM.inb _ (hnext a1)).2;unfold Inb at hb;rw[Zb8,ZkX,Zj1 mv a1];exact⟨a1,hb.1,hb.2,a4⟩
 ·right;left;rw[Zb8,ZkX,Znj mv (by omega)];exact⟨a1,a2,a3⟩
 ·right;right;left;rw[Zb8,ZkX];exact⟨a1,a2⟩
 ·right;right;right;rw[Zb8,ZkX,Znj mv (by omega)];obtain⟨k1,k2⟩:=hargs a1 ((l[k]).n.toNat - 1) (by omega);have hb:=(hM.inb _ k1).2;unfold Inb at hb;exact⟨a1,a2,a3,by omega,a5⟩
theorem Znk(hg:h.Good){top tr:Nat}(htop:top<=h.cells.length)(htr:tr<=h.trail.length)(ho:(ZcG h top tr).Good):(ZcG (gcH h roots) (cnt (marks h.cells roots) top) (cnt (Zan (marks h.cells roots) h.trail) tr)).Good:=by
 obtain⟨hM,hsur⟩:=ZlT (roots:=roots) hg htop htr ho;have hgg:=ZjG (roots:=roots) hg;have hlen:=Zcp (h:=h) top tr htop;refine⟨hM.good hsur ho.1,fun j hj=>?_,?_,?_⟩;·have e:(ZcG (gcH h roots) (cnt (marks h.cells roots) top) (cnt (Zan (marks h.cells roots) h.trail) tr)).trail=_:=(Zj2 tr htr).1;have hm:(ZcG (gcH h roots) (cnt (marks h.cells roots) top) (cnt (Zan (marks h.cells roots) h.trail) tr)).trail[j]∈((h.trail.take tr).filter (Zfb (marks h.cells roots))).map (ahead (marks h.cells roots)):=e▸List.getElem_mem hj;obtain⟨x,hx,ex⟩:=List.mem_map.1 hm;obtain⟨hx1,hx2⟩:=List.mem_filter.1 hx;have hxt:=(Zfc (roots:=roots) hg (List.mem_of_mem_take hx1)).1 hx2;obtain⟨i,hi,ei⟩:=List.mem_iff_getElem.1 (show x∈(ZcG h top tr).trail from hx1);obtain⟨k,ek,hk,hk0⟩:=ho.2.1 i hi;have hxk:x=(k:Int):=ei.symm.trans ek;have hS:RP h roots x/\x<top:=⟨hxt,by omega⟩;have hb:=(hM.inb x hS).2;obtain⟨m,hm,hml,hmc⟩:=ZaY hb;refine⟨m,by rw[<-hm];exact ex.symm,hml,?_⟩;rw[<-hmc,hM.cell x hS,Zb8,hxk,ZaC hk];exact hk0
 ·show((ZbG _ _).take _).length<=_;rw[List.length_take,Zbj];have :=hgg.2.2.1;omega
 ·show(List.take _ _).length<=_;rw[List.length_take];have :=hgg.2.2.2;omega
end
end Go.Proofs.YtlpmfkpefoegeacDoor
