import Derived.Test.YtlpmfkpefoegeacQRen
import Derived.Test.YtlpmfkpefoegeacQMap
import Derived.Test.YtlpmfkpefoegeacQNodes
import Derived.Test.YtlpmfkpefoegeacQClause2
namespace Go.Proofs.Ytlpmfkpefoegeac
set_option maxRecDepth 100000
set_option maxHeartbeats 16000000
set_option linter.all false
open Go.RowKit
def Zat(st:List Int)(n:Int):Int×List Int:=if n∈st then((st.idxOf n:Nat),st)else((st.length:Nat),st++[n])
theorem ZiI(st:List Int)(n:Int):(Zat st n).2.length<=st.length+1:=by unfold Zat;split<;>simp
theorem Zkj{k:Nat}(h:k<=4194304):I64 (k:Int):=by unfold I64;omega
end Go.Proofs.Ytlpmfkpefoegeac
namespace Go.Proofs.Ytlpmfkpefoegeac
set_option maxRecDepth 100000
set_option maxHeartbeats 16000000
set_option linter.all false
def tidy(l:List Tm):List Tm:=(Tm.renSL Zat [] l).1
namespace Tm
inductive Vars (p : Int → Prop) : Tm → Prop where
  | mk (k n : Int) (s : ByteArray) (l : List Tm) (h : k = 0 → p n) (hl : ∀ t ∈ l, Vars p t) : Vars p (mk k n s l)
end Tm
section
variable {p : Int → Prop} {g : Int → Int}
theorem Zft(hg:∀a b,p a->p b->g a=g b->a=b){st:List Int}(hst:∀x∈st,p x){n:Int}(hn:p n):g n∈st.map g↔n∈st:=by
 constructor;·intro h;obtain⟨x,hx,he⟩:=List.mem_map.1 h;rw[hg n x hn (hst x hx) he.symm];exact hx
 ·exact fun h=>List.mem_map.2 ⟨n,h,rfl⟩
theorem Zd9(hg:∀a b,p a->p b->g a=g b->a=b){n:Int}(hn:p n):∀{st:List Int},(∀x∈st,p x)->(st.map g).idxOf (g n)=st.idxOf n
 |[],_=>rfl
 |x::st,hst=>by
  have ih:=Zd9 hg hn (st:=st) (fun y hy=>hst y (List.mem_cons_of_mem _ hy));by_cases h:x=n;·subst h;simp
  ·have h1:¬g x=g n:=fun e=>h (hg x n (hst x (List.mem_cons_self ..)) hn e);simp only[List.map_cons,List.idxOf_cons,ih];have h2:(x==n)=false:=by simpa using h
   have h3:(g x==g n)=false:=by simpa using h1
   rw[h2,h3]
theorem Zkk(hg:∀a b,p a->p b->g a=g b->a=b){st:List Int}(hst:∀x∈st,p x){n:Int}(hn:p n):Zat (st.map g) (g n)=((Zat st n).1,(Zat st n).2.map g)/\∀x∈(Zat st n).2,p x:=by
 by_cases h:n∈st;·have h1:=(Zft hg hst hn).2 h;simp only[Zat,h,if_true,h1,Zd9 hg hn hst];exact⟨trivial,hst⟩
 ·have h1:¬g n∈st.map g:=fun e=>h ((Zft hg hst hn).1 e);simp only[Zat,h,if_false,h1,List.length_map,List.map_append,List.map_cons,List.map_nil];refine⟨trivial,fun x hx=>?_⟩;rcases List.mem_append.1 hx with hx|hx;·exact hst x hx
  ·simp only[List.mem_singleton]at hx;subst hx;exact hn
theorem Zlv(hg:∀a b,p a->p b->g a=g b->a=b):∀(t:Tm)(st:List Int),t.Vars p->(∀x∈st,p x)->(t.ren g).renS Zat (st.map g)=((t.renS Zat st).1,(t.renS Zat st).2.map g)/\∀x∈(t.renS Zat st).2,p x:=by
 intro t;induction t using Tm.induct with
  |h k n s l ih=>
   intro st hv hst;obtain⟨_,_,_,_,hp,hl⟩:=hv;have hn:Tm.num Zat (st.map g) k (if k=0 then g n else n)=((Tm.num Zat st k n).1,(Tm.num Zat st k n).2.map g)/\∀x∈(Tm.num Zat st k n).2,p x:=by
    unfold Tm.num;by_cases e:k=0;·simp only[e,if_true];exact Zkk hg hst (hp e)
    ·simp only[e,if_false];exact⟨trivial,hst⟩
   have hL:∀(r:List Tm),(∀t∈r,t∈l)->∀st:List Int,(∀x∈st,p x)->Tm.renSL Zat (st.map g) (Tm.renL g r)=((Tm.renSL Zat st r).1,(Tm.renSL Zat st r).2.map g)/\∀x∈(Tm.renSL Zat st r).2,p x:=by intro r;induction r with|nil=>intro _ st hst;exact⟨rfl,hst⟩|cons x r ihr=>intro hm st hst;obtain⟨h1,h2⟩:=ih x (hm x (List.mem_cons_self ..)) st (hl x (hm x (List.mem_cons_self ..))) hst;obtain⟨h3,h4⟩:=ihr (fun t ht=>hm t (List.mem_cons_of_mem _ ht)) (x.renS Zat st).2 h2;simp only[Tm.renL,Tm.renSL,h1,h3];exact⟨trivial,h4⟩
   obtain⟨h1,h2⟩:=hn;obtain⟨h3,h4⟩:=hL l (fun _ h=>h) _ h2;simp only[Tm.ren,Tm.renS,h1,h3];exact⟨trivial,h4⟩
theorem Zkl(hg:∀a b,p a->p b->g a=g b->a=b)(l:List Tm):∀(st:List Int),(∀t∈l,t.Vars p)->(∀x∈st,p x)->Tm.renSL Zat (st.map g) (l.map (Tm.ren g))=((Tm.renSL Zat st l).1,(Tm.renSL Zat st l).2.map g):=by induction l with|nil=>intro st _ _;rfl|cons x r ihr=>intro st hv hst;obtain⟨h1,h2⟩:=Zlv hg x st (hv x (List.mem_cons_self ..)) hst;simp only[List.map_cons,Tm.renSL,h1,ihr _ (fun t ht=>hv t (List.mem_cons_of_mem _ ht)) h2]
theorem Zlw(hg:∀a b,p a->p b->g a=g b->a=b)(l:List Tm)(hv:∀t∈l,t.Vars p):tidy (l.map (Tm.ren g))=tidy l:=by unfold tidy;rw[show([]:List Int)=([]:List Int).map g from rfl,Zkl hg l [] hv (fun x hx=>by cases hx)];rfl
end
abbrev Env:=List (Int×Tm)
def eget(E:Env)(n:Int):Option Tm:=(E.find? fun p=>p.1==n).map (·.2)
theorem eget_none{E:Env}{n:Int}:eget E n=none↔∀p∈E,p.1≠n:=by unfold eget;rw[Option.map_eq_none_iff,List.find?_eq_none];simp
theorem Zea{E:Env}{n:Int}{t:Tm}(h:eget E n=some t):(n,t)∈E:=by unfold eget at h;rw[Option.map_eq_some_iff]at h;obtain⟨p,h1,rfl⟩:=h;have h2:=List.find?_some h1;have h3:=List.mem_of_find?_eq_some h1;simp only[beq_iff_eq]at h2;rw[<-h2];exact h3
theorem Zdb{E:Env}{v n:Int}{t:Tm}:eget (E++[(v,t)]) n=match eget E n with|some x=>some x|none=>if v=n then some t else none:=by unfold eget;rw[List.find?_append];cases h:E.find? (fun p=>p.1==n)with|some p=>simp|none=>by_cases e:v=n<;>simp[e]
def Zbg(E:Env):Nat->Tm->Tm|0,t=>t|k+1,t=>if t.kind=0 then(match eget E t.n with|none=>t|some x=>Zbg E k x)else t
def slook(E:Env)(t:Tm):Tm:=Zbg E (t.n.toNat+1) t
abbrev Tm.In(N:Int)(t:Tm):Prop:=t.Good N
theorem Tm.In.n{N:Int}{t:Tm}(h:t.In N)(hk:t.kind=0):0<=t.n/\t.n<N:=by cases h with|var n h0 h1=>exact⟨h0,h1⟩|atom=>cases hk|int=>cases hk|comp=>cases hk
theorem Tm.In.arg{N:Int}{t:Tm}(h:t.In N){x:Tm}(hx:x∈t.args):x.In N:=by cases h with|var=>cases hx|atom=>cases hx|int=>cases hx|comp _ _ _ _ _ _ h4=>exact h4 x hx
theorem Tm.In.mono{N N':Int}{t:Tm}(h:t.In N)(hN:N<=N'):t.In N':=by induction h with|var n h0 h1=>exact .var n h0 (by omega)|atom s h=>exact .atom s h|int n h0 h1=>exact .int n h0 h1|comp s l h h1 h2 h3 _ ih=>exact .comp s l h h1 h2 h3 ih
structure EnvOk (N : Int) (E : Env) : Prop where
  key : ∀ p ∈ E, 0 ≤ p.1 ∧ p.1 < N
  tm : ∀ p ∈ E, p.2.In N
  less : ∀ p ∈ E, p.2.kind = 0 → p.2.n < p.1
  nodup : (E.map (·.1)).Nodup
theorem EnvOk.nil(N:Int):EnvOk N []:=⟨by simp,by simp,by simp,by simp⟩
theorem EnvOk.mono{N N':Int}{E:Env}(h:EnvOk N E)(hN:N<=N'):EnvOk N' E:=⟨fun p hp=>⟨(h.key p hp).1,by have :=(h.key p hp).2;omega⟩,fun p hp=>(h.tm p hp).mono hN,h.less,h.nodup⟩
theorem EnvOk.take{N:Int}{E:Env}(h:EnvOk N E)(k:Nat):EnvOk N (E.take k):=⟨fun p hp=>h.key p (List.mem_of_mem_take hp),fun p hp=>h.tm p (List.mem_of_mem_take hp),fun p hp=>h.less p (List.mem_of_mem_take hp),by rw[List.map_take];exact h.nodup.sublist (List.take_sublist _ _)⟩
theorem EnvOk.snoc{N:Int}{E:Env}(h:EnvOk N E){v:Int}{t:Tm}(h0:0<=v)(h1:v<N)(hv:eget E v=none)(ht:t.In N)(hk:t.kind=0->t.n<v):EnvOk N (E++[(v,t)]):=by
 refine⟨fun p hp=>?_,fun p hp=>?_,fun p hp=>?_,?_⟩
 ·rcases List.mem_append.1 hp with hp|hp;·exact h.key p hp
  ·simp only[List.mem_singleton]at hp;subst hp;exact⟨h0,h1⟩
 ·rcases List.mem_append.1 hp with hp|hp;·exact h.tm p hp
  ·simp only[List.mem_singleton]at hp;subst hp;exact ht
 ·rcases List.mem_append.1 hp with hp|hp;·exact h.less p hp
  ·simp only[List.mem_singleton]at hp;subst hp;exact hk
 ·rw[List.map_append,List.nodup_append];refine⟨h.nodup,by simp,fun a ha b hb=>?_⟩;simp only[List.map_cons,List.map_nil,List.mem_singleton]at hb;subst hb;obtain⟨p,hp,rfl⟩:=List.mem_map.1 ha;exact eget_none.1 hv p hp
section
variable {N : Int} {E : Env}
theorem Zcc(h:EnvOk N E):∀(k:Nat)(t:Tm),t.In N->t.n.toNat<k->((Zbg E k t).kind=0->eget E (Zbg E k t).n=none)/\(Zbg E k t).In N/\∀k',t.n.toNat<k'->Zbg E k' t=Zbg E k t
 |0,t,ht,hk=>by omega
 |k+1,t,ht,hk=>by
  by_cases e:t.kind=0
  ·cases he:eget E t.n with
    |none=>refine⟨by simp[Zbg,e,he],by simpa[Zbg,e,he]using ht,fun k' hk'=>?_⟩;cases k' with|zero=>omega|succ k'=>simp[Zbg,e,he]
    |some x=>
     have hm:=Zea he;have hx:x.In N:=h.tm _ hm;have hn:=ht.n e;by_cases ex:x.kind=0;·have hl:x.n<t.n:=h.less _ hm ex;have hx0:=hx.n ex;obtain⟨i1,i2,i3⟩:=Zcc h k x hx (by omega);refine⟨by simpa[Zbg,e,he]using i1,by simpa[Zbg,e,he]using i2,fun k' hk'=>?_⟩;cases k' with|zero=>omega|succ k'=>simp only[Zbg,e,he,if_true];exact i3 k' (by omega)
     ·have hs:∀k,Zbg E k x=x:=fun k=>by cases k<;>simp[Zbg,ex]
      refine⟨by simp[Zbg,e,he,hs,ex],by simpa[Zbg,e,he,hs]using hx,fun k' hk'=>?_⟩;cases k' with|zero=>omega|succ k'=>simp[Zbg,e,he,hs]
  ·refine⟨by simp[Zbg,e],by simpa[Zbg,e]using ht,fun k' hk'=>?_⟩;cases k' with|zero=>omega|succ k'=>simp[Zbg,e]
theorem Zb0(h:EnvOk N E){t:Tm}(ht:t.In N)(hk:(slook E t).kind=0):eget E (slook E t).n=none:=(Zcc h _ t ht (Nat.lt_succ_self _)).1 hk
theorem ZaY(h:EnvOk N E){t:Tm}(ht:t.In N):(slook E t).In N:=(Zcc h _ t ht (Nat.lt_succ_self _)).2.1
theorem ZdA(h:EnvOk N E){t x:Tm}(ht:t.In N)(hk:t.kind=0)(hx:eget E t.n=some x):slook E t=slook E x:=by
 have hm:=Zea hx;have hxi:x.In N:=h.tm _ hm;have hn:=ht.n hk;unfold slook;rw[Zbg,if_pos hk,hx];by_cases ex:x.kind=0;·have hl:x.n<t.n:=h.less _ hm ex;have hx0:=hxi.n ex;exact(Zcc h _ x hxi (Nat.lt_succ_self _)).2.2 _ (by omega)
 ·have hs:∀k,Zbg E k x=x:=fun k=>by cases k<;>simp[Zbg,ex]
  simp only[hs]
theorem Zay{t:Tm}(h:t.kind≠0\/eget E t.n=none):slook E t=t:=by
 unfold slook;rw[Zbg];split
 ·rename_i hk;rcases h with h|h;·exact absurd hk h
  ·rw[h]
 ·rfl
theorem ZdB(h:EnvOk N E){t:Tm}(ht:t.In N):slook E (slook E t)=slook E t:=by
 by_cases hk:(slook E t).kind=0;·exact Zay (.inr (Zb0 h ht hk))
 ·exact Zay (.inl hk)
end
def inS(E:Env)(v:Int):Nat->List Tm->Bool×Int|w,[]=>(false,w)|0,_::_=>(false, -1)|w+1,z::r=>if(slook E z).kind=0 then(if(slook E z).n=v then(true,w)else inS E v w r)else inS E v w ((slook E z).args++r)
theorem ZdU(E:Env)(v:Int)(w:Nat):inS E v w []=(false,(w:Int)):=by cases w<;>rfl
theorem Zlx(E:Env)(v:Int)(z:Tm)(r:List Tm):inS E v 0 (z::r)=(false, -1):=rfl
theorem Zcx(E:Env)(v:Int)(w:Nat)(z:Tm)(r:List Tm):inS E v (w+1) (z::r)=if(slook E z).kind=0 then(if(slook E z).n=v then(true,(w:Int))else inS E v w r)else inS E v w ((slook E z).args++r):=rfl
theorem Zf4(E:Env)(v:Int):∀(w:Nat)(s:List Tm),(inS E v w s).2<=w/\ -1<=(inS E v w s).2
 |w,[]=>by rw[ZdU];exact⟨Int.le_refl _,by simp only;omega⟩
 |0,z::r=>by simp[inS]
 |w+1,z::r=>by
  rw[Zcx];have h1:=Zf4 E v w r;have h2:=Zf4 E v w ((slook E z).args++r);split
  ·split;·simp;omega
   ·omega
  ·omega
theorem Zfu(E:Env)(v:Int):∀(w:Nat)(s r:List Tm),inS E v w (s++r)=if(inS E v w s).1=true\/(inS E v w s).2<0 then inS E v w s else inS E v (inS E v w s).2.toNat r
 |w,[],r=>by simp[ZdU];omega
 |0,z::s,r=>by simp[inS]
 |w+1,z::s,r=>by
  rw[List.cons_append,Zcx,Zcx];have h1:=Zfu E v w s r;have h2:=Zfu E v w ((slook E z).args++s) r;rw[List.append_assoc]at h2;split
  ·split;·simp
   ·exact h1
  ·exact h2
theorem Zeb(E:Env)(v:Int):∀(w:Nat)(s:List Tm),(inS E v w s).1=true->0<=(inS E v w s).2
 |w,[],h=>by rw[ZdU]at h ⊢;simp at h
 |0,z::r,h=>by simp[inS]at h
 |w+1,z::r,h=>by
  rw[Zcx]at h ⊢;have h1:=Zeb E v w r;have h2:=Zeb E v w ((slook E z).args++r);split at h
  ·rename_i k1;simp only[k1,if_true];split at h;·rename_i k2;simp only[k2,if_true];omega
   ·rename_i k2;simp only[k2,if_false];exact h1 h
  ·rename_i k1;simp only[k1,if_false];exact h2 h
structure US where
  ok : Bool
  env : Env
  work : Int
def tvar(n:Int):Tm:= .mk 0 n ByteArray.empty []
def uniS(w:Nat)(s:List (Tm×Tm))(E:Env):US:=match w,s with|w,[]=>⟨true,E,w⟩|0,_::_=>⟨false,E, -1⟩|w+1,(a,b)::r=>let x:=slook E a;let y:=slook E b;if x.kind=0/\y.kind=0 then(if x.n=y.n then uniS w r E else uniS w r (E++[(max x.n y.n,tvar (min x.n y.n))]))else if x.kind=0\/y.kind=0 then let v:=if y.kind=0 then y.n else x.n;let z:=if y.kind=0 then x else y;let p:=inS E v w [z];if p.1=true\/p.2<0 then⟨false,E,p.2⟩else uniS (min w p.2.toNat) r (E++[(v,z)])else if ¬(x.kind=y.kind/\x.n=y.n/\x.s=y.s/\x.args.length=y.args.length)then⟨false,E,w⟩else uniS w (x.args.zip y.args++r) E termination_by w decreasing_by all_goals omega
theorem Zb3(w:Nat)(E:Env):uniS w [] E=⟨true,E,w⟩:=by cases w<;>simp[uniS]
theorem ZcL(p:Tm×Tm)(r:List (Tm×Tm))(E:Env):uniS 0 (p::r) E=⟨false,E, -1⟩:=by simp[uniS]
theorem Zkm : ∀ (w : Nat) (s : List (Tm × Tm)) (E : Env),(uniS w s E).work ≤ w ∧ -1 ≤ (uniS w s E).work ∧ ((uniS w s E).ok = true → 0 ≤ (uniS w s E).work) :=by
 intro w;induction w using Nat.strongRecOn with
  | _ w ih=>
   intro s E;match w,s,ih with
    | w,[],_=>rw [Zb3];exact ⟨Int.le_refl _,by simp only;omega,fun _=>by simp only;omega⟩
    | 0,_ :: _,_=>simp [ZcL]
    | w + 1,(a,b) :: r,ih=>
     have ih' : ∀ w' ≤ w,∀ (s : List (Tm × Tm)) (E : Env),(uniS w' s E).work ≤ (w + 1 : Nat) ∧ -1 ≤ (uniS w' s E).work ∧ ((uniS w' s E).ok = true → 0 ≤ (uniS w' s E).work) :=fun w' h s E=>by obtain ⟨h1,h2,h3⟩ :=ih w' (by omega) s E;exact ⟨by omega,h2,h3⟩
     rw [uniS];simp only;split
     ·split;·exact ih' w (by omega) _ _
      ·exact ih' w (by omega) _ _
     ·split
      ·generalize hp : inS E (if (slook E b).kind = 0 then (slook E b).n else (slook E a).n) w [if (slook E b).kind = 0 then slook E a else slook E b] = p;have h1:=Zf4 E (if (slook E b).kind = 0 then (slook E b).n else (slook E a).n) w [if (slook E b).kind = 0 then slook E a else slook E b];rw [hp] at h1;split;·refine ⟨?_,?_,fun h=>by simp at h⟩ <;> simp only <;> omega
       ·exact ih' _ (by omega) _ _
      ·split;·refine ⟨?_,?_,fun h=>by simp at h⟩ <;> simp only <;> omega
       ·exact ih' w (by omega) _ _
theorem Zgw:∀(w:Nat)(s r:List (Tm×Tm))(E:Env),uniS w (s++r) E=if(uniS w s E).ok=true then uniS (uniS w s E).work.toNat r (uniS w s E).env else uniS w s E:=by
 intro w;induction w using Nat.strongRecOn with
  |_ w ih=>
   intro s r E;match w,s,ih with
    |w,[],_=>simp[Zb3]
    |0,_::_,_=>simp[ZcL]
    |w+1,(a,b)::s,ih=>
     rw[List.cons_append];rw[uniS.eq_def (w+1) ((a,b)::(s++r)),uniS.eq_def (w+1) ((a,b)::s)];simp only;split
     ·split;·exact ih w (by omega) s r E
      ·exact ih w (by omega) s r _
     ·split
      ·generalize inS E (if(slook E b).kind=0 then(slook E b).n else(slook E a).n) w [if(slook E b).kind=0 then slook E a else slook E b]=p;by_cases hp:p.1=true\/p.2<0;·rw[if_pos hp,if_pos hp];rfl
       ·rw[if_neg hp,if_neg hp];exact ih (min w p.2.toNat) (by omega) s r _
      ·split;·simp
       ·rw[<-List.append_assoc];exact ih w (by omega) _ r E
theorem Zcd{N:Int}:∀(w:Nat)(s:List (Tm×Tm))(E:Env),EnvOk N E->(∀p∈s,p.1.In N/\p.2.In N)->EnvOk N (uniS w s E).env/\(∃F,(uniS w s E).env=E++F/\F.length<=w):=by
 intro w;induction w using Nat.strongRecOn with
  |_ w ih=>
   intro s E hE hs;match w,s,ih,hs with
    |w,[],_,_=>rw[Zb3];exact⟨hE,[],by simp,by simp⟩
    |0,_::_,_,_=>rw[ZcL];exact⟨hE,[],by simp,by simp⟩
    |w+1,(a,b)::r,ih,hs=>
     obtain⟨ha,hb⟩:=hs (a,b) (by simp);simp only at ha hb;have hr:∀p∈r,p.1.In N/\p.2.In N:=fun p hp=>hs p (by simp[hp]);have xa:=ZaY hE ha;have xb:=ZaY hE hb;have fa:=Zb0 hE ha;have fb:=Zb0 hE hb;rw[uniS];simp only;generalize slook E a=x at*;generalize slook E b=y at*;split
     ·rename_i hk;have na:=xa.n hk.1;have nb:=xb.n hk.2;split;·obtain⟨h1,F,h2,h3⟩:=ih w (by omega) r E hE hr;exact⟨h1,F,h2,by omega⟩
      ·rename_i hne;have hE':EnvOk N (E++[(max x.n y.n,tvar (min x.n y.n))]):=by
        refine hE.snoc (by omega) (by omega) ?_ (.var _ (by omega) (by omega)) (fun _=>by show min x.n y.n<max x.n y.n;omega);by_cases h:x.n<=y.n;·rw[Int.max_eq_right h];exact fb hk.2
        ·rw[Int.max_eq_left (by omega)];exact fa hk.1
       obtain⟨h1,F,h2,h3⟩:=ih w (by omega) r _ hE' hr;exact⟨h1,_,by rw[h2,List.append_assoc],by simp;omega⟩
     ·rename_i hk;split
      ·rename_i hk2;generalize inS E (if y.kind=0 then y.n else x.n) w [if y.kind=0 then x else y]=p;split;·exact⟨hE,[],by simp,by simp⟩
       ·have hE':EnvOk N (E++[(if y.kind=0 then y.n else x.n,if y.kind=0 then x else y)]):=by
         by_cases e:y.kind=0;·simp only[e,if_true];have nb:=xb.n e;exact hE.snoc nb.1 nb.2 (fb e) xa (fun h=>absurd ⟨h,e⟩ hk)
         ·simp only[e,if_false];have e':x.kind=0:=hk2.resolve_right e;have na:=xa.n e';exact hE.snoc na.1 na.2 (fa e') xb (fun h=>absurd h e)
        obtain⟨h1,F,h2,h3⟩:=ih (min w p.2.toNat) (by omega) r _ hE' hr;exact⟨h1,_,by rw[h2,List.append_assoc],by simp;omega⟩
      ·split;·exact⟨hE,[],by simp,by simp⟩
       ·obtain⟨h1,F,h2,h3⟩:=ih w (by omega) (x.args.zip y.args++r) E hE (fun p hp=>by
         rcases List.mem_append.1 hp with hp|hp;·have :=List.of_mem_zip hp;exact⟨xa.arg this.1,xb.arg this.2⟩
         ·exact hr p hp);exact⟨h1,F,h2,by omega⟩
def flL(E:Env)(w:Nat)(s:List Tm):Option (List Tm×Nat):=match w,s with|w,[]=>some ([],w)|0,_::_=>none|w+1,z::r=>let x:=slook E z;match flL E w x.args with|none=>none|some (ts,w1)=>match flL E (min w w1) r with|none=>none|some (rs,w2)=>some (.mk x.kind x.n x.s ts::rs,w2)termination_by w decreasing_by all_goals omega
theorem Zb8(E:Env)(w:Nat):flL E w []=some ([],w):=by cases w<;>simp[flL]
theorem ZcT(E:Env)(z:Tm)(r:List Tm):flL E 0 (z::r)=none:=by simp[flL]
theorem Zf5(E:Env):∀(w:Nat)(s ts:List Tm)(w':Nat),flL E w s=some (ts,w')->w'<=w/\ts.length=s.length:=by
 intro w;induction w using Nat.strongRecOn with
  |_ w ih=>
   intro s ts w' h;match w,s,ih,h with
    |w,[],_,h=>rw[Zb8]at h;simp at h;obtain⟨rfl,rfl⟩:=h;simp
    |0,_::_,_,h=>rw[ZcT]at h;cases h
    |w+1,a::r,ih,h=>
     rw[flL]at h;try simp only at h
     split at h;·simp at h
     ·rename_i _ ts1 w1 h1;have k1:=ih w (by omega) _ _ _ h1;rw[Nat.min_eq_right k1.1]at h;split at h;·simp at h
      ·rename_i _ rs w2 h2;have k2:=ih w1 (by omega) _ _ _ h2;simp only[Option.some.injEq,Prod.mk.injEq]at h;obtain⟨rfl,rfl⟩:=h;simp only[List.length_cons];omega
structure Ev where
  kind : Int
  terms : List Tm
structure Gl where
  t : Tm
  bar : Nat
structure Chc where
  g : List Gl
  at_ : Nat
  trail : Nat
structure Sv where
  env : Env
  choices : List Chc
  vars : Int
  fuel : Nat
  out : List Ev
inductive Res where
  | next (g : List Gl)
  | no
  | off
def Sv.put(s:Sv)(kind:Int):Sv:={s with out:=s.out++[⟨kind,[]⟩]}
def ZaH(t:Tm)(d:Int):Tm:=t.ren fun n=>low n+low d
def ZbK(a b:Tm):Prop:=a.s=b.s/\a.args.length=b.args.length
noncomputable instance(a b:Tm):Decidable (ZbK a b):=by unfold ZbK;infer_instance
noncomputable def ZbU(P:List Cl)(t:Tm):Nat->Nat->Nat|0,k=>k|n+1,k=>match P[k]? with|none=>k|some c=>if ZbK c.head t then k else ZbU P t n (k+1)
def ZdK(b:Nat)(d:Int)(l:List Tm)(rest:List Gl):List Gl:=(l.map fun t=>(⟨ZaH t d,b⟩:Gl))++rest
noncomputable def Zbb(P:List Cl)(g:Gl)(rest:List Gl):Nat->Nat->Sv->Res×Sv|0,_,s=>(.no,s)|n+1,k,s=>match P[k]? with|none=>(.no,s)|some c=>if ¬ZbK c.head g.t then Zbb P g rest n (k+1) s else let u:=uniS 400 [(ZaH c.head s.vars,g.t)] s.env;if u.work<0 then(.off,{s with env:=u.env}.put 4)else if u.ok=false then Zbb P g rest n (k+1) s else(.next (ZdK s.choices.length s.vars c.body rest),{s with env:=u.env,choices:=if ZbU P g.t (P.length - (k+1)) (k+1)<P.length then⟨g::rest,ZbU P g.t (P.length - (k+1)) (k+1),s.env.length⟩::s.choices else s.choices,vars:=s.vars+c.vars})
noncomputable def Zbj(P:List Cl):List Chc->Sv->Res×Sv|[],s=>(.off,{s with choices:=[]}.put 2)|c::cs,s=>match c.g with|[]=>(.off,s)|g::rest=>match Zbb P g rest (P.length - c.at_) c.at_ {s with choices:=cs,env:=s.env.take c.trail}with|(.no,s')=>Zbj P cs s'|r=>r
noncomputable def Zbh(g:Gl)(s:Sv):Option Bool×Sv:=if g.t.s.toList=[33]then(some true,{s with choices:=s.choices.drop (s.choices.length - g.bar)})else if g.t.s.toList=[116,114,117,101]then(some true,s)else if g.t.s.toList=[102,97,105,108]then(some false,s)else if g.t.s.toList=[101,113]then let u:=uniS 400 [((g.t.args[0]?).getD default,(g.t.args[1]?).getD default)] s.env;if u.work<0 then(none,{s with env:=u.env}.put 4)else(some u.ok,{s with env:=u.env})else let a:=slook s.env ((g.t.args[0]?).getD default);let b:=slook s.env ((g.t.args[1]?).getD default);if a.kind≠2\/b.kind≠2 then(none,s.put 5)else if g.t.s.toList=[108,101,115,115]then(some (decide (a.n<b.n)),s)else if a.n+b.n>1099511627776\/a.n+b.n< -1099511627776 then(none,s.put 5)else let u:=uniS 400 [((g.t.args[2]?).getD default,.mk 2 (a.n+b.n) ByteArray.empty [])] s.env;(some u.ok,{s with env:=u.env})
noncomputable def ZbC(P:List Cl)(g:Gl)(rest:List Gl)(s:Sv):Res×Sv:=if s.fuel=0 then(.off,s.put 3)else let s:={s with fuel:=s.fuel - 1};haveI :=Classical.propDecidable g.t.Known;if g.t.Known then match Zbh g s with|(none,s')=>(.off,s')|(some true,s')=>(.next rest,s')|(some false,s')=>Zbj P s'.choices s' else if ∀c∈P,¬ZbK c.head g.t then(.off,s.put 5)else match Zbb P g rest P.length 0 s with|(.no,s')=>Zbj P s'.choices s'|r=>r
def ZaV(q:Nat)(s:Sv):Bool×Sv:=match flL s.env 200 ((List.range q).map fun i=>tvar (i:Nat))with|none=>(false,s.put 4)|some (l,_)=>let s:={s with out:=s.out++[⟨1,tidy l⟩]};if s.out.length≥12 then(false,s.put 6)else(true,s)
noncomputable def Ze3(P:List Cl)(q:Nat):Nat->List Gl->Sv->Sv
 |0,_,s=>s
 |n+1,[],s=>match ZaV q s with|(false,s')=>s'|(true,s')=>match Zbj P s'.choices s' with|(.next g,s'')=>Ze3 P q n g s''|(_,s'')=>s''
 |n+1,g::rest,s=>match ZbC P g rest s with|(.next g',s')=>Ze3 P q n g' s'|(_,s')=>s'
noncomputable def Zca(P:List Cl)(Q:List Tm)(vars fuel:Int):List Ev×Int:=haveI :=Classical.propDecidable (GoodP P/\ZbZ Q vars);if ¬(GoodP P/\ZbZ Q vars)then([],1)else if fuel<0\/fuel>150 then([],2)else((Ze3 P vars.toNat (fuel.toNat+14) (Q.map fun t=>⟨t,0⟩) ⟨[],[],vars,fuel.toNat,[]⟩).out,0)
def pot(fuel:Nat)(cs:List Chc):Nat:=25*fuel+(cs.map fun c=>24 - c.at_).sum
def GlsOk(N:Int)(gl:List Gl):Prop:=∀g∈gl,g.t.In N/\g.bar<=150
theorem GlsOk.mono{N N':Int}{gl:List Gl}(h:GlsOk N gl)(hN:N<=N'):GlsOk N' gl:=fun g hg=>⟨(h g hg).1.mono hN,(h g hg).2⟩
structure ChcOk (P : List Cl) (N : Int) (L : Nat) (c : Chc) : Prop where
  ne : c.g ≠ []
  gls : GlsOk N c.g
  one : 1 ≤ c.at_
  lt : c.at_ < P.length
  trail : c.trail ≤ L
structure SvOk (P : List Cl) (s : Sv) : Prop where
  prog : GoodP P
  vars0 : 0 ≤ s.vars
  env : EnvOk s.vars s.env
  chc : ∀ c ∈ s.choices, ChcOk P s.vars s.env.length c
  trails : s.choices.Pairwise fun c d => d.trail ≤ c.trail
  potV : s.vars + 8 * (pot s.fuel s.choices : Nat) ≤ 30008
  potE : s.env.length + 400 * pot s.fuel s.choices ≤ 1500000
  few : s.choices.length + s.fuel ≤ 150
theorem ChcOk.mono{P:List Cl}{N N':Int}{L L':Nat}{c:Chc}(h:ChcOk P N L c)(hN:N<=N')(hL:L<=L'):ChcOk P N' L' c:=⟨h.ne,h.gls.mono hN,h.one,h.lt,Nat.le_trans h.trail hL⟩
theorem Zf6{n:Int}(h0:0<=n)(h1:n<1099511627776):low n=n:=by unfold low;omega
theorem ZcM{t:Tm}{v d:Int}(h:t.Good v)(hv:v<=8)(hd0:0<=d)(hd:d<1000000):(ZaH t d).In (d+v):=by unfold ZaH;induction h with|var n h0 h1=>simp only[Tm.ren,if_true,Tm.renL,Zf6 h0 (show n<1099511627776 by omega),Zf6 hd0 (show d<1099511627776 by omega)];exact .var _ (by omega) (by omega)|atom s h=>exact .atom s h|int n h0 h1=>exact .int n h0 h1|comp s l h h1 h2 h3 _ ih=>simp only[Tm.ren,Tm.renL_map];refine .comp s _ h h1 (by simpa using h2) (by simpa using h3) fun t ht=>?_;obtain⟨x,hx,rfl⟩:=List.mem_map.1 ht;exact ih x hx
theorem GoodP.at{P:List Cl}(h:GoodP P){k:Nat}{c:Cl}(hc:P[k]?=some c):c.Good:=h.2 c (List.mem_of_getElem? hc)
theorem ZiJ(P:List Cl)(t:Tm):∀(n k:Nat),k<=ZbU P t n k/\ZbU P t n k<=k+n
 |0,k=>by simp[ZbU]
 |n+1,k=>by
  unfold ZbU;have :=ZiJ P t n (k+1);split;·omega
  ·split<;>omega
section
variable {P : List Cl} {g : Gl} {rest : List Gl}
theorem ZcU:∀(n k:Nat)(s s':Sv),Zbb P g rest n k s=(.no,s')->s'=s
 |0,k,s,s',h=>by simp[Zbb]at h;exact h.symm
 |n+1,k,s,s',h=>by
  rw[Zbb]at h;have ih:=ZcU n (k+1) s s';split at h;·simpa using h.symm
  ·split at h;·exact ih h
   ·simp only at h;split at h;·simp at h
    ·split at h;·exact ih h
     ·simp at h
theorem ZeB:∀(n k:Nat)(s s':Sv)(gl:List Gl),n=P.length - k->GoodP P->0<=s.vars->s.vars<999000->EnvOk s.vars s.env->(∀c∈s.choices,ChcOk P s.vars s.env.length c)->(s.choices.Pairwise fun c d=>d.trail<=c.trail)->GlsOk s.vars (g::rest)->s.choices.length<150->Zbb P g rest n k s=(.next gl,s')->GlsOk s'.vars gl/\0<=s'.vars/\EnvOk s'.vars s'.env/\(∀c∈s'.choices,ChcOk P s'.vars s'.env.length c)/\(s'.choices.Pairwise fun c d=>d.trail<=c.trail)/\s'.fuel=s.fuel/\s'.out=s.out/\s.vars<=s'.vars/\s'.vars<=s.vars+8/\s'.env.length<=s.env.length+400/\(s'.choices=s.choices\/∃c,s'.choices=c::s.choices/\k<c.at_)/\k<P.length
 |0,k,s,s',gl,hn,hP,hv0,hv1,hE,hC,hT,hG,hl,h=>by simp[Zbb]at h
 |n+1,k,s,s',gl,hn,hP,hv0,hv1,hE,hC,hT,hG,hl,h=>by
  rw[Zbb]at h;have ih:=ZeB n (k+1) s s' gl (by omega) hP hv0 hv1 hE hC hT hG hl;have ih':Zbb P g rest n (k+1) s=(.next gl,s')->_:=fun e=>by have :=ih e;obtain⟨a1,a2,a3,a4,a5,a6,a7,a8,a9,a10,a11,a12⟩:=this;exact(⟨a1,a2,a3,a4,a5,a6,a7,a8,a9,a10,a11.imp id fun⟨c,h1,h2⟩=>⟨c,h1,by omega⟩,by omega⟩:GlsOk s'.vars gl/\0<=s'.vars/\EnvOk s'.vars s'.env/\(∀c∈s'.choices,ChcOk P s'.vars s'.env.length c)/\(s'.choices.Pairwise fun c d=>d.trail<=c.trail)/\s'.fuel=s.fuel/\s'.out=s.out/\s.vars<=s'.vars/\s'.vars<=s.vars+8/\s'.env.length<=s.env.length+400/\(s'.choices=s.choices\/∃c,s'.choices=c::s.choices/\k<c.at_)/\k<P.length)
  split at h;·simp at h
  ·rename_i c hc;have hcg:=hP.at hc;obtain⟨⟨hcv0,hcv8, -,hbody⟩, -,⟨hhead, -⟩, -⟩:=hcg;have hg0:=hG g (by simp);split at h;·exact ih' h
   ·simp only at h;split at h;·simp at h
    ·rename_i hw;split at h;·exact ih' h
     ·obtain⟨hE',F,hF,hFl⟩:=Zcd (N:=s.vars+c.vars) 400 [(ZaH c.head s.vars,g.t)] s.env (hE.mono (by omega)) (by intro p hp;simp only[List.mem_singleton]at hp;subst hp;exact⟨ZcM hhead hcv8 hv0 (by omega),hg0.1.mono (by omega)⟩);simp only[Prod.mk.injEq,Res.next.injEq]at h;obtain⟨rfl,rfl⟩:=h;have hEl:(uniS 400 [(ZaH c.head s.vars,g.t)] s.env).env.length=s.env.length+F.length:=by rw[hF,List.length_append]
      have hb:=ZiJ P g.t (P.length - (k+1)) (k+1);have hkP:k<P.length:=(List.getElem?_eq_some_iff.1 hc).1;have hC':∀x∈s.choices,ChcOk P (s.vars+c.vars) (uniS 400 [(ZaH c.head s.vars,g.t)] s.env).env.length x:=fun x hx=>(hC x hx).mono (by omega) (by omega);refine⟨?_,by simp only;omega,hE',?_,?_,rfl,rfl,by simp only;omega,by simp only;omega,by simp only;omega,?_,hkP⟩
      ·intro x hx;simp only[ZdK,List.mem_append,List.mem_map]at hx;rcases hx with⟨t,ht,rfl⟩|hx;·exact⟨ZcM (hbody t ht).2.1 hcv8 hv0 (by omega),by simp only;omega⟩
       ·have :=hG x (by simp[hx]);exact⟨this.1.mono (by simp only;omega),this.2⟩
      ·simp only;split
       ·intro x hx;rcases List.mem_cons.1 hx with rfl|hx;·exact⟨by simp,hG.mono (by omega),by simp only;omega,by assumption,by simp only;omega⟩
        ·exact hC' x hx
       ·exact hC'
      ·simp only;split;·exact List.pairwise_cons.2 ⟨fun d hd=>(hC d hd).trail,hT⟩
       ·exact hT
      ·simp only;split;·exact .inr ⟨_,rfl,by simp only;omega⟩
       ·exact .inl rfl
end
theorem ZcV(f:Nat)(c:Chc)(cs:List Chc):pot f (c::cs)=pot f cs+(24 - c.at_):=by simp only[pot,List.map_cons,List.sum_cons];omega
theorem Ze9(f:Nat)(cs:List Chc)(h:f≠0):pot f cs=pot (f - 1) cs+25:=by unfold pot;omega
theorem Zgx(f:Nat):∀(cs:List Chc)(k:Nat),pot f (cs.drop k)<=pot f cs|[],k=>by simp|c::cs,0=>by simp|c::cs,k+1=>by rw[List.drop_succ_cons,ZcV];have :=Zgx f cs k;omega
section
variable {P : List Cl}
theorem Zcj:∀(cs:List Chc)(s s':Sv)(gl:List Gl),SvOk P {s with choices:=cs}->Zbj P cs s=(.next gl,s')->SvOk P s'/\GlsOk s'.vars gl/\s'.fuel=s.fuel/\s'.out=s.out/\s.vars<=s'.vars
 |[],s,s',gl,h,e=>by simp[Zbj]at e
 |c::cs,s,s',gl,h,e=>by
  have hc:=h.chc c (by simp);obtain⟨h1,h2,h3,h4,h5,h6,h7,h8⟩:=h;simp only at h1 h2 h3 h4 h5 h6 h7 h8;rw[ZcV]at h6 h7;have hT:=List.pairwise_cons.1 h5;have hEl:(s.env.take c.trail).length=c.trail:=by rw[List.length_take];have :=hc.trail;simp only at this;omega
  have hC:∀x∈cs,ChcOk P s.vars (s.env.take c.trail).length x:=fun x hx=>by have k:=h4 x (by simp[hx]);exact⟨k.ne,k.gls,k.one,k.lt,by rw[hEl];exact hT.1 x hx⟩
  have hlt:=hc.lt;have htr:=hc.trail;simp only at htr;have hP24:=h1.1;rw[Zbj]at e;split at e;·exact absurd (by assumption) hc.ne
  ·rename_i g rest hg;split at e;·rename_i s2 he;have :=ZcU _ _ _ _ he;subst this;have :=Zcj cs {s with choices:=cs,env:=s.env.take c.trail} s' gl ⟨h1,h2,h3.take _,hC,hT.2,by simp only;omega,by simp only[hEl];omega,by simp only[List.length_cons]at h8 ⊢;omega⟩ e;simpa using this
   ·rename_i hne;obtain⟨a1,a2,a3,a4,a5,a6,a7,a8,a9,a10,a11,a12⟩:=ZeB (P.length - c.at_) c.at_ {s with choices:=cs,env:=s.env.take c.trail} s' gl rfl h1 h2 (by simp only;omega) (h3.take _) hC hT.2 (by rw[<-hg];exact hc.gls) (by simp only[List.length_cons]at h8 ⊢;omega) e;simp only[hEl]at a6 a7 a8 a9 a10 a11;refine⟨⟨h1,a2,a3,a4,a5,?_,?_,?_⟩,a1,a6,a7,a8⟩
    ·rw[a6];rcases a11 with e2|⟨d,e2,hd⟩;·rw[e2];omega
     ·rw[e2,ZcV];omega
    ·rw[a6];rcases a11 with e2|⟨d,e2,hd⟩;·rw[e2];omega
     ·rw[e2,ZcV];omega
    ·rw[a6];simp only[List.length_cons]at h8;rcases a11 with e2|⟨d,e2,hd⟩;·rw[e2];omega
     ·rw[e2,List.length_cons];omega
theorem Zkn{N:Int}{t:Tm}(h:t.In N)(hN:0<=N)(i:Nat)(hi:i<t.args.length):((t.args[i]?).getD default).In N:=by rw[List.getElem?_eq_getElem hi];exact h.arg (List.getElem_mem hi)
theorem Zdc{g:Gl}{s s':Sv}{r:Option Bool}(h:SvOk P s)(hg:g.t.In s.vars)(hk:g.t.Known)(hpe:s.env.length+400+400*pot s.fuel s.choices<=1500000)(e:Zbh g s=(r,s'))(hr:r≠none):SvOk P s'/\s'.fuel=s.fuel/\s'.out=s.out/\s'.vars=s.vars:=by
 obtain⟨h1,h2,h3,h4,h5,h6,h7,h8⟩:=h;have hbind:∀(a b:Tm),a.In s.vars->b.In s.vars->SvOk P {s with env:=(uniS 400 [(a,b)] s.env).env}:=fun a b ha hb=>by
  obtain⟨hE',F,hF,hFl⟩:=Zcd (N:=s.vars) 400 [(a,b)] s.env h3 (by intro p hp;simp only[List.mem_singleton]at hp;subst hp;exact⟨ha,hb⟩);have hEl:(uniS 400 [(a,b)] s.env).env.length=s.env.length+F.length:=by rw[hF,List.length_append]
  exact⟨h1,h2,hE',fun c hc=>(h4 c hc).mono (Int.le_refl _) (by simp only;omega),h5,h6,by simp only;omega,h8⟩
 unfold Zbh at e;have hlen:∀{x},g.t.s.toList=x->(x=[101,113]\/x=[108,101,115,115]->g.t.args.length=2):=by
  rintro x rfl hx;rcases hk with⟨_,hk⟩|⟨k0,hk⟩|⟨_,hk⟩;·rcases hx with hx|hx<;>rw[hx]at hk<;>simp at hk
  ·exact k0
  ·rcases hx with hx|hx<;>rw[hx]at hk<;>simp at hk
 split at e
 ·simp only[Prod.mk.injEq]at e;obtain⟨rfl,rfl⟩:=e;refine⟨⟨h1,h2,h3,fun c hc=>h4 c (List.mem_of_mem_drop hc),h5.sublist (List.drop_sublist _ _),?_,?_,?_⟩,rfl,rfl,rfl⟩;·have :=Zgx s.fuel s.choices (s.choices.length - g.bar);simp only;omega
  ·have :=Zgx s.fuel s.choices (s.choices.length - g.bar);simp only;omega
  ·simp only[List.length_drop];omega
 ·split at e;·simp only[Prod.mk.injEq]at e;obtain⟨rfl,rfl⟩:=e;exact⟨⟨h1,h2,h3,h4,h5,h6,h7,h8⟩,rfl,rfl,rfl⟩
  ·split at e;·simp only[Prod.mk.injEq]at e;obtain⟨rfl,rfl⟩:=e;exact⟨⟨h1,h2,h3,h4,h5,h6,h7,h8⟩,rfl,rfl,rfl⟩
   ·split at e
    ·rename_i hs;have h2l:=hlen hs (.inl rfl);simp only at e;split at e;·simp only[Prod.mk.injEq]at e;exact absurd e.1.symm hr
     ·simp only[Prod.mk.injEq]at e;obtain⟨rfl,rfl⟩:=e;exact⟨hbind _ _ (Zkn hg h2 0 (by omega)) (Zkn hg h2 1 (by omega)),rfl,rfl,rfl⟩
    ·rename_i n1 n2 n3 n4;simp only at e;split at e;·simp only[Prod.mk.injEq]at e;exact absurd e.1.symm hr
     ·split at e;·simp only[Prod.mk.injEq]at e;obtain⟨rfl,rfl⟩:=e;exact⟨⟨h1,h2,h3,h4,h5,h6,h7,h8⟩,rfl,rfl,rfl⟩
      ·rename_i n5;have h3l:g.t.args.length=3:=by
        rcases hk with⟨_,hk⟩|⟨_,hk⟩|⟨k0,_⟩
        ·rcases hk with hk|hk|hk;·exact absurd hk n1
         ·exact absurd hk n2
         ·exact absurd hk n3
        ·rcases hk with hk|hk;·exact absurd hk n4
         ·exact absurd hk n5
        ·exact k0
       split at e;·simp only[Prod.mk.injEq]at e;exact absurd e.1.symm hr
       ·simp only[Prod.mk.injEq]at e;obtain⟨rfl,rfl⟩:=e;exact⟨hbind _ _ (Zkn hg h2 2 (by omega)) (.int _ (by omega) (by omega)),rfl,rfl,rfl⟩
theorem ZeC{g:Gl}{rest gl:List Gl}{s s':Sv}(h:SvOk P s)(hg:GlsOk s.vars (g::rest))(e:ZbC P g rest s=(.next gl,s')):SvOk P s'/\GlsOk s'.vars gl/\s'.fuel+1=s.fuel/\s'.out=s.out/\s.vars<=s'.vars:=by
 unfold ZbC at e;have hrest:GlsOk s.vars rest:=fun x hx=>hg x (by simp[hx]);split at e;·simp at e
 ·rename_i hf;have hp:=Ze9 s.fuel s.choices hf;obtain⟨h1,h2,h3,h4,h5,h6,h7,h8⟩:=h;rw[hp]at h6 h7;have hs1:SvOk P {s with fuel:=s.fuel - 1}:=⟨h1,h2,h3,h4,h5,by simp only;omega,by simp only;omega,by simp only;omega⟩;simp only at e;split at e
  ·rename_i hk;split at e;·simp at e
   ·rename_i s2 he;simp only[Prod.mk.injEq,Res.next.injEq]at e;obtain⟨rfl,rfl⟩:=e;obtain⟨a1,a2,a3,a4⟩:=Zdc hs1 (hg g (by simp)).1 hk (by simp only;omega) he (by simp);exact⟨a1,by rw[a4];exact hrest,by rw[a2];simp only;omega,a3,by rw[a4];exact Int.le_refl _⟩
   ·rename_i s2 he;obtain⟨a1,a2,a3,a4⟩:=Zdc hs1 (hg g (by simp)).1 hk (by simp only;omega) he (by simp);obtain⟨b1,b2,b3,b4,b5⟩:=Zcj s2.choices s2 s' gl a1 e;exact⟨b1,b2,by rw[b3,a2];simp only;omega,b4.trans a3,by rw[a4]at b5;exact b5⟩
  ·split at e;·simp at e
   ·split at e;·rename_i s2 he;have :=ZcU _ _ _ _ he;subst this;obtain⟨b1,b2,b3,b4,b5⟩:=Zcj _ _ s' gl hs1 e;exact⟨b1,b2,by rw[b3];simp only;omega,b4,b5⟩
    ·obtain⟨a1,a2,a3,a4,a5,a6,a7,a8,a9,a10,a11,a12⟩:=ZeB P.length 0 {s with fuel:=s.fuel - 1} s' gl (by omega) h1 h2 (by simp only;omega) h3 h4 h5 hg (by simp only;omega) e;simp only at a6 a7 a8 a9 a10 a11;refine⟨⟨h1,a2,a3,a4,a5,?_,?_,?_⟩,a1,by omega,a7,a8⟩
     ·rw[a6];rcases a11 with e2|⟨d,e2,hd⟩;·rw[e2];omega
      ·rw[e2,ZcV];omega
     ·rw[a6];rcases a11 with e2|⟨d,e2,hd⟩;·rw[e2];omega
      ·rw[e2,ZcV];omega
     ·rw[a6];rcases a11 with e2|⟨d,e2,hd⟩;·rw[e2];omega
      ·rw[e2,List.length_cons];omega
end
theorem Zly:∀(w:Nat)(s:List (Tm×Tm))(E:Env),(uniS w s E).ok=true->(uniS w s E).env.length+(uniS w s E).work.toNat<=E.length+w:=by
 intro w;induction w using Nat.strongRecOn with
  |_ w ih=>
   intro s E;match w,s,ih with
    |w,[],_=>rw[Zb3];simp
    |0,_::_,_=>rw[ZcL];simp
    |w+1,(a,b)::r,ih=>
     rw[uniS];simp only;generalize slook E a=x;generalize slook E b=y;split
     ·split;·intro h;have :=ih w (by omega) r E h;omega
      ·intro h;have :=ih w (by omega) r _ h;simp only[List.length_append,List.length_singleton]at this;omega
     ·split
      ·generalize inS E (if y.kind=0 then y.n else x.n) w [if y.kind=0 then x else y]=p;split;·simp
       ·intro h;have :=ih (min w p.2.toNat) (by omega) r _ h;simp only[List.length_append,List.length_singleton]at this;omega
      ·split;·simp
       ·intro h;have :=ih w (by omega) (x.args.zip y.args++r) E h;omega
theorem ZhV(E:Env):∀(w:Nat)(s r:List Tm),flL E w (s++r)=match flL E w s with|none=>none|some (ts,w1)=>match flL E w1 r with|none=>none|some (rs,w2)=>some (ts++rs,w2):=by intro w;induction w using Nat.strongRecOn with|_ w ih=>intro s r;match w,s,ih with
 |w,[],_=>rw[Zb8,List.nil_append];simp only[List.nil_append];cases flL E w r with|none=>rfl|some p=>rfl
 |0,a::s,_=>rw[List.cons_append,ZcT,ZcT]
 |w+1,a::s,ih=>rw[List.cons_append,flL.eq_def E (w+1) (a::(s++r)),flL.eq_def E (w+1) (a::s)];simp only;cases h1:flL E w (slook E a).args with|none=>rfl|some p=>obtain⟨ts1,w1⟩:=p;simp only;rw[ih (min w w1) (by omega) s r];cases h2:flL E (min w w1) s with|none=>rfl|some p=>obtain⟨ts2,w2⟩:=p;simp only;cases h3:flL E w2 r with|none=>rfl|some p=>rfl
theorem ZmO(E:Env)(k:Nat)(z:Tm):flL E (k+1) [z]=match flL E k (slook E z).args with|none=>none|some (ts,w1)=>some ([.mk (slook E z).kind (slook E z).n (slook E z).s ts],w1):=by rw[flL];cases h1:flL E k (slook E z).args with|none=>rfl|some p=>obtain⟨ts1,w1⟩:=p;have :=(Zf5 E k _ _ _ h1).1;simp only[Zb8,Nat.min_eq_right this]
theorem ZiK(E:Env)(w:Nat)(s r:List Tm)(h:flL E w s=none):flL E w (s++r)=none:=by rw[ZhV,h]
theorem ZiL(E:Env)(k:Nat)(l:List Tm)(j:Nat)(hj:j<l.length)(ts:List Tm)(m:Nat)(h:flL E k (l.take j)=some (ts,m)):flL E k (l.take (j+1))=match flL E m [l[j]]with|none=>none|some (rs,w2)=>some (ts++rs,w2):=by rw[List.take_succ_eq_append_getElem hj,ZhV,h]
end Go.Proofs.Ytlpmfkpefoegeac
