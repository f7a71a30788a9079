import Derived.Test.YtlpmfkpefoegeabDoorQNodes
import Derived.Test.YtlpmfkpefoegeabDoorQMap
import Derived.Test.YtlpmfkpefoegeabDoorPRead2
import Derived.Test.YtlpmfkpefoegeabDoorPNum
import Derived.Lib.ItoaLen
namespace Go.Proofs.YtlpmfkpefoegeabDoor
set_option maxRecDepth 100000
set_option maxHeartbeats 16000000
set_option linter.all false
open Go.RowKit
def Zaq(st:List Int)(n:Int):Int×List Int:=if n∈st then((st.idxOf n:Nat),st)else((st.length:Nat),st++[n])
theorem Zj2(st:List Int)(n:Int):(Zaq st n).2.length<=st.length+1:=by unfold Zaq;split<;>simp
theorem ZlK{k:Nat}(h:k<=4194304):I64 (k:Int):=by unfold I64;omega
end Go.Proofs.YtlpmfkpefoegeabDoor
namespace Go.Proofs.YtlpmfkpefoegeabDoor
set_option maxRecDepth 100000
set_option maxHeartbeats 16000000
set_option linter.all false
def tidy(l:List Tm):List Tm:=(Tm.renSL Zaq [] l).1
namespace Tm
inductive Vars (p : Int → Prop) : Tm → Prop where
  | mk (k n : Int) (s : ByteArray) (l : List Tm) (h : k = 0 → p n) (hl : ∀ t ∈ l, Vars p t) : Vars p (mk k n s l)
end Tm
section
variable {p : Int → Prop} {g : Int → Int}
theorem Zgh(hg:∀a b,p a->p b->g a=g b->a=b){st:List Int}(hst:∀x∈st,p x){n:Int}(hn:p n):g n∈st.map g↔n∈st:=by
 constructor;·intro h;obtain⟨x,hx,he⟩:=List.mem_map.1 h;rw[hg n x hn (hst x hx) he.symm];exact hx
 ·exact fun h=>List.mem_map.2 ⟨n,h,rfl⟩
theorem ZeI(hg:∀a b,p a->p b->g a=g b->a=b){n:Int}(hn:p n):∀{st:List Int},(∀x∈st,p x)->(st.map g).idxOf (g n)=st.idxOf n
 |[],_=>rfl
 |x::st,hst=>by
  have ih:=ZeI hg hn (st:=st) (fun y hy=>hst y (List.mem_cons_of_mem _ hy));by_cases h:x=n;·subst h;simp
  ·have h1:¬g x=g n:=fun e=>h (hg x n (hst x (List.mem_cons_self ..)) hn e);simp only[List.map_cons,List.idxOf_cons,ih];have h2:(x==n)=false:=by simpa using h
   have h3:(g x==g n)=false:=by simpa using h1
   rw[h2,h3]
theorem ZlL(hg:∀a b,p a->p b->g a=g b->a=b){st:List Int}(hst:∀x∈st,p x){n:Int}(hn:p n):Zaq (st.map g) (g n)=((Zaq st n).1,(Zaq st n).2.map g)/\∀x∈(Zaq st n).2,p x:=by
 by_cases h:n∈st;·have h1:=(Zgh hg hst hn).2 h;simp only[Zaq,h,if_true,h1,ZeI hg hn hst];exact⟨trivial,hst⟩
 ·have h1:¬g n∈st.map g:=fun e=>h ((Zgh hg hst hn).1 e);simp only[Zaq,h,if_false,h1,List.length_map,List.map_append,List.map_cons,List.map_nil];refine⟨trivial,fun x hx=>?_⟩;rcases List.mem_append.1 hx with hx|hx;·exact hst x hx
  ·simp only[List.mem_singleton]at hx;subst hx;exact hn
theorem Znh(hg:∀a b,p a->p b->g a=g b->a=b):∀(t:Tm)(st:List Int),t.Vars p->(∀x∈st,p x)->(t.ren g).renS Zaq (st.map g)=((t.renS Zaq st).1,(t.renS Zaq st).2.map g)/\∀x∈(t.renS Zaq st).2,p x:=by
 intro t;induction t using Tm.induct with
  |h k n s l ih=>
   intro st hv hst;obtain⟨_,_,_,_,hp,hl⟩:=hv;have hn:Tm.num Zaq (st.map g) k (if k=0 then g n else n)=((Tm.num Zaq st k n).1,(Tm.num Zaq st k n).2.map g)/\∀x∈(Tm.num Zaq st k n).2,p x:=by
    unfold Tm.num;by_cases e:k=0;·simp only[e,if_true];exact ZlL hg hst (hp e)
    ·simp only[e,if_false];exact⟨trivial,hst⟩
   have hL:∀(r:List Tm),(∀t∈r,t∈l)->∀st:List Int,(∀x∈st,p x)->Tm.renSL Zaq (st.map g) (Tm.renL g r)=((Tm.renSL Zaq st r).1,(Tm.renSL Zaq st r).2.map g)/\∀x∈(Tm.renSL Zaq st r).2,p x:=by intro r;induction r with|nil=>intro _ st hst;exact⟨rfl,hst⟩|cons x r ihr=>intro hm st hst;obtain⟨h1,h2⟩:=ih x (hm x (List.mem_cons_self ..)) st (hl x (hm x (List.mem_cons_self ..))) hst;obtain⟨h3,h4⟩:=ihr (fun t ht=>hm t (List.mem_cons_of_mem _ ht)) (x.renS Zaq st).2 h2;simp only[Tm.renL,Tm.renSL,h1,h3];exact⟨trivial,h4⟩
   obtain⟨h1,h2⟩:=hn;obtain⟨h3,h4⟩:=hL l (fun _ h=>h) _ h2;simp only[Tm.ren,Tm.renS,h1,h3];exact⟨trivial,h4⟩
theorem ZlM(hg:∀a b,p a->p b->g a=g b->a=b)(l:List Tm):∀(st:List Int),(∀t∈l,t.Vars p)->(∀x∈st,p x)->Tm.renSL Zaq (st.map g) (l.map (Tm.ren g))=((Tm.renSL Zaq st l).1,(Tm.renSL Zaq st l).2.map g):=by induction l with|nil=>intro st _ _;rfl|cons x r ihr=>intro st hv hst;obtain⟨h1,h2⟩:=Znh hg x st (hv x (List.mem_cons_self ..)) hst;simp only[List.map_cons,Tm.renSL,h1,ihr _ (fun t ht=>hv t (List.mem_cons_of_mem _ ht)) h2]
theorem Zni(hg:∀a b,p a->p b->g a=g b->a=b)(l:List Tm)(hv:∀t∈l,t.Vars p):tidy (l.map (Tm.ren g))=tidy l:=by unfold tidy;rw[show([]:List Int)=([]:List Int).map g from rfl,ZlM hg l [] hv (fun x hx=>by cases hx)];rfl
end
abbrev Env:=List (Int×Tm)
def eget(E:Env)(n:Int):Option Tm:=(E.find? fun p=>p.1==n).map (·.2)
theorem eget_none{E:Env}{n:Int}:eget E n=none↔∀p∈E,p.1≠n:=by unfold eget;rw[Option.map_eq_none_iff,List.find?_eq_none];simp
theorem ZhB{E:Env}{n:Int}{t:Tm}(h:eget E n=some t):(n,t)∈E:=by unfold eget at h;rw[Option.map_eq_some_iff]at h;obtain⟨p,h1,rfl⟩:=h;have h2:=List.find?_some h1;have h3:=List.mem_of_find?_eq_some h1;simp only[beq_iff_eq]at h2;rw[<-h2];exact h3
theorem Zdy{E:Env}{v n:Int}{t:Tm}:eget (E++[(v,t)]) n=match eget E n with|some x=>some x|none=>if v=n then some t else none:=by unfold eget;rw[List.find?_append];cases h:E.find? (fun p=>p.1==n)with|some p=>simp|none=>by_cases e:v=n<;>simp[e]
def Zbs(E:Env):Nat->Tm->Tm|0,t=>t|k+1,t=>if t.kind=0 then(match eget E t.n with|none=>t|some x=>Zbs E k x)else t
def slook(E:Env)(t:Tm):Tm:=Zbs E (t.n.toNat+1) t
abbrev Tm.In(N:Int)(t:Tm):Prop:=t.Good N
theorem Tm.In.n{N:Int}{t:Tm}(h:t.In N)(hk:t.kind=0):0<=t.n/\t.n<N:=by cases h with|var n h0 h1=>exact⟨h0,h1⟩|atom=>cases hk|int=>cases hk|comp=>cases hk
theorem Tm.In.arg{N:Int}{t:Tm}(h:t.In N){x:Tm}(hx:x∈t.args):x.In N:=by cases h with|var=>cases hx|atom=>cases hx|int=>cases hx|comp _ _ _ _ _ _ h4=>exact h4 x hx
theorem Tm.In.mono{N N':Int}{t:Tm}(h:t.In N)(hN:N<=N'):t.In N':=by induction h with|var n h0 h1=>exact .var n h0 (by omega)|atom s h=>exact .atom s h|int n h0 h1=>exact .int n h0 h1|comp s l h h1 h2 h3 _ ih=>exact .comp s l h h1 h2 h3 ih
structure EnvOk (N : Int) (E : Env) : Prop where
  key : ∀ p ∈ E, 0 ≤ p.1 ∧ p.1 < N
  tm : ∀ p ∈ E, p.2.In N
  less : ∀ p ∈ E, p.2.kind = 0 → p.2.n < p.1
  nodup : (E.map (·.1)).Nodup
theorem EnvOk.nil(N:Int):EnvOk N []:=⟨by simp,by simp,by simp,by simp⟩
theorem EnvOk.mono{N N':Int}{E:Env}(h:EnvOk N E)(hN:N<=N'):EnvOk N' E:=⟨fun p hp=>⟨(h.key p hp).1,by have :=(h.key p hp).2;omega⟩,fun p hp=>(h.tm p hp).mono hN,h.less,h.nodup⟩
theorem EnvOk.take{N:Int}{E:Env}(h:EnvOk N E)(k:Nat):EnvOk N (E.take k):=⟨fun p hp=>h.key p (List.mem_of_mem_take hp),fun p hp=>h.tm p (List.mem_of_mem_take hp),fun p hp=>h.less p (List.mem_of_mem_take hp),by rw[List.map_take];exact h.nodup.sublist (List.take_sublist _ _)⟩
theorem EnvOk.snoc{N:Int}{E:Env}(h:EnvOk N E){v:Int}{t:Tm}(h0:0<=v)(h1:v<N)(hv:eget E v=none)(ht:t.In N)(hk:t.kind=0->t.n<v):EnvOk N (E++[(v,t)]):=by
 refine⟨fun p hp=>?_,fun p hp=>?_,fun p hp=>?_,?_⟩
 ·rcases List.mem_append.1 hp with hp|hp;·exact h.key p hp
  ·simp only[List.mem_singleton]at hp;subst hp;exact⟨h0,h1⟩
 ·rcases List.mem_append.1 hp with hp|hp;·exact h.tm p hp
  ·simp only[List.mem_singleton]at hp;subst hp;exact ht
 ·rcases List.mem_append.1 hp with hp|hp;·exact h.less p hp
  ·simp only[List.mem_singleton]at hp;subst hp;exact hk
 ·rw[List.map_append,List.nodup_append];refine⟨h.nodup,by simp,fun a ha b hb=>?_⟩;simp only[List.map_cons,List.map_nil,List.mem_singleton]at hb;subst hb;obtain⟨p,hp,rfl⟩:=List.mem_map.1 ha;exact eget_none.1 hv p hp
section
variable {N : Int} {E : Env}
theorem Zcs(h:EnvOk N E):∀(k:Nat)(t:Tm),t.In N->t.n.toNat<k->((Zbs E k t).kind=0->eget E (Zbs E k t).n=none)/\(Zbs E k t).In N/\∀k',t.n.toNat<k'->Zbs E k' t=Zbs E k t
 |0,t,ht,hk=>by omega
 |k+1,t,ht,hk=>by
  by_cases e:t.kind=0
  ·cases he:eget E t.n with
    |none=>refine⟨by simp[Zbs,e,he],by simpa[Zbs,e,he]using ht,fun k' hk'=>?_⟩;cases k' with|zero=>omega|succ k'=>simp[Zbs,e,he]
    |some x=>
     have hm:=ZhB he;have hx:x.In N:=h.tm _ hm;have hn:=ht.n e;by_cases ex:x.kind=0;·have hl:x.n<t.n:=h.less _ hm ex;have hx0:=hx.n ex;obtain⟨i1,i2,i3⟩:=Zcs h k x hx (by omega);refine⟨by simpa[Zbs,e,he]using i1,by simpa[Zbs,e,he]using i2,fun k' hk'=>?_⟩;cases k' with|zero=>omega|succ k'=>simp only[Zbs,e,he,if_true];exact i3 k' (by omega)
     ·have hs:∀k,Zbs E k x=x:=fun k=>by cases k<;>simp[Zbs,ex]
      refine⟨by simp[Zbs,e,he,hs,ex],by simpa[Zbs,e,he,hs]using hx,fun k' hk'=>?_⟩;cases k' with|zero=>omega|succ k'=>simp[Zbs,e,he,hs]
  ·refine⟨by simp[Zbs,e],by simpa[Zbs,e]using ht,fun k' hk'=>?_⟩;cases k' with|zero=>omega|succ k'=>simp[Zbs,e]
theorem ZcX(h:EnvOk N E){t:Tm}(ht:t.In N)(hk:(slook E t).kind=0):eget E (slook E t).n=none:=(Zcs h _ t ht (Nat.lt_succ_self _)).1 hk
theorem ZbX(h:EnvOk N E){t:Tm}(ht:t.In N):(slook E t).In N:=(Zcs h _ t ht (Nat.lt_succ_self _)).2.1
theorem Zfd(h:EnvOk N E){t x:Tm}(ht:t.In N)(hk:t.kind=0)(hx:eget E t.n=some x):slook E t=slook E x:=by
 have hm:=ZhB hx;have hxi:x.In N:=h.tm _ hm;have hn:=ht.n hk;unfold slook;rw[Zbs,if_pos hk,hx];by_cases ex:x.kind=0;·have hl:x.n<t.n:=h.less _ hm ex;have hx0:=hxi.n ex;exact(Zcs h _ x hxi (Nat.lt_succ_self _)).2.2 _ (by omega)
 ·have hs:∀k,Zbs E k x=x:=fun k=>by cases k<;>simp[Zbs,ex]
  simp only[hs]
theorem ZaG{t:Tm}(h:t.kind≠0\/eget E t.n=none):slook E t=t:=by
 unfold slook;rw[Zbs];split
 ·rename_i hk;rcases h with h|h;·exact absurd hk h
  ·rw[h]
 ·rfl
theorem Zg8(h:EnvOk N E){t:Tm}(ht:t.In N):slook E (slook E t)=slook E t:=by
 by_cases hk:(slook E t).kind=0;·exact ZaG (.inr (ZcX h ht hk))
 ·exact ZaG (.inl hk)
end
def inS(E:Env)(v:Int):Nat->List Tm->Bool×Int|w,[]=>(false,w)|0,_::_=>(false, -1)|w+1,z::r=>if(slook E z).kind=0 then(if(slook E z).n=v then(true,w)else inS E v w r)else inS E v w ((slook E z).args++r)
theorem ZlN(E:Env)(v:Int)(w:Nat):inS E v w []=(false,(w:Int)):=by cases w<;>rfl
theorem Znj(E:Env)(v:Int)(z:Tm)(r:List Tm):inS E v 0 (z::r)=(false, -1):=rfl
theorem Zj3(E:Env)(v:Int)(w:Nat)(z:Tm)(r:List Tm):inS E v (w+1) (z::r)=if(slook E z).kind=0 then(if(slook E z).n=v then(true,(w:Int))else inS E v w r)else inS E v w ((slook E z).args++r):=rfl
structure US where
  ok : Bool
  env : Env
  work : Int
def tvar(n:Int):Tm:= .mk 0 n ByteArray.empty []
def Zdj(w:Nat)(s:List (Tm×Tm))(E:Env):US:=match w,s with|w,[]=>⟨true,E,w⟩|0,_::_=>⟨false,E, -1⟩|w+1,(a,b)::r=>let x:=slook E a;let y:=slook E b;if x.kind=0/\y.kind=0 then(if x.n=y.n then Zdj w r E else Zdj w r (E++[(max x.n y.n,tvar (min x.n y.n))]))else if x.kind=0\/y.kind=0 then let v:=if y.kind=0 then y.n else x.n;let z:=if y.kind=0 then x else y;let p:=inS E v w [z];if p.1=true\/p.2<0 then⟨false,E,p.2⟩else Zdj (min w p.2.toNat) r (E++[(v,z)])else if ¬(x.kind=y.kind/\x.n=y.n/\x.s=y.s/\x.args.length=y.args.length)then⟨false,E,w⟩else Zdj w (x.args.zip y.args++r) E termination_by w decreasing_by all_goals omega
theorem ZfN(w:Nat)(E:Env):Zdj w [] E=⟨true,E,w⟩:=by cases w<;>simp[Zdj]
theorem Zio(p:Tm×Tm)(r:List (Tm×Tm))(E:Env):Zdj 0 (p::r) E=⟨false,E, -1⟩:=by simp[Zdj]
theorem Zd1{N:Int}:∀(w:Nat)(s:List (Tm×Tm))(E:Env),EnvOk N E->(∀p∈s,p.1.In N/\p.2.In N)->EnvOk N (Zdj w s E).env/\(∃F,(Zdj w s E).env=E++F/\F.length<=w):=by
 intro w;induction w using Nat.strongRecOn with
  |_ w ih=>
   intro s E hE hs;match w,s,ih,hs with
    |w,[],_,_=>rw[ZfN];exact⟨hE,[],by simp,by simp⟩
    |0,_::_,_,_=>rw[Zio];exact⟨hE,[],by simp,by simp⟩
    |w+1,(a,b)::r,ih,hs=>
     obtain⟨ha,hb⟩:=hs (a,b) (by simp);simp only at ha hb;have hr:∀p∈r,p.1.In N/\p.2.In N:=fun p hp=>hs p (by simp[hp]);have xa:=ZbX hE ha;have xb:=ZbX hE hb;have fa:=ZcX hE ha;have fb:=ZcX hE hb;rw[Zdj];simp only;generalize slook E a=x at*;generalize slook E b=y at*;split
     ·rename_i hk;have na:=xa.n hk.1;have nb:=xb.n hk.2;split;·obtain⟨h1,F,h2,h3⟩:=ih w (by omega) r E hE hr;exact⟨h1,F,h2,by omega⟩
      ·rename_i hne;have hE':EnvOk N (E++[(max x.n y.n,tvar (min x.n y.n))]):=by
        refine hE.snoc (by omega) (by omega) ?_ (.var _ (by omega) (by omega)) (fun _=>by show min x.n y.n<max x.n y.n;omega);by_cases h:x.n<=y.n;·rw[Int.max_eq_right h];exact fb hk.2
        ·rw[Int.max_eq_left (by omega)];exact fa hk.1
       obtain⟨h1,F,h2,h3⟩:=ih w (by omega) r _ hE' hr;exact⟨h1,_,by rw[h2,List.append_assoc],by simp;omega⟩
     ·rename_i hk;split
      ·rename_i hk2;generalize inS E (if y.kind=0 then y.n else x.n) w [if y.kind=0 then x else y]=p;split;·exact⟨hE,[],by simp,by simp⟩
       ·have hE':EnvOk N (E++[(if y.kind=0 then y.n else x.n,if y.kind=0 then x else y)]):=by
         by_cases e:y.kind=0;·simp only[e,if_true];have nb:=xb.n e;exact hE.snoc nb.1 nb.2 (fb e) xa (fun h=>absurd ⟨h,e⟩ hk)
         ·simp only[e,if_false];have e':x.kind=0:=hk2.resolve_right e;have na:=xa.n e';exact hE.snoc na.1 na.2 (fa e') xb (fun h=>absurd h e)
        obtain⟨h1,F,h2,h3⟩:=ih (min w p.2.toNat) (by omega) r _ hE' hr;exact⟨h1,_,by rw[h2,List.append_assoc],by simp;omega⟩
      ·split;·exact⟨hE,[],by simp,by simp⟩
       ·obtain⟨h1,F,h2,h3⟩:=ih w (by omega) (x.args.zip y.args++r) E hE (fun p hp=>by
         rcases List.mem_append.1 hp with hp|hp;·have :=List.of_mem_zip hp;exact⟨xa.arg this.1,xb.arg this.2⟩
         ·exact hr p hp);exact⟨h1,F,h2,by omega⟩
def flL(E:Env)(w:Nat)(s:List Tm):Option (List Tm×Nat):=match w,s with|w,[]=>some ([],w)|0,_::_=>none|w+1,z::r=>let x:=slook E z;match flL E w x.args with|none=>none|some (ts,w1)=>match flL E (min w w1) r with|none=>none|some (rs,w2)=>some (.mk x.kind x.n x.s ts::rs,w2)termination_by w decreasing_by all_goals omega
theorem Zdz(E:Env)(w:Nat):flL E w []=some ([],w):=by cases w<;>simp[flL]
theorem Zd2(E:Env)(z:Tm)(r:List Tm):flL E 0 (z::r)=none:=by simp[flL]
theorem ZlO(E:Env):∀(w:Nat)(s ts:List Tm)(w':Nat),flL E w s=some (ts,w')->w'<=w/\ts.length=s.length:=by
 intro w;induction w using Nat.strongRecOn with
  |_ w ih=>
   intro s ts w' h;match w,s,ih,h with
    |w,[],_,h=>rw[Zdz]at h;simp at h;obtain⟨rfl,rfl⟩:=h;simp
    |0,_::_,_,h=>rw[Zd2]at h;cases h
    |w+1,a::r,ih,h=>
     rw[flL]at h;try simp only at h
     split at h;·simp at h
     ·rename_i _ ts1 w1 h1;have k1:=ih w (by omega) _ _ _ h1;rw[Nat.min_eq_right k1.1]at h;split at h;·simp at h
      ·rename_i _ rs w2 h2;have k2:=ih w1 (by omega) _ _ _ h2;simp only[Option.some.injEq,Prod.mk.injEq]at h;obtain⟨rfl,rfl⟩:=h;simp only[List.length_cons];omega
structure Ev where
  kind : Int
  terms : List Tm
structure Gl where
  t : Tm
  bar : Nat
structure Chc where
  g : List Gl
  at_ : Nat
  trail : Nat
structure Sv where
  env : Env
  choices : List Chc
  vars : Int
  fuel : Nat
  out : List Ev
inductive Res where
  | next (g : List Gl)
  | no
  | off
def Sv.put(s:Sv)(kind:Int):Sv:={s with out:=s.out++[⟨kind,[]⟩]}
def Za1(t:Tm)(d:Int):Tm:=t.ren fun n=>low n+low d
def Zfe(a b:Tm):Prop:=a.s=b.s/\a.args.length=b.args.length
noncomputable instance(a b:Tm):Decidable (Zfe a b):=by unfold Zfe;infer_instance
noncomputable def Zda(P:List Cl)(t:Tm):Nat->Nat->Nat|0,k=>k|n+1,k=>match P[k]? with|none=>k|some c=>if Zfe c.head t then k else Zda P t n (k+1)
def Znk(b:Nat)(d:Int)(l:List Tm)(rest:List Gl):List Gl:=(l.map fun t=>(⟨Za1 t d,b⟩:Gl))++rest
noncomputable def Zb7(P:List Cl)(g:Gl)(rest:List Gl):Nat->Nat->Sv->Res×Sv|0,_,s=>(.no,s)|n+1,k,s=>match P[k]? with|none=>(.no,s)|some c=>if ¬Zfe c.head g.t then Zb7 P g rest n (k+1) s else let u:=Zdj 400 [(Za1 c.head s.vars,g.t)] s.env;if u.work<0 then(.off,{s with env:=u.env}.put 4)else if u.ok=false then Zb7 P g rest n (k+1) s else(.next (Znk s.choices.length s.vars c.body rest),{s with env:=u.env,choices:=if Zda P g.t (P.length - (k+1)) (k+1)<P.length then⟨g::rest,Zda P g.t (P.length - (k+1)) (k+1),s.env.length⟩::s.choices else s.choices,vars:=s.vars+c.vars})
noncomputable def ZbY(P:List Cl):List Chc->Sv->Res×Sv|[],s=>(.off,{s with choices:=[]}.put 2)|c::cs,s=>match c.g with|[]=>(.off,s)|g::rest=>match Zb7 P g rest (P.length - c.at_) c.at_ {s with choices:=cs,env:=s.env.take c.trail}with|(.no,s')=>ZbY P cs s'|r=>r
noncomputable def Zb9(g:Gl)(s:Sv):Option Bool×Sv:=if g.t.s.toList=[33]then(some true,{s with choices:=s.choices.drop (s.choices.length - g.bar)})else if g.t.s.toList=[116,114,117,101]then(some true,s)else if g.t.s.toList=[102,97,105,108]then(some false,s)else if g.t.s.toList=[101,113]then let u:=Zdj 400 [((g.t.args[0]?).getD default,(g.t.args[1]?).getD default)] s.env;if u.work<0 then(none,{s with env:=u.env}.put 4)else(some u.ok,{s with env:=u.env})else let a:=slook s.env ((g.t.args[0]?).getD default);let b:=slook s.env ((g.t.args[1]?).getD default);if a.kind≠2\/b.kind≠2 then(none,s.put 5)else if g.t.s.toList=[108,101,115,115]then(some (decide (a.n<b.n)),s)else if a.n+b.n>1099511627776\/a.n+b.n< -1099511627776 then(none,s.put 5)else let u:=Zdj 400 [((g.t.args[2]?).getD default,.mk 2 (a.n+b.n) ByteArray.empty [])] s.env;(some u.ok,{s with env:=u.env})
noncomputable def ZcY(P:List Cl)(g:Gl)(rest:List Gl)(s:Sv):Res×Sv:=if s.fuel=0 then(.off,s.put 3)else let s:={s with fuel:=s.fuel - 1};haveI :=Classical.propDecidable g.t.Known;if g.t.Known then match Zb9 g s with|(none,s')=>(.off,s')|(some true,s')=>(.next rest,s')|(some false,s')=>ZbY P s'.choices s' else if ∀c∈P,¬Zfe c.head g.t then(.off,s.put 5)else match Zb7 P g rest P.length 0 s with|(.no,s')=>ZbY P s'.choices s'|r=>r
def Zbc(q:Nat)(s:Sv):Bool×Sv:=match flL s.env 200 ((List.range q).map fun i=>tvar (i:Nat))with|none=>(false,s.put 4)|some (l,_)=>let s:={s with out:=s.out++[⟨1,tidy l⟩]};if s.out.length≥12 then(false,s.put 6)else(true,s)
noncomputable def ZgX(P:List Cl)(q:Nat):Nat->List Gl->Sv->Sv
 |0,_,s=>s
 |n+1,[],s=>match Zbc q s with|(false,s')=>s'|(true,s')=>match ZbY P s'.choices s' with|(.next g,s'')=>ZgX P q n g s''|(_,s'')=>s''
 |n+1,g::rest,s=>match ZcY P g rest s with|(.next g',s')=>ZgX P q n g' s'|(_,s')=>s'
noncomputable def Zcg(P:List Cl)(Q:List Tm)(vars fuel:Int):List Ev×Int:=haveI :=Classical.propDecidable (GoodP P/\ZbT Q vars);if ¬(GoodP P/\ZbT Q vars)then([],1)else if fuel<0\/fuel>150 then([],2)else((ZgX P vars.toNat (fuel.toNat+14) (Q.map fun t=>⟨t,0⟩) ⟨[],[],vars,fuel.toNat,[]⟩).out,0)
mutual
/-- a term as text -/
def Za2 : Tm → Str
  | .mk k n s l => if k = 0 then (if n < 0 ∨ 25 < n then [90, 122] else [UInt8.ofNat (65 + n.toNat)])
    else if k = 2 then Lib.itoa n
    else if k = 1 ∨ k = 3 then s.data.toList ++ ZbM 40 l ++ (if l = [] then [] else [41])
    else []
def ZbM (b : UInt8) : List Tm → Str
  | [] => []
  | t :: r => b :: (Za2 t ++ ZbM 44 r)
end
mutual
/-- room for a term's text -/
def wtF : Tm → Nat
  | .mk k n s l => s.size + 24 + wtL l
def wtL : List Tm → Nat
  | [] => 0
  | t :: r => wtF t + wtL r
end
theorem Zdb(b:UInt8)(l:List Tm)(t:Tm):ZbM b (l++[t])=ZbM b l++(if l=[]then b else 44)::Za2 t:=by
 cases l with
  |nil=>simp[ZbM]
  |cons x r=>
   rw[if_neg (by simp)];suffices h:∀(r:List Tm),ZbM 44 (r++[t])=ZbM 44 r++44::Za2 t by rw[List.cons_append,ZbM,ZbM,h];simp
   intro r;induction r with|nil=>simp[ZbM]|cons y r ih=>rw[List.cons_append,ZbM,ZbM,ih];simp
theorem ZeJ(l:List Tm)(t:Tm):wtL (l++[t])=wtL l+wtF t:=by induction l with|nil=>simp[wtL]|cons x r ih=>rw[List.cons_append,wtL,wtL,ih];omega
theorem ZhC(l:List Tm)(j:Nat)(h:j<l.length):wtL (l.take j)+wtF l[j]<=wtL l:=by
 have h1:l=l.take j++l[j]::l.drop (j+1):=by simp
 have h2:∀(a b:List Tm),wtL (a++b)=wtL a+wtL b:=by intro a b;induction a with|nil=>simp[wtL]|cons x r ih=>rw[List.cons_append,wtL,wtL,ih];omega
 have h3:=congrArg wtL h1;rw[h2,wtL]at h3;omega
theorem ZcZ:∀t:Tm,(∀x:Tm,True)->(∃A w us,Tm.rep A w t us)->(Za2 t).length+1<=wtF t:=by
 intro t;induction t using Tm.induct with
  |h k n s l ih=>
   rintro - ⟨A,w,us,hr⟩;rw[Tm.rep_iff]at hr;obtain⟨hk,hn,hs,v,rfl,hl⟩:=hr;obtain⟨b,off, -,he⟩:=hl;have hl2:∀(l':List Tm)(c:UInt8),(∀x∈l',x∈l)->(ZbM c l').length<=wtL l':=by intro l';induction l' with|nil=>intro c _;simp[ZbM,wtL]|cons x r ihl=>intro c hm;have hx:=hm x (by simp);obtain⟨i,hi,hix⟩:=List.getElem_of_mem hx;obtain⟨us, -,hru, -⟩:=he i x (by rw[<-hix];exact List.getElem?_eq_getElem hi);have h1:=ih x hx (fun _=>trivial) ⟨A,w,us,hru⟩;have h2:=ihl 44 fun y hy=>hm y (by simp[hy]);simp only[ZbM,wtL,List.length_cons,List.length_append];omega
   have h3:=hl2 l 40 fun x hx=>hx;have h4:=Lib.itoa_length_le n hn.1 hn.2;unfold Za2 wtF;have h5:s.data.toList.length=s.size:=Array.length_toList;split;·split<;>simp only[List.length_cons,List.length_nil]<;>omega
   ·split;·omega
    ·split;·simp only[List.length_append];split<;>simp only[List.length_cons,List.length_nil]<;>omega
     ·simp only[List.length_nil];omega
theorem Zj4:∀t:Tm,(∃A w us,Tm.rep A w t us)->wtF t<=t.nodes*1048600:=by
 intro t;induction t using Tm.induct with
  |h k n s l ih=>
   rintro⟨A,w,us,hr⟩;rw[Tm.rep_iff]at hr;obtain⟨hk,hn,hs,v,rfl,hl⟩:=hr;obtain⟨b,off, -,he⟩:=hl;have hl2:∀(l':List Tm),(∀x∈l',x∈l)->wtL l'<=Tm.nodesL l'*1048600:=by intro l';induction l' with|nil=>intro _;simp[wtL]|cons x r ihl=>intro hm;have hx:=hm x (by simp);obtain⟨i,hi,hix⟩:=List.getElem_of_mem hx;obtain⟨us, -,hru, -⟩:=he i x (by rw[<-hix];exact List.getElem?_eq_getElem hi);have h1:=ih x hx ⟨A,w,us,hru⟩;have h2:=ihl fun y hy=>hm y (by simp[hy]);simp only[wtL,Tm.nodesL,Nat.add_mul];omega
   have h3:=hl2 l fun x hx=>hx;simp only[wtF,Tm.nodes,Nat.add_mul];omega
theorem Zgi{A:Nat->Prop}{w:World}{l:List Tm}{v:Value}(h:TmsR A w l v):wtL l<=Tm.nodesL l*1048600:=by
 obtain⟨b,off, -,he⟩:=h;have hl2:∀(l':List Tm),(∀x∈l',x∈l)->wtL l'<=Tm.nodesL l'*1048600:=by intro l';induction l' with|nil=>intro _;simp[wtL]|cons x r ihl=>intro hm;have hx:=hm x (by simp);obtain⟨i,hi,hix⟩:=List.getElem_of_mem hx;obtain⟨us, -,hru, -⟩:=he i x (by rw[<-hix];exact List.getElem?_eq_getElem hi);have h1:=Zj4 x ⟨A,w,us,hru⟩;have h2:=ihl fun y hy=>hm y (by simp[hy]);simp only[wtL,Tm.nodesL,Nat.add_mul];omega
 exact hl2 l fun x hx=>hx
def ZoI(k:Int):Str:=if k=2 then[100,111,110,101]else if k=3 then[102,117,101,108]else if k=4 then[108,97,114,103,101]else if k=5 then[102,97,117,108,116]else if k=6 then[101,110,111,117,103,104]else[]
def Zee(i:Nat):List Tm->Str|[]=>[]|t::r=>32::(Lib.itoa (i:Int)++61::Za2 t)++Zee (i+1) r
def ZcR(e:Ev):Str:=if e.kind=1 then[121,101,115]++Zee 0 e.terms else ZoI e.kind
theorem Zg9:∀(l:List Tm)(i:Nat)(t:Tm),Zee i (l++[t])=Zee i l++32::(Lib.itoa ((i+l.length:Nat):Int)++61::Za2 t)|[],i,t=>by simp[Zee]|x::r,i,t=>by rw[List.cons_append,Zee,Zee,Zg9 r (i+1) t,List.length_cons,show i+1+r.length=i+(r.length+1)by omega];simp
end Go.Proofs.YtlpmfkpefoegeabDoor
