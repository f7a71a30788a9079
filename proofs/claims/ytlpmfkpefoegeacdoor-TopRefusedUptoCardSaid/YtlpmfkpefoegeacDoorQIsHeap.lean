import Derived.Test.YtlpmfkpefoegeacDoorQCopy
namespace Go.Proofs.YtlpmfkpefoegeacDoor
set_option maxRecDepth 100000
set_option maxHeartbeats 16000000
set_option linter.all false
open Go.RowKit
structure Ce where
  kind : Int
  n : Int
  s : ByteArray
  deriving DecidableEq, Inhabited
def ZgK{α:Type}(f:α->List Value)(ok:α->Prop)(_:Nat->Prop)(_:World)(x:α)(vs:List Value):Prop:=ok x/\vs=f x
theorem Zbx{α:Type}{f:α->List Value}{ok:α->Prop}(h1:∀x,∀u∈f x,u.oneCell'=true):Lasts (ZgK f ok):=⟨fun A w w' x vs h _=>h,fun A A' w x vs h _=>h,fun A w x vs h=>by obtain⟨_,rfl⟩:=h;exact h1 x⟩
def Ce.vals(c:Ce):List Value:=[.int .i64 c.kind,.int .i64 c.n,.string c.s]
def Ce.Ok(c:Ce):Prop:=I64 c.kind/\I64 c.n/\c.s.size<=1048576
def Ce.rep:(Nat->Prop)->World->Ce->List Value->Prop:=ZgK Ce.vals Ce.Ok
theorem Ce.rep_lasts:Lasts Ce.rep:=Zbx fun x=>by simp[Ce.vals,Value.oneCell']
def ZmM(n:Int):List Value:=[.int .i64 n]
def ZhR:(Nat->Prop)->World->Int->List Value->Prop:=ZgK ZmM I64
theorem Zab:Lasts ZhR:=Zbx fun x=>by simp[ZmM,Value.oneCell']
def ZoZ(b:Bool):List Value:=[.bool b]
abbrev CesR:=SlR 3 Ce.rep
abbrev ZbB:=SlR 1 ZhR
structure Hp where
  cells : List Ce
  trail : List Int
  deriving DecidableEq, Inhabited
def Hp.rep(A:Nat->Prop)(w:World)(h:Hp)(vs:List Value):Prop:=∃c t,vs=[c,t]/\CesR A w h.cells c/\ZbB A w h.trail t
theorem Hp.rep_lasts:Lasts Hp.rep:=by
 refine⟨fun A w w' x vs h hk=>?_,fun A A' w x vs h hA=>?_,fun A w x vs h=>?_⟩;·obtain⟨c,t,rfl,hc,ht⟩:=h;exact⟨c,t,rfl,hc.keeps Ce.rep_lasts hk,ht.keeps Zab hk⟩
 ·obtain⟨c,t,rfl,hc,ht⟩:=h;exact⟨c,t,rfl,hc.mono Ce.rep_lasts (by omega) hA,ht.mono Zab (by omega) hA⟩
 ·obtain⟨c,t,rfl,hc,ht⟩:=h;obtain⟨_,_,_,_,rfl,_⟩:=hc.at;obtain⟨_,_,_,_,rfl,_⟩:=ht.at;simp[Value.oneCell']
theorem Hp.rep.keeps{A:Nat->Prop}{w w':World}{h:Hp}{vs:List Value}(hh:Hp.rep A w h vs)(hk:Keeps A w w'):Hp.rep A w' h vs:=Hp.rep_lasts.1 _ _ _ _ _ hh hk
theorem Hp.rep.below{A:Nat->Prop}{w w':World}{h:Hp}{vs:List Value}(hh:Hp.rep A w h vs)(hk:Below w.heap.size w w'):Hp.rep A w' h vs:=hh.keeps (Keeps.ob hk)
theorem Hp.rep.mono{A A':Nat->Prop}{w:World}{h:Hp}{vs:List Value}(hh:Hp.rep A w h vs)(hA:∀b,b<w.heap.size->A b->A' b):Hp.rep A' w h vs:=Hp.rep_lasts.2.1 _ _ _ _ _ hh hA
theorem Hp.rep2{A:Nat->Prop}{w:World}{h:Hp}{vs:List Value}(hh:Hp.rep A w h vs):∃a cap b tap,vs=[.slice a h.cells.length cap,.slice b h.trail.length tap]/\h.cells.length<=cap/\cap<=maxLen/\h.cells.length<=1048576/\h.trail.length<=tap/\tap<=maxLen/\h.trail.length<=1048576/\CesR A w h.cells (.slice a h.cells.length cap)/\ZbB A w h.trail (.slice b h.trail.length tap):=by obtain⟨c,t,rfl,hc,ht⟩:=hh;obtain⟨a,cap,_,_,rfl,h1,h2,h3, -⟩:=hc.at;obtain⟨b,tap,_,_,rfl,h4,h5,h6, -⟩:=ht.at;exact⟨a,cap,b,tap,rfl,h1,h2,h3,h4,h5,h6,hc,ht⟩
theorem Zo0{w:World}{b off:Nat}{v0 v1 v2:Value}(h:RowAt w b off [v0,v1,v2]):w.cell? ⟨b,off,none⟩=some v0/\w.cell? ⟨b,off+1,none⟩=some v1/\w.cell? ⟨b,off+2,none⟩=some v2:=⟨h 0 _ rfl,h 1 _ rfl,h 2 _ rfl⟩
theorem ZbP{A:Nat->Prop}{w wr:World}{l:List Ce}{b off:Nat}(he:Elems A w 3 Ce.rep l b off)(hA:A b)(hk:Keeps A w wr){k:Nat}(hlt:k<l.length):wr.cell? ⟨b,off+k*3,none⟩=some (.int .i64 l[k].kind)/\wr.cell? ⟨b,off+k*3+1,none⟩=some (.int .i64 l[k].n)/\wr.cell? ⟨b,off+k*3+2,none⟩=some (.string l[k].s)/\I64 l[k].kind/\I64 l[k].n/\l[k].s.size<=1048576:=by obtain⟨vs,hvl,⟨⟨h1,h2,h3⟩,rfl⟩,hrow⟩:=he k _ (List.getElem?_eq_getElem hlt);obtain⟨c0,c1,c2⟩:=Zo0 (RowAt.keeps hA hrow hk);exact⟨c0,c1,c2,h1,h2,h3⟩
theorem ZcH{A:Nat->Prop}{w wr:World}{l:List Int}{b off:Nat}(he:Elems A w 1 ZhR l b off)(hA:A b)(hk:Keeps A w wr){k:Nat}(hlt:k<l.length):wr.cell? ⟨b,off+k,none⟩=some (.int .i64 l[k])/\I64 l[k]:=by obtain⟨vs,hvl,⟨h1,rfl⟩,hrow⟩:=he k _ (List.getElem?_eq_getElem hlt);have :=(RowAt.keeps hA hrow hk) 0 _ rfl;exact⟨by simpa using this,h1⟩
theorem Ce.ext'{a b:Ce}(h1:a.kind=b.kind)(h2:a.n=b.n)(h3:a.s.toList=b.s.toList):a=b:=by obtain⟨k,n,s⟩:=a;obtain⟨k',n',s'⟩:=b;simp only at h1 h2 h3;subst h1;subst h2;congr 1;exact ZcZ h3
end Go.Proofs.YtlpmfkpefoegeacDoor
namespace Go.Proofs.YtlpmfkpefoegeacDoor
set_option maxRecDepth 100000
set_option maxHeartbeats 16000000
set_option linter.all false
def Ce.OkAt(n i:Nat)(c:Ce):Prop:=(c.kind=0/\0<=c.n/\c.n<n/\c.s.toList=[])\/(c.kind=1/\c.n=0/\c.s.toList≠[])\/(c.kind=2/\c.s.toList=[])\/(c.kind=3/\1<=c.n/\c.n<=4/\(i:Int)+c.n<n/\c.s.toList≠[])
def GoodC(l:List Ce):Prop:=∀(i:Nat)(h:i<l.length),(l[i]).OkAt l.length i
def Zpz(l:List Ce)(t:List Int):Prop:=∀(j:Nat)(h:j<t.length),∃v:Nat,t[j]=(v:Int)/\∃hv:v<l.length,(l[v]).kind=0
def Hp.Good(h:Hp):Prop:=GoodC h.cells/\Zpz h.cells h.trail/\h.cells.length<=65536/\h.trail.length<=65536
def Zaa(l:List Ce)(a:Int):Ce:=(l[a.toNat]?).getD default
theorem ZaC{l:List Ce}{k:Nat}(h:k<l.length):Zaa l (k:Int)=l[k]:=by unfold Zaa;rw[Int.toNat_natCast,List.getElem?_eq_getElem h];rfl
def Stop(l:List Ce)(a:Int):Prop:=(Zaa l a).kind≠0\/(Zaa l a).n=a
instance(l:List Ce)(a:Int):Decidable (Stop l a):=by unfold Stop;infer_instance
def Inb(l:List Ce)(a:Int):Prop:=0<=a/\a<l.length
instance(l:List Ce)(a:Int):Decidable (Inb l a):=by unfold Inb;infer_instance
def Zdg(l:List Ce):Nat->Int->Int|0,_=> -1|k+1,a=>if ¬Inb l a then -1 else if Stop l a then a else Zdg l k (Zaa l a).n
def look(l:List Ce)(a:Int):Int:=Zdg l (l.length+1) a
inductive Looks (l : List Ce) : Int → Int → Prop where
  | stop {a : Int} : Inb l a → Stop l a → Looks l a a
  | next {a x : Int} : Inb l a → ¬ Stop l a → Looks l (Zaa l a).n x → Looks l a x
theorem Looks.end_{l:List Ce}{a x:Int}(h:Looks l a x):Inb l x/\Stop l x:=by induction h with|stop h1 h2=>exact⟨h1,h2⟩|next _ _ _ ih=>exact ih
theorem Looks.nonneg{l:List Ce}{a x:Int}(h:Looks l a x):0<=x:=h.end_.1.1
theorem Looks.start{l:List Ce}{a x:Int}(h:Looks l a x):Inb l a:=by cases h<;>assumption
theorem Looks.fun_{l:List Ce}{a x y:Int}(h:Looks l a x)(h':Looks l a y):x=y:=by induction h with
 |stop h1 h2=>cases h' with|stop=>rfl|next _ h=>exact absurd h2 h
 |next h1 h2 _ ih=>cases h' with|stop _ h=>exact absurd h h2|next _ _ h=>exact ih h
theorem ZfQ{l:List Ce}:∀(k:Nat)(a:Int),0<=Zdg l k a->Looks l a (Zdg l k a)
 |0,a,h=>by simp[Zdg]at h
 |k+1,a,h=>by
  unfold Zdg at h ⊢;by_cases h1:Inb l a
  ·by_cases h2:Stop l a;·simp only[h1,h2,not_true,if_false,if_true];exact .stop h1 h2
   ·simp only[h1,h2,not_true,if_false]at h ⊢;exact .next h1 h2 (ZfQ k _ h)
  ·simp[h1]at h
theorem Zhi:∀(n:Nat)(s:List Int),s.Nodup->(∀x∈s,0<=x/\x<n)->s.length<=n
 |0,s,_,h=>by cases s with|nil=>simp|cons x r=>have :=h x (by simp);omega
 |n+1,s,hn,h=>by have h1:=Zhi n (s.erase (n:Int)) (hn.erase _) (fun x hx=>by have h2:=(List.Nodup.mem_erase_iff hn).1 hx;have h3:=h x h2.2;omega);have h4:=@List.length_erase Int _ _ (n:Int) s;split at h4<;>omega
def Way(l:List Ce)(a:Int)(s:List Int)(b:Int):Prop:=s.Nodup/\(∀x∈s,Inb l x/\¬Stop l x/\((Zaa l x).n∈s\/(Zaa l x).n=b))/\(∀x,Looks l b x↔Looks l a x)/\(a∈s\/a=b)
theorem Way.start(l:List Ce)(a:Int):Way l a [] a:=⟨List.nodup_nil,fun x h=>by simp at h,fun x=>Iff.rfl,.inr rfl⟩
theorem Way.len{l:List Ce}{a b:Int}{s:List Int}(h:Way l a s b):s.length<=l.length:=Zhi _ s h.1 fun x hx=>(h.2.1 x hx).1
theorem Way.step{l:List Ce}{a b:Int}{s:List Int}(h:Way l a s b)(hb:b∉s)(h1:Inb l b)(h2:¬Stop l b):Way l a (s++[b]) (Zaa l b).n:=by
 refine⟨?_,?_,?_,?_⟩;·rw[List.nodup_append];refine⟨h.1,by simp,?_⟩;intro x hx y hy e;simp at hy;subst hy;subst e;exact hb hx
 ·intro x hx;rw[List.mem_append]at hx;rcases hx with hx|hx
  ·obtain⟨k1,k2,k3⟩:=h.2.1 x hx;refine⟨k1,k2,?_⟩;rcases k3 with k3|k3;·exact .inl (by simp[k3])
   ·exact .inl (by simp[k3])
  ·simp at hx;subst hx;exact⟨h1,h2,.inr rfl⟩
 ·intro x;rw[<-h.2.2.1 x];refine⟨fun k=> .next h1 h2 k,fun k=>?_⟩;cases k with|stop _ k=>exact absurd k h2|next _ _ k=>exact k
 ·rcases h.2.2.2 with k|k;·exact .inl (by simp[k])
  ·exact .inl (by simp[k])
theorem ZiL{l:List Ce}{s:List Int}(h:∀x∈s,Inb l x/\¬Stop l x/\(Zaa l x).n∈s){a x:Int}(hl:Looks l a x):a∉s:=by induction hl with|stop h1 h2=>exact fun hm=>(h _ hm).2.1 h2|next h1 h2 _ ih=>exact fun hm=>ih (h _ hm).2.2
theorem Way.again{l:List Ce}{a b:Int}{s:List Int}(h:Way l a s b)(hb:b∈s)(x:Int):¬Looks l a x:=by
 rw[<-h.2.2.1 x];intro hl;exact ZiL (s:=s) (fun y hy=>by
  obtain⟨k1,k2,k3⟩:=h.2.1 y hy;refine⟨k1,k2,?_⟩;rcases k3 with k3|k3;·exact k3
  ·rw[k3];exact hb) hl hb
theorem ZhS{l:List Ce}:∀(k:Nat)(a b:Int)(s:List Int),Way l a s b->b∉s->s.length+k=l.length+1->∀x,Looks l a x->Zdg l k b=x
 |0,a,b,s,hw,hb,hk,x,hl=>by have :=hw.len;omega
 |k+1,a,b,s,hw,hb,hk,x,hl=>by
  have hl':=(hw.2.2.1 x).2 hl;unfold Zdg;have h1:=hl'.start;simp only[h1,not_true,if_false];by_cases h2:Stop l b;·simp only[h2,if_true];exact(Looks.stop h1 h2).fun_ hl'
  ·simp only[h2,if_false];have hw2:=hw.step hb h1 h2;have hnot:(Zaa l b).n∉s++[b]:=fun hm=>hw2.again hm x hl;exact ZhS k a _ _ hw2 hnot (by simp;omega) x hl
theorem ZaS{l:List Ce}{a x:Int}(h:Looks l a x):look l a=x:=ZhS _ a a [] (Way.start l a) (by simp) (by simp) x h
theorem ZmN{l:List Ce}{a x:Int}(h0:0<=x):look l a=x↔Looks l a x:=by refine⟨fun h=>?_,ZaS⟩;have :=ZfQ (l:=l) (l.length+1) a (by unfold look at h;omega);unfold look at h;rw[h]at this;exact this
theorem ZjB{l:List Ce}:∀(k:Nat)(a:Int), -1<=Zdg l k a
 |0,a=>by simp[Zdg]
 |k+1,a=>by
  unfold Zdg;split;·omega
  ·split;·rename_i h _;have :=h;unfold Inb at this;omega
   ·exact ZjB k _
theorem Zhj(l:List Ce)(a:Int): -1<=look l a:=ZjB _ _
theorem Ze0{l:List Ce}{a:Int}(h:0<=look l a):Looks l a (look l a):=(ZmN h).1 rfl
theorem Zep{l:List Ce}{a:Int}(h:0<=look l a):Inb l (look l a)/\Stop l (look l a):=(Ze0 h).end_
def Zam(a:Int)(n:Int):List Int:=(List.range n.toNat).map fun i=>a+1+(i:Nat)
def inL(l:List Ce)(v:Int):Nat->List Int->Bool×Int|w,[]=>(false,w)|0,_::_=>(false, -1)|w+1,z::r=>if look l z<0 then(false, -1)else if(Zaa l (look l z)).kind=0 then(if look l z=v then(true,w)else inL l v w r)else if(Zaa l (look l z)).kind=3 then inL l v w (Zam (look l z) (Zaa l (look l z)).n++r)else inL l v w r
theorem Ze1(l:List Ce)(v:Int)(w:Nat):inL l v w []=(false,(w:Int)):=by cases w<;>rfl
theorem ZgO(l:List Ce)(v:Int):∀(w:Nat)(s:List Int),(inL l v w s).2<=w/\ -1<=(inL l v w s).2
 |w,[]=>by rw[Ze1];exact⟨Int.le_refl _,by simp only;omega⟩
 |0,z::r=>by simp[inL]
 |w+1,z::r=>by
  unfold inL;have h1:=ZgO l v w r;have h2:=ZgO l v w (Zam (look l z) (Zaa l (look l z)).n++r);split;·simp;omega
  ·split
   ·split;·simp;omega
    ·omega
   ·split<;>omega
theorem ZfR(l:List Ce)(v:Int):∀(w:Nat)(s r:List Int),inL l v w (s++r)=if(inL l v w s).1=true\/(inL l v w s).2<0 then inL l v w s else inL l v (inL l v w s).2.toNat r
 |w,[],r=>by simp[Ze1];omega
 |0,z::s,r=>by simp[inL]
 |w+1,z::s,r=>by
  rw[List.cons_append];rw[inL.eq_def l v (w+1) (z::(s++r)),inL.eq_def l v (w+1) (z::s)];simp only;have h1:=ZfR l v w s r;have h2:=ZfR l v w (Zam (look l z) (Zaa l (look l z)).n++s) r;rw[List.append_assoc]at h2;split;·simp
  ·split
   ·split;·simp
    ·exact h1
   ·split;·exact h2
    ·exact h1
theorem Zeq(l:List Ce)(v:Int):∀(w:Nat)(s:List Int),(inL l v w s).1=true->0<=(inL l v w s).2
 |w,[],h=>by rw[Ze1]at h ⊢;simp at h
 |0,z::r,h=>by simp[inL]at h
 |w+1,z::r,h=>by
  unfold inL at h ⊢;have h1:=Zeq l v w r;have h2:=Zeq l v w (Zam (look l z) (Zaa l (look l z)).n++r);split at h;·simp at h
  ·rename_i k1;simp only[k1,if_false];split at h
   ·rename_i k2;simp only[k2,if_true];split at h;·rename_i k3;simp only[k3,if_true];omega
    ·rename_i k3;simp only[k3,if_false];exact h1 h
   ·rename_i k2;simp only[k2,if_false];split at h;·rename_i k3;simp only[k3,if_true];exact h2 h
    ·rename_i k3;simp only[k3,if_false];exact h1 h
structure Un where
  ok : Bool
  cells : List Ce
  trail : List Int
  work : Int
  deriving DecidableEq, Inhabited
def Zbi(l:List Ce)(v a:Int):List Ce:=l.modify v.toNat fun c=>{c with n:=a}
def uniL(w:Nat)(s:List (Int×Int))(l:List Ce)(t:List Int):Un:=match w,s with|w,[]=>⟨true,l,t,w⟩|0,_::_=>⟨false,l,t, -1⟩|w+1,(a,b)::r=>let x:=look l a;let y:=look l b;if x<0\/y<0 then⟨false,l,t, -1⟩else if(Zaa l x).kind=0/\(Zaa l y).kind=0 then(if x=y then uniL w r l t else uniL w r (Zbi l (max x y) (min x y)) (t++[max x y]))else if(Zaa l x).kind=0\/(Zaa l y).kind=0 then let v:=if(Zaa l y).kind=0 then y else x;let z:=if(Zaa l y).kind=0 then x else y;let p:=inL l v w [z];if p.1=true\/p.2<0 then⟨false,l,t,p.2⟩else uniL (min w p.2.toNat) r (Zbi l v z) (t++[v])else if Zaa l x≠Zaa l y then⟨false,l,t,w⟩else if(Zaa l x).kind=3 then uniL w ((Zam x (Zaa l x).n).zip (Zam y (Zaa l x).n)++r) l t else uniL w r l t termination_by w decreasing_by all_goals omega
theorem ZdO(w:Nat)(l:List Ce)(t:List Int):uniL w [] l t=⟨true,l,t,w⟩:=by cases w<;>simp[uniL]
theorem Zdh(p:Int×Int)(r:List (Int×Int))(l:List Ce)(t:List Int):uniL 0 (p::r) l t=⟨false,l,t, -1⟩:=by simp[uniL]
theorem ZhT : ∀ (w : Nat) (s : List (Int × Int)) (l : List Ce) (t : List Int),(uniL w s l t).work ≤ w ∧ -1 ≤ (uniL w s l t).work ∧ ((uniL w s l t).ok = true → 0 ≤ (uniL w s l t).work) :=by
 intro w;induction w using Nat.strongRecOn with
  | _ w ih=>
   intro s l t;match w,s,ih with
    | w,[],_=>rw [ZdO];exact ⟨Int.le_refl _,by simp only;omega,fun _=>by simp only;omega⟩
    | 0,_ :: _,_=>simp [Zdh]
    | w + 1,(a,b) :: r,ih=>
     have ih' : ∀ w' ≤ w,∀ (s : List (Int × Int)) (l : List Ce) (t : List Int),(uniL w' s l t).work ≤ (w + 1 : Nat) ∧ -1 ≤ (uniL w' s l t).work ∧ ((uniL w' s l t).ok = true → 0 ≤ (uniL w' s l t).work) :=fun w' h s l t=>by obtain ⟨h1,h2,h3⟩ :=ih w' (by omega) s l t;exact ⟨by omega,h2,h3⟩
     rw [uniL];simp only;split;·simp;omega
     ·split
      ·split;·exact ih' w (by omega) _ _ _
       ·exact ih' w (by omega) _ _ _
      ·split
       ·generalize hp : inL l (if (Zaa l (look l b)).kind = 0 then look l b else look l a) w [if (Zaa l (look l b)).kind = 0 then look l a else look l b] = p;have h1:=ZgO l (if (Zaa l (look l b)).kind = 0 then look l b else look l a) w [if (Zaa l (look l b)).kind = 0 then look l a else look l b];rw [hp] at h1;split;·refine ⟨?_,?_,fun h=>by simp at h⟩ <;> simp only <;> omega
        ·exact ih' _ (by omega) _ _ _
       ·split;·refine ⟨?_,?_,fun h=>by simp at h⟩ <;> simp only <;> omega
        ·split;·exact ih' w (by omega) _ _ _
         ·exact ih' w (by omega) _ _ _
theorem ZjC:∀(w:Nat)(s r:List (Int×Int))(l:List Ce)(t:List Int),uniL w (s++r) l t=if(uniL w s l t).ok=true then uniL (uniL w s l t).work.toNat r (uniL w s l t).cells (uniL w s l t).trail else uniL w s l t:=by
 intro w;induction w using Nat.strongRecOn with
  |_ w ih=>
   intro s r l t;match w,s,ih with
    |w,[],_=>simp[ZdO]
    |0,_::_,_=>simp[Zdh]
    |w+1,(a,b)::s,ih=>
     rw[List.cons_append];rw[uniL.eq_def (w+1) ((a,b)::(s++r)),uniL.eq_def (w+1) ((a,b)::s)];simp only;split;·simp
     ·split
      ·split;·exact ih w (by omega) s r l t
       ·exact ih w (by omega) s r _ _
      ·split
       ·generalize inL l (if(Zaa l (look l b)).kind=0 then look l b else look l a) w [if(Zaa l (look l b)).kind=0 then look l a else look l b]=p;by_cases hp:p.1=true\/p.2<0;·rw[if_pos hp,if_pos hp];rfl
        ·rw[if_neg hp,if_neg hp];exact ih (min w p.2.toNat) (by omega) s r _ _
       ·split;·simp
        ·split;·rw[<-List.append_assoc];exact ih w (by omega) _ r l t
         ·exact ih w (by omega) s r l t
theorem Zdi(l:List Ce)(v a:Int):(Zbi l v a).length=l.length:=by simp[Zbi]
theorem ZaY{l:List Ce}{a:Int}(h:Inb l a):∃k:Nat,a=(k:Int)/\∃hk:k<l.length,Zaa l a=l[k]:=by obtain⟨h1,h2⟩:=h;obtain⟨k,rfl⟩:=Int.eq_ofNat_of_zero_le h1;exact⟨k,rfl,by omega,ZaC (by omega)⟩
theorem Za4{l:List Ce}{v a y:Int}(hv:Inb l v)(hy:Inb l y):Zaa (Zbi l v a) y=if y=v then{Zaa l v with n:=a}else Zaa l y:=by
 obtain⟨k,rfl,hk,e1⟩:=ZaY hv;obtain⟨j,rfl,hj,e2⟩:=ZaY hy;rw[e1,e2,ZaC (by rw[Zdi];exact hj)];simp only[Zbi,Int.toNat_natCast,List.getElem_modify];by_cases h:k=j;·subst h;simp
 ·rw[if_neg h,if_neg (by omega)]
theorem inb_bind{l:List Ce}{v a y:Int}:Inb (Zbi l v a) y↔Inb l y:=by unfold Inb;rw[Zdi]
def Free(l:List Ce)(v:Int):Prop:=Inb l v/\(Zaa l v).kind=0/\(Zaa l v).n=v
theorem Free.stop{l:List Ce}{v:Int}(h:Free l v):Stop l v:= .inr h.2.2
theorem Looks.free{l:List Ce}{a x:Int}(h:Looks l a x)(hk:(Zaa l x).kind=0):Free l x:=by
 obtain⟨h1,h2⟩:=h.end_;refine⟨h1,hk,?_⟩;rcases h2 with h2|h2;·exact absurd hk h2
 ·exact h2
theorem ZfS{l:List Ce}{v a x:Int}(hv:Inb l v)(hx:Inb l x)(hs:Stop l x)(hne:x≠v):Stop (Zbi l v a) x:=by unfold Stop at hs ⊢;rw[Za4 hv hx,if_neg hne];exact hs
theorem Zct{l:List Ce}{v t:Int}(hv:Free l v)(ht:Inb l t)(hs:Stop l t)(hne:t≠v){a x:Int}(h:Looks l a x):Looks (Zbi l v t) a (if x=v then t else x):=by
 have htt:Looks (Zbi l v t) t t:= .stop (inb_bind.2 ht) (ZfS hv.1 ht hs hne);induction h with
  |@stop a h1 h2=>
   by_cases e:a=v
   ·subst e;rw[if_pos rfl];refine .next (inb_bind.2 h1) ?_ ?_;·unfold Stop;rw[Za4 hv.1 h1,if_pos rfl];have :=hv.2.1;simp only;omega
    ·rw[Za4 hv.1 h1,if_pos rfl];exact htt
   ·rw[if_neg e];exact .stop (inb_bind.2 h1) (ZfS hv.1 h1 h2 e)
  |@next a x h1 h2 _ ih=>
   have e:a≠v:=fun e=>h2 (e▸hv.stop);refine .next (inb_bind.2 h1) ?_ ?_;·unfold Stop at h2 ⊢;rw[Za4 hv.1 h1,if_neg e];exact h2
   ·rw[Za4 hv.1 h1,if_neg e];exact ih
theorem Zlq{w:Nat}{a b:Int}{r:List (Int×Int)}{l:List Ce}{t:List Int}(h:(uniL (w+1) ((a,b)::r) l t).ok=true):∃x y,Looks l a x/\Looks l b y/\((x=y/\(Zaa l x).kind=0/\uniL (w+1) ((a,b)::r) l t=uniL w r l t)\/(∃v z w',w'<=w/\((v=x/\z=y)\/(v=y/\z=x))/\Free l v/\Inb l z/\Stop l z/\z≠v/\uniL (w+1) ((a,b)::r) l t=uniL w' r (Zbi l v z) (t++[v]))\/((Zaa l x).kind≠0/\Zaa l x=Zaa l y/\(Zaa l x).kind=3/\uniL (w+1) ((a,b)::r) l t=uniL w ((Zam x (Zaa l x).n).zip (Zam y (Zaa l x).n)++r) l t)\/((Zaa l x).kind≠0/\Zaa l x=Zaa l y/\(Zaa l x).kind≠3/\uniL (w+1) ((a,b)::r) l t=uniL w r l t)):=by
 rw[uniL]at h ⊢;simp only at h ⊢;by_cases h1:look l a<0\/look l b<0;·rw[if_pos h1]at h;simp at h
 ·rw[if_neg h1]at h ⊢;have hx:=Ze0 (l:=l) (a:=a) (by omega);have hy:=Ze0 (l:=l) (a:=b) (by omega);refine⟨look l a,look l b,hx,hy,?_⟩;generalize look l a=x at h h1 hx ⊢;generalize look l b=y at h h1 hy ⊢;by_cases h2:(Zaa l x).kind=0/\(Zaa l y).kind=0
  ·rw[if_pos h2]at h ⊢;by_cases h3:x=y;·rw[if_pos h3]at h ⊢;exact .inl ⟨h3,h2.1,rfl⟩
   ·rw[if_neg h3]at h ⊢;refine .inr (.inl ⟨max x y,min x y,w,zL _,by omega,?_,?_,?_,by omega,rfl⟩)
    ·have :=hx.free h2.1;have :=hy.free h2.2;rcases Int.le_total x y with k|k;·rw[Int.max_eq_right k];assumption
     ·rw[Int.max_eq_left k];assumption
    ·rcases Int.le_total x y with k|k;·rw[Int.min_eq_left k];exact hx.end_.1
     ·rw[Int.min_eq_right k];exact hy.end_.1
    ·rcases Int.le_total x y with k|k;·rw[Int.min_eq_left k];exact hx.end_.2
     ·rw[Int.min_eq_right k];exact hy.end_.2
  ·rw[if_neg h2]at h ⊢;by_cases h3:(Zaa l x).kind=0\/(Zaa l y).kind=0
   ·rw[if_pos h3]at h ⊢;generalize inL l (if(Zaa l y).kind=0 then y else x) w [if(Zaa l y).kind=0 then x else y]=p at h ⊢;by_cases h4:p.1=true\/p.2<0;·rw[if_pos h4]at h;simp at h
    ·rw[if_neg h4]at h ⊢;refine .inr (.inl ⟨_,_,min w p.2.toNat,Nat.min_le_left _ _,?_,?_,?_,?_,?_,rfl⟩)
     ·by_cases h5:(Zaa l y).kind=0;·rw[if_pos h5,if_pos h5];exact .inr ⟨rfl,rfl⟩
      ·rw[if_neg h5,if_neg h5];exact .inl ⟨rfl,rfl⟩
     ·by_cases h5:(Zaa l y).kind=0;·simp only[h5,if_true];exact hy.free h5
      ·simp only[h5,if_false];exact hx.free (h3.resolve_right h5)
     ·split;·exact hx.end_.1
      ·exact hy.end_.1
     ·split;·exact hx.end_.2
      ·exact hy.end_.2
     ·by_cases h5:(Zaa l y).kind=0;·simp only[h5,if_true];rintro rfl;exact h2 ⟨h5,h5⟩
      ·simp only[h5,if_false];rintro rfl;exact h5 (h3.resolve_right h5)
   ·rw[if_neg h3]at h ⊢;by_cases h4:Zaa l x≠Zaa l y;·rw[if_pos h4]at h;simp at h
    ·rw[if_neg h4]at h ⊢;have h4':Zaa l x=Zaa l y:=Decidable.not_not.1 h4;by_cases h5:(Zaa l x).kind=3;·rw[if_pos h5];exact .inr (.inr (.inl ⟨fun e=>h3 (.inl e),h4',h5,rfl⟩))
     ·rw[if_neg h5];exact .inr (.inr (.inr ⟨fun e=>h3 (.inl e),h4',h5,rfl⟩))
def ZbG(l:List Ce)(vs:List Int):List Ce:=l.mapIdx fun i c=>if(i:Int)∈vs then{c with n:=i}else c
theorem Zbj(l:List Ce)(vs:List Int):(ZbG l vs).length=l.length:=by simp[ZbG]
theorem ZhU(l:List Ce):ZbG l []=l:=by apply List.ext_getElem (by simp[ZbG]);intro i h1 h2;simp[ZbG]
theorem Zdj(l:List Ce)(vs:List Int)(i:Nat)(h:i<(ZbG l vs).length):(ZbG l vs)[i]=if(i:Int)∈vs then{(l[i]'(by rw[Zbj]at h;exact h))with n:=i}else l[i]'(by rw[Zbj]at h;exact h):=by simp[ZbG]
theorem ZkE(l:List Ce)(vs:List Int)(v:Int)(h0:0<=v)(us:List Int)(hus:∀x,x∈us↔x∈vs\/x=v):(ZbG l vs).modify v.toNat (fun c=>{c with n:=v})=ZbG l us:=by
 apply List.ext_getElem (by simp[ZbG]);intro i h1 h2;rw[List.getElem_modify,Zdj,Zdj];by_cases e:v.toNat=i
 ·have :(i:Int)=v:=by omega
  rw[if_pos e,if_pos ((hus _).2 (.inr this))];subst this;split<;>rfl
 ·rw[if_neg e];have h3:(i:Int)∈us↔(i:Int)∈vs:=by
   rw[hus];refine⟨fun h=>?_,.inl⟩;rcases h with h|h;·exact h
   ·omega
  by_cases h4:(i:Int)∈vs;·rw[if_pos h4,if_pos (h3.2 h4)]
  ·rw[if_neg h4,if_neg (fun h=>h4 (h3.1 h))]
def Bound(l:List Ce)(vs:List Int)(l':List Ce):Prop:=l'.length=l.length/\∀(i:Nat)(h:i<l.length)(h':i<l'.length),((i:Int)∉vs/\l'[i]=l[i])\/((i:Int)∈vs/\(l[i]).kind=0/\(l[i]).n=i/\∃n:Int,0<=n/\n<l.length/\l'[i]={l[i]with n:=n})
theorem Bound.refl(l:List Ce):Bound l [] l:=⟨rfl,fun i _ _=> .inl ⟨by simp,rfl⟩⟩
theorem Bound.step{l l':List Ce}{v z:Int}{vs:List Int}(hv:Free l v)(hz:Inb l z)(hzv:z≠v)(h:Bound (Zbi l v z) vs l'):Bound l (v::vs) l':=by
 obtain⟨h1,h2⟩:=h;rw[Zdi]at h1;refine⟨h1,fun i hi hi'=>?_⟩;obtain⟨k,rfl,hk,e⟩:=ZaY hv.1;have h3:=hv.2;rw[e]at h3;have h4:=h2 i (by rw[Zdi];exact hi) hi';simp only[Zbi,Int.toNat_natCast,List.getElem_modify,List.length_modify]at h4;by_cases hik:k=i
 ·subst hik;simp only[if_true]at h4;have hm:(k:Int)∉vs->l'[k]={l[k]with n:=z}:=fun hn=>by
   rcases h4 with⟨_,h4⟩|⟨h4,_⟩;·exact h4
   ·exact absurd h4 hn
  by_cases hin:(k:Int)∈vs
  ·exfalso;rcases h4 with⟨h4,_⟩|⟨_,_,h4,_⟩;·exact h4 hin
   ·exact hzv h4
  ·exact .inr ⟨by simp,h3.1,h3.2,z,hz.1,hz.2,hm hin⟩
 ·simp only[hik,if_false]at h4;rcases h4 with⟨h4,h5⟩|⟨h4,h5⟩;·refine .inl ⟨?_,h5⟩;simp only[List.mem_cons,h4,or_false];omega
  ·exact .inr ⟨by simp[h4],h5⟩
theorem Bound.good{l l':List Ce}{vs:List Int}(h:Bound l vs l')(hg:GoodC l):GoodC l':=by
 intro i hi;have hi':i<l.length:=by rw[<-h.1];exact hi
 have h1:=hg i hi';rw[h.1];rcases h.2 i hi' hi with⟨_,k2⟩|⟨_,k2,k3,n,k4,k5,k6⟩;·rw[k2];exact h1
 ·rw[k6];unfold Ce.OkAt at h1 ⊢;simp only;rcases h1 with h1|h1|h1|h1;·exact .inl ⟨h1.1,k4,k5,h1.2.2.2⟩
  ·omega
  ·omega
  ·omega
theorem Bound.kind{l l':List Ce}{vs:List Int}(h:Bound l vs l')(i:Nat)(hi:i<l.length)(hi':i<l'.length):(l'[i]).kind=(l[i]).kind:=by
 rcases h.2 i hi hi' with⟨_,k2⟩|⟨_,k2,k3,n,k4,k5,k6⟩;·rw[k2]
 ·rw[k6]
theorem ZdP:∀(w:Nat)(s:List (Int×Int))(l:List Ce)(t:List Int),(uniL w s l t).ok=true->∃vs,(uniL w s l t).trail=t++vs/\Bound l vs (uniL w s l t).cells/\(∀v∈vs,Inb l v)/\vs.length<=w:=by
 intro w;induction w using Nat.strongRecOn with
  |_ w ih=>
   intro s l t h;match w,s,ih,h with
    |w,[],_,_=>rw[ZdO];exact⟨[],by simp,Bound.refl l,by simp,by simp⟩
    |0,_::_,_,h=>rw[Zdh]at h;simp at h
    |w+1,(a,b)::r,ih,h=>
     obtain⟨x,y,hx,hy,⟨hxy,_,e⟩|⟨v,z,w',hw,hvz,h1,h2,h3,h4,e⟩|⟨hk,hc,h3,e⟩|⟨hk,hc,h3,e⟩⟩:=Zlq h;·rw[e]at h ⊢;obtain⟨vs,k1,k2,k3,k4⟩:=ih w (by omega) _ _ _ h;exact⟨vs,k1,k2,k3,by omega⟩
     ·rw[e]at h ⊢;obtain⟨vs,k1,k2,k3,k4⟩:=ih w' (by omega) _ _ _ h;refine⟨v::vs,by rw[k1,List.append_assoc];rfl,k2.step h1 h2 h4,fun u hu=>?_,by simp;omega⟩;rcases List.mem_cons.1 hu with rfl|hu;·exact h1.1
      ·exact inb_bind.1 (k3 u hu)
     ·rw[e]at h ⊢;obtain⟨vs,k1,k2,k3,k4⟩:=ih w (by omega) _ _ _ h;exact⟨vs,k1,k2,k3,by omega⟩
     ·rw[e]at h ⊢;obtain⟨vs,k1,k2,k3,k4⟩:=ih w (by omega) _ _ _ h;exact⟨vs,k1,k2,k3,by omega⟩
def rdL(l:List Ce)(w:Nat)(s:List Int):Option (List Tm×Nat):=match w,s with|w,[]=>some ([],w)|0,_::_=>none|w+1,a::r=>let x:=look l a;let c:=Zaa l x;if x<0 then none else if c.kind=3 then match rdL l w (Zam x c.n)with|none=>none|some (ts,w1)=>match rdL l (min w w1) r with|none=>none|some (rs,w2)=>some (.mk 3 0 c.s ts::rs,w2)else match rdL l w r with|none=>none|some (rs,w2)=>some ((if c.kind=0 then .mk 0 x ByteArray.empty []else .mk c.kind c.n c.s [])::rs,w2)termination_by w decreasing_by all_goals omega
theorem Zc0(l:List Ce)(w:Nat):rdL l w []=some ([],w):=by cases w<;>simp[rdL]
theorem Zer(l:List Ce)(a:Int)(r:List Int):rdL l 0 (a::r)=none:=by simp[rdL]
theorem ZgP(l:List Ce):∀(w:Nat)(s:List Int)(ts:List Tm)(w':Nat),rdL l w s=some (ts,w')->w'<=w/\ts.length=s.length:=by
 intro w;induction w using Nat.strongRecOn with
  |_ w ih=>
   intro s ts w' h;match w,s,ih,h with
    |w,[],_,h=>rw[Zc0]at h;simp at h;obtain⟨rfl,rfl⟩:=h;simp
    |0,_::_,_,h=>rw[Zer]at h;cases h
    |w+1,a::r,ih,h=>
     rw[rdL]at h;try simp only at h
     split at h;·simp at h
     ·split at h
      ·split at h;·simp at h
       ·rename_i _ _ ts1 w1 h1;have k1:=ih w (by omega) _ _ _ h1;rw[Nat.min_eq_right k1.1]at h;split at h;·simp at h
        ·rename_i _ rs w2 h2;have k2:=ih w1 (by omega) _ _ _ h2;simp only[Option.some.injEq,Prod.mk.injEq]at h;obtain⟨rfl,rfl⟩:=h;simp only[List.length_cons];omega
      ·split at h;·simp at h
       ·rename_i _ rs w2 h2;have k2:=ih w (by omega) _ _ _ h2;simp only[Option.some.injEq,Prod.mk.injEq]at h;obtain⟨rfl,rfl⟩:=h;simp only[List.length_cons];omega
theorem ZkF(a n:Int):(Zam a n).length=n.toNat:=by simp[Zam]
def Leads(l:List Ce)(i j:Nat):Prop:=((Zaa l i).kind=0/\(Zaa l i).n=j)\/((Zaa l i).kind=3/\i<j/\(j:Int)<=i+(Zaa l i).n)
inductive Reach (l : List Ce) (roots : List Int) : Nat → Prop where
  | root {i : Nat} : (i : Int) ∈ roots → i < l.length → Reach l roots i
  | step {i j : Nat} : Reach l roots i → Leads l i j → Reach l roots j
open Classical in /-- which are reached -/ noncomputable def marks(l:List Ce)(roots:List Int):List Bool:=(List.range l.length).map fun i=>decide (Reach l roots i)
theorem ZfT(l:List Ce)(roots:List Int):(marks l roots).length=l.length:=by simp[marks]
theorem Zbk{l:List Ce}{roots:List Int}{i:Nat}(h:i<l.length):(marks l roots)[i]?=some true↔Reach l roots i:=by simp[marks,h]
theorem GoodC.leads{l:List Ce}(hg:GoodC l){i j:Nat}(hi:i<l.length)(h:Leads l i j):j<l.length:=by have h1:=hg i hi;unfold Leads at h;rw[ZaC hi]at h;unfold Ce.OkAt at h1;omega
theorem Reach.lt{l:List Ce}{roots:List Int}(hg:GoodC l){i:Nat}(h:Reach l roots i):i<l.length:=by induction h with|root _ h=>exact h|step _ h ih=>exact hg.leads ih h
theorem ZmO{l:List Ce}{roots:List Int}{M:Nat->Prop}(hr:∀i:Nat,(i:Int)∈roots->i<l.length->M i)(hc:∀i j,M i->Leads l i j->M j){i:Nat}(h:Reach l roots i):M i:=by induction h with|root h1 h2=>exact hr _ h1 h2|step _ h ih=>exact hc _ _ ih h
theorem ZmP{l:List Ce}{roots:List Int}(hg:GoodC l){m:List Bool}(hl:m.length=l.length)(hr:∀i:Nat,(i:Int)∈roots->i<l.length->m[i]?=some true)(hc:∀i j,m[i]?=some true->Leads l i j->m[j]?=some true)(hs:∀i,m[i]?=some true->Reach l roots i):m=marks l roots:=by
 apply List.ext_getElem (by rw[hl,ZfT]);intro i h1 h2;have h3:i<l.length:=by rw[<-hl];exact h1
 have h4:=Zbk (roots:=roots) h3;rw[List.getElem?_eq_getElem h2]at h4;by_cases h:Reach l roots i;·have h5:=ZmO (M:=fun i=>m[i]?=some true) hr hc h;rw[List.getElem?_eq_getElem h1]at h5;have h6:=h4.2 h;simp only[Option.some.injEq]at h5 h6;rw[h5,h6]
 ·have h5:¬m[i]?=some true:=fun e=>h (hs i e);have h6:¬some (marks l roots)[i]=some true:=fun e=>h (h4.1 e);rw[List.getElem?_eq_getElem h1]at h5;simp only[Option.some.injEq,Bool.not_eq_true]at h5 h6;rw[h5,h6]
def cnt(m:List Bool):Nat->Nat|0=>0|k+1=>if m[k]?=some true then cnt m k+1 else cnt m k
theorem ZcA(m:List Bool):∀k,cnt m k<=k|0=>zL _|k+1=>by have :=ZcA m k;unfold cnt;split<;>omega
theorem ZjD(m:List Bool)(i:Nat):∀d,cnt m i<=cnt m (i+d)|0=>zL _|d+1=>by have :=ZjD m i d;rw[<-Nat.add_assoc,cnt];split<;>omega
theorem ZcS{m:List Bool}{i j:Nat}(h:i<=j):cnt m i<=cnt m j:=by have :=ZjD m i (j - i);rw[show i+(j - i)=j by omega]at this;exact this
theorem ZhV{m:List Bool}{i j:Nat}(h:i<j)(hi:m[i]?=some true):cnt m i<cnt m j:=by have h1:=ZcS (m:=m) (show i+1<=j from h);rw[cnt,if_pos hi]at h1;omega
theorem ZmQ{m:List Bool}(j:Nat):cnt m (m.length+j)=cnt m m.length:=by induction j with|zero=>rfl|succ j ih=>rw[<-Nat.add_assoc,cnt,if_neg (by simp),ih]
theorem Zok(m:List Bool)(k:Nat):cnt m (min k m.length)=cnt m k:=by
 by_cases h:k<=m.length;·rw[Nat.min_eq_left h]
 ·rw[Nat.min_eq_right (by omega)];have :=ZmQ (m:=m) (k - m.length);rw[show m.length+(k - m.length)=k by omega]at this;exact this.symm
theorem ZfU{m:List Bool}:∀(n j:Nat),j<cnt m n->∃i,i<n/\m[i]?=some true/\cnt m i=j
 |0,j,h=>by simp[cnt]at h
 |n+1,j,h=>by
  unfold cnt at h;split at h
  ·rename_i hm;by_cases hj:j<cnt m n;·obtain⟨i,h1,h2,h3⟩:=ZfU n j hj;exact⟨i,by omega,h2,h3⟩
   ·exact⟨n,by omega,hm,by omega⟩
  ·obtain⟨i,h1,h2,h3⟩:=ZfU n j h;exact⟨i,by omega,h2,h3⟩
def ahead(m:List Bool)(n:Int):Int:=cnt m n.toNat
def adj(m:List Bool)(c:Ce):Ce:=if c.kind=0 then{c with n:=ahead m c.n}else c
def Zfo(l:List Ce)(m:List Bool):Nat->List Ce|0=>[]|k+1=>if m[k]?=some true then Zfo l m k++[adj m (Zaa l k)]else Zfo l m k
def Zan(m:List Bool)(t:List Int):List Bool:=t.map fun v=>(m[v.toNat]?).getD false
def Zfx(m:List Bool)(t:List Int):Nat->List Int|0=>[]|k+1=>if(Zan m t)[k]?=some true then Zfx m t k++[ahead m ((t[k]?).getD 0)]else Zfx m t k
theorem Zbh(l:List Ce)(m:List Bool):∀k,(Zfo l m k).length=cnt m k|0=>rfl|k+1=>by have :=Zbh l m k;unfold Zfo cnt;split<;>simp[this]
theorem ZbC(m:List Bool)(t:List Int):∀k,(Zfx m t k).length=cnt (Zan m t) k|0=>rfl|k+1=>by have :=ZbC m t k;unfold Zfx cnt;split<;>simp[this]
theorem ZjE(l:List Ce)(m:List Bool):∀(k i:Nat),i<k->m[i]?=some true->(Zfo l m k)[cnt m i]?=some (adj m (Zaa l i))
 |k+1,i,h,hi=>by
  by_cases e:i=k;·subst e;rw[Zfo,if_pos hi,List.getElem?_append_right (by rw[Zbh];exact zL _),Zbh];simp
  ·have ih:=ZjE l m k i (by omega) hi;have hlt:cnt m i<(Zfo l m k).length:=by rw[Zbh];exact ZhV (by omega) hi
   rw[Zfo];split;·rw[List.getElem?_append_left hlt,ih]
   ·exact ih
theorem ZjF(m:List Bool)(t:List Int):∀(k i:Nat),i<k->(Zan m t)[i]?=some true->(Zfx m t k)[cnt (Zan m t) i]?=some (ahead m ((t[i]?).getD 0))
 |k+1,i,h,hi=>by
  by_cases e:i=k;·subst e;rw[Zfx,if_pos hi,List.getElem?_append_right (by rw[ZbC];exact zL _),ZbC];simp
  ·have ih:=ZjF m t k i (by omega) hi;have hlt:cnt (Zan m t) i<(Zfx m t k).length:=by rw[ZbC];exact ZhV (by omega) hi
   rw[Zfx];split;·rw[List.getElem?_append_left hlt,ih]
   ·exact ih
noncomputable def gcH(h:Hp)(roots:List Int):Hp:=⟨Zfo h.cells (marks h.cells roots) h.cells.length,Zfx (marks h.cells roots) h.trail h.trail.length⟩
section
variable {h : Hp} {roots : List Int}
theorem ZfV(i:Nat)(hi:i<h.cells.length)(hr:Reach h.cells roots i):Zaa (gcH h roots).cells (cnt (marks h.cells roots) i)=adj (marks h.cells roots) (Zaa h.cells i):=by have h1:=ZjE h.cells (marks h.cells roots) h.cells.length i hi ((Zbk hi).2 hr);unfold Zaa;rw[Int.toNat_natCast];show((Zfo h.cells (marks h.cells roots) h.cells.length)[_]?).getD default=_;rw[h1];rfl
theorem Zlr{j:Nat}(hj:j<(gcH h roots).cells.length):∃i,i<h.cells.length/\Reach h.cells roots i/\cnt (marks h.cells roots) i=j:=by obtain⟨i,h1,h2,h3⟩:=ZfU h.cells.length j (by rw[<-Zbh h.cells];exact hj);exact⟨i,h1,(Zbk h1).1 h2,h3⟩
theorem ZhW{i:Nat}(hi:i<h.cells.length)(hr:Reach h.cells roots i):cnt (marks h.cells roots) i<(gcH h roots).cells.length:=by show _<(Zfo h.cells (marks h.cells roots) h.cells.length).length;rw[Zbh];exact ZhV hi ((Zbk hi).2 hr)
theorem Zes(hg:GoodC h.cells){i:Nat}(hi:i<h.cells.length)(hr:Reach h.cells roots i)(hk:(Zaa h.cells i).kind=3):∀d:Nat,(d:Int)<=(Zaa h.cells i).n->cnt (marks h.cells roots) (i+1+d)=cnt (marks h.cells roots) i+1+d/\(0<d->Reach h.cells roots (i+d))
 |0,_=>by rw[Nat.add_zero,Nat.add_zero,cnt,if_pos ((Zbk hi).2 hr)];exact⟨rfl,fun h=>absurd h (Nat.lt_irrefl _)⟩
 |d+1,hd=>by
  obtain⟨ih,_⟩:=Zes hg hi hr hk d (by omega);have h1:Reach h.cells roots (i+(d+1)):= .step hr (.inr ⟨hk,by omega,by omega⟩);refine⟨?_,fun _=>h1⟩;rw[show i+1+(d+1)=(i+1+d)+1 by omega,cnt,if_pos,ih];·omega
  ·rw[show i+1+d=i+(d+1)by omega];exact(Zbk (h1.lt hg)).2 h1
theorem ZjG(hg:h.Good):(gcH h roots).Good:=by
 obtain⟨g1,g2,g3,g4⟩:=hg;refine⟨fun j hj=>?_,fun j hj=>?_,?_,?_⟩
 ·obtain⟨i,hi,hr,rfl⟩:=Zlr hj;have h1:=ZfV (h:=h) i hi hr;rw[ZaC hj,ZaC hi]at h1;rw[h1];have h2:=g1 i hi;unfold Ce.OkAt at h2;unfold adj;rcases h2 with h2|h2|h2|h2
  ·rw[if_pos h2.1];obtain⟨k,hk⟩:=Int.eq_ofNat_of_zero_le h2.2.1;have hlead:Leads h.cells i k:= .inl (by rw[ZaC hi];exact⟨h2.1,hk⟩);have hr2:Reach h.cells roots k:= .step hr hlead;have :=ZhW (h:=h) (hr2.lt g1) hr2;refine .inl ⟨h2.1,?_,?_,h2.2.2.2⟩;·simp only[ahead];omega
   ·simp only[ahead,hk,Int.toNat_natCast];omega
  ·rw[if_neg (by omega)];exact .inr (.inl h2)
  ·rw[if_neg (by omega)];exact .inr (.inr (.inl h2))
  ·rw[if_neg (by omega)];refine .inr (.inr (.inr ⟨h2.1,h2.2.1,h2.2.2.1,?_,h2.2.2.2.2⟩));obtain⟨k,hk⟩:=Int.eq_ofNat_of_zero_le (show 0<=h.cells[i].n by omega);obtain⟨a1,a2⟩:=Zes (h:=h) g1 hi hr (by rw[ZaC hi];exact h2.1) (k - 1) (by rw[ZaC hi];omega);obtain⟨b1,b2⟩:=Zes (h:=h) g1 hi hr (by rw[ZaC hi];exact h2.1) k (by rw[ZaC hi];omega);have hr2:=b2 (by omega);have :=ZhW (h:=h) (hr2.lt g1) hr2;rw[show i+k=i+1+(k - 1)by omega,a1]at this;omega
 ·obtain⟨i,hi,hm,hc⟩:=ZfU h.trail.length j (by rw[<-ZbC];exact hj);have h1:=ZjF (marks h.cells roots) h.trail h.trail.length i hi hm;rw[hc]at h1;have h2:(gcH h roots).trail[j]?=some ((gcH h roots).trail[j]):=List.getElem?_eq_getElem hj;have h3:(gcH h roots).trail[j]?=some (ahead (marks h.cells roots) ((h.trail[i]?).getD 0)):=h1;rw[h3]at h2;simp only[Option.some.injEq]at h2;obtain⟨v,hv,hvl,hk⟩:=g2 i hi;rw[List.getElem?_eq_getElem hi,Option.getD_some,hv]at h2;simp only[Zan,List.getElem?_map,List.getElem?_eq_getElem hi,Option.map_some,hv,Int.toNat_natCast,Option.some.injEq]at hm;have hr:Reach h.cells roots v:=by refine(Zbk hvl).1 ?_;rw[List.getElem?_eq_getElem (by rw[ZfT];exact hvl)]at hm ⊢;rw[Option.getD_some]at hm;rw[hm]
  refine⟨cnt (marks h.cells roots) v,h2.symm,ZhW hvl hr,?_⟩;have h4:=ZfV (h:=h) v hvl hr;rw[ZaC (ZhW hvl hr),ZaC hvl]at h4;rw[h4];unfold adj;rw[if_pos hk];exact hk
 ·show(Zfo _ _ _).length<=_;rw[Zbh];have :=ZcA (marks h.cells roots) h.cells.length;omega
 ·show(Zfx _ _ _).length<=_;rw[ZbC];have :=ZcA (Zan (marks h.cells roots) h.trail) h.trail.length;omega
end
end Go.Proofs.YtlpmfkpefoegeacDoor
namespace Go.Proofs.YtlpmfkpefoegeacDoor
set_option maxRecDepth 100000
set_option maxHeartbeats 16000000
set_option linter.all false
open Go.RowKit
def ZhX(p:Prop)(r:Value)(_:World):Prop:=∃t,r= .bool t/\(t=true↔p)
def OkTo(l:List Ce)(j:Nat):Prop:=∀k(hk:k<l.length),k<j->(l[k]).OkAt l.length k
def OkTr(l:List Ce)(t:List Int)(j:Nat):Prop:=∀k(hk:k<t.length),k<j->∃v:Nat,t[k]=(v:Int)/\∃hv:v<l.length,(l[v]).kind=0
theorem OkTo.next{l:List Ce}{j:Nat}(h:OkTo l j)(hj:j<l.length)(ho:(l[j]).OkAt l.length j):OkTo l (j+1):=fun k hk hkj=>by
 by_cases e:k=j;·subst e;exact ho
 ·exact h k hk (by omega)
theorem OkTr.next{l:List Ce}{t:List Int}{j:Nat}(h:OkTr l t j)(hj:j<t.length)(ho:∃v:Nat,t[j]=(v:Int)/\∃hv:v<l.length,(l[v]).kind=0):OkTr l t (j+1):=fun k hk hkj=>by
 by_cases e:k=j;·subst e;exact ho
 ·exact h k hk (by omega)
theorem Zdk(h:Hp)(A:Nat->Prop)(w:World)(vs:List Value)(hh:Hp.rep A w h vs):Calls Tryd.prog 71 #[.agg vs.toArray] w (Pure w (ZhX h.Good)):=by
 obtain⟨a,cap,b,tap,rfl,hc1,hc2,hc3,ht1,ht2,ht3,hc,ht⟩:=Hp.rep2 hh;obtain⟨_,_,cb,coff,e, -, -, -,ha,he⟩:=hc.at;simp only[Value.slice.injEq,true_and]at e;obtain⟨rfl,rfl⟩:=e;obtain⟨_,_,tb,toff,e, -, -, -,hb,hf⟩:=ht.at;simp only[Value.slice.injEq,true_and]at e;obtain⟨rfl,rfl⟩:=e;have HE:=zh he;have HA:=zh ha;have HE':=zh hf;have HA':=zh hb;clear hh hc ht he ha hf hb;go_enter Tryd.func71,Tryd.ntmps71;go_wp2_with fail;go_loopw[10](fun i wr=>∃j:Nat,j<=h.cells.length/\i= .int .i64 j/\Below (w.heap.size+1) (w.alloc (.cells #[.slice a h.cells.length cap,.slice b h.trail.length tap] 82)) wr/\OkTo h.cells j)(fun i _=>h.cells.length - (intOf i).toNat);case atStart=>exact⟨0,Nat.zero_le _,rfl,zB _ _,fun k _ hk=>by omega⟩
 case round=>
  obtain⟨j,hj,rfl,hb,hpre⟩:=hrel;have HB:=zh hb;have HP:=zh hpre;have hz:=hb.size;simp only[World.size_alloc]at hz;have hz':w.heap.size<wr.heap.size:=hz;clear hb hpre;by_cases hlt:j<h.cells.length
  ·obtain⟨rfl,hAb⟩:=HA.o (by omega);have hk2:Keeps A w wr:=(Keeps.alloc _ _ _).trans (Keeps.ob (HB.o.mono (by simp)));obtain⟨c0,c1,c2,i0,i1,i2⟩:=ZbP HE.o hAb hk2 hlt;have f0:wr.cell? ⟨w.heap.size,0,none⟩=some (.slice (some ⟨cb,coff,none⟩) h.cells.length cap):=by rw[HB.o.cell (by simp)];simp
   clear hk2;have hlb:cb<wr.heap.size:=World.block_lt_of_cell? wr _ c0;go_wp2_with fail;all_goals
    first
     |
      (
       go_roundw;case rel=>refine⟨j+1,by omega,by go_num,HB.o.alloc hz _,HP.o.next hlt ?_⟩;clear HE HE' HA HA' HB HP;unfold Ce.OkAt;simp_all<;>omega
       case measure=>simp[intOf];omega)
     |(go_ret;refine⟨_,rfl,ZaA ((HB.o.alloc hz _).mono (by simp)),false,rfl,?_⟩;simp only[Bool.false_eq_true,false_iff];intro hg;have :=hg.1 j hlt;clear HE HE' HA HA' HB HP;unfold Ce.OkAt at this;simp_all<;>omega)
     |go_ways
  ·have hje:j=h.cells.length:=by omega
   have HJ:=zh hje;clear hje;have f0:wr.cell? ⟨w.heap.size,0,none⟩=some (.slice a h.cells.length cap):=by rw[HB.o.cell (by simp)];simp
   have f1:wr.cell? ⟨w.heap.size,1,none⟩=some (.slice b h.trail.length tap):=by rw[HB.o.cell (by simp)];simp
   obtain⟨w1,rfl⟩:∃x,x=wr:=⟨_,rfl⟩;go_wp2_with fail;go_loopw[80](fun i ws=>∃q:Nat,q<=h.trail.length/\i= .int .i64 q/\Below w1.heap.size w1 ws/\OkTr h.cells h.trail q)(fun i _=>h.trail.length - (intOf i).toNat);case atStart=>exact⟨0,Nat.zero_le _,rfl,zB _ _,fun k _ hk=>by omega⟩
   case round=>
    obtain⟨q,hq,rfl,hb,hpre⟩:=hrel;have f0':=bc hb f0;have f1':=bc hb f1;clear f0 f1;have HB2:=zh hb;have HP2:=zh hpre;have hzz:=hb.size;clear hb hpre;by_cases hlt2:q<h.trail.length
    ·obtain⟨rfl,hAb2⟩:=HA'.o (by omega);have hk2:Keeps A w wr:=((Keeps.alloc _ _ _).trans (Keeps.ob (HB.o.mono (by simp)))).trans (Keeps.ob HB2.o);have HK2:=zh hk2;obtain⟨d0,id0⟩:=ZcH HE'.o hAb2 hk2 hlt2;have hq0:(0:Int)<=(q:Int):=zN _;have hq1:(q:Int)<(h.trail.length:Int):=by omega
     clear hk2;by_cases hin:0<=h.trail[q]/\h.trail[q]<h.cells.length
     ·obtain⟨v,hv⟩:=Int.eq_ofNat_of_zero_le hin.1;have hvl:v<h.cells.length:=by omega
      have HV:=zh hv;rw[hv]at d0;clear hv hin id0;obtain⟨rfl,hAb⟩:=HA.o (by omega);obtain⟨c0,c1,c2,i0,i1,i2⟩:=ZbP HE.o hAb HK2.o hvl;have hv0:(0:Int)<=(v:Int):=zN _;have hv1:(v:Int)<(h.cells.length:Int):=by omega
      go_wp2_with fail;all_goals
       first
        |
         (
          go_roundw;case rel=>refine⟨q+1,by omega,by go_num,HB2.o,HP2.o.next hlt2 ⟨v,HV.o,hvl,?_⟩⟩;clear HE HE' HA HA' HB HP HK2 HB2 HP2 HV HJ;simp_all<;>omega
          case measure=>simp[intOf];omega)
        |
         (
          go_ret;refine⟨_,rfl,ZaA ((HB.o.trans (HB2.o.mono hz)).mono (by simp)),false,rfl,?_⟩;simp only[Bool.false_eq_true,false_iff];intro hg;obtain⟨v',e1,e2,e3⟩:=hg.2.1 q hlt2;obtain rfl:v'=v:=by have :=HV.o;omega
          clear HE HE' HA HA' HB HP HK2 HB2 HP2 HV HJ;simp_all<;>omega)
        |go_ways
     ·go_wp2_with fail;all_goals go_ret;refine⟨_,rfl,ZaA ((HB.o.trans (HB2.o.mono hz)).mono (by simp)),false,rfl,?_⟩;simp only[Bool.false_eq_true,false_iff];intro hg;obtain⟨v',e1,e2,e3⟩:=hg.2.1 q hlt2;omega
    ·go_wp2_with fail;all_goals go_ret;refine⟨_,rfl,ZaA ((HB.o.trans (HB2.o.mono hz)).mono (by simp)),_,rfl,?_⟩;have :=HJ.o;refine Iff.trans (b:=h.cells.length<=65536/\h.trail.length<=65536) ?_ ⟨fun h1=>⟨fun i hi=>HP.o i hi (by omega),fun i hi=>HP2.o i hi (by omega),h1.1,h1.2⟩,fun hg=>hg.2.2⟩;simp<;>omega
end Go.Proofs.YtlpmfkpefoegeacDoor
