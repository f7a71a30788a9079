import Derived.Test.YtlpmfkpefoegeacDoorQTerm
namespace Go.Proofs.YtlpmfkpefoegeacDoor
set_option maxRecDepth 100000
set_option maxHeartbeats 16000000
set_option linter.all false
abbrev Str:=List UInt8
def bs(l:Str):ByteArray:=⟨l.toArray⟩
def spB(c:UInt8):Bool:=c==32||c==10||c==9||c==13
def Zba(c:UInt8):Bool:=decide (97<=c.toNat)&&decide (c.toNat<=122)
def upB(c:UInt8):Bool:=decide (65<=c.toNat)&&decide (c.toNat<=90)
def ZaR(c:UInt8):Bool:=decide (48<=c.toNat)&&decide (c.toNat<=57)
def lows(s:Str):Nat:=(s.takeWhile Zba).length
def digs(s:Str):Nat:=(s.takeWhile ZaR).length
def Zad(s:Str):Str:=s.dropWhile spB
def tmz:Tm:= .mk 0 0 ⟨#[]⟩ []
structure Rd where
  s : Str
  vars : List Str
  bad : Bool
def Rd.space(r:Rd):Rd:={r with s:=Zad r.s}
def Rd.kill(r:Rd):Rd:={r with bad:=true}
def Rd.at_(sign:Str)(r:Rd):Bool×Rd:=if sign <+: Zad r.s then(true,{r with s:=(Zad r.s).drop sign.length})else(false,r.space)
def Zac:Str->Nat|[]=>0|c::r=>if Zba c||upB c then 1+lows r else 0
def Zaf:Str->Nat|[]=>0|c::r=>if c=45 then 1+digs r else digs (c::r)
def Zc6(d:Str):Int:=d.foldl (fun(n:Int)(c:UInt8)=>10*n+((c.toNat:Int) - 48)) 0
def Zaq(t:Str):Str:=if t.head?=some 45 then t.tail else t
def Za3(t:Str):Option Int:=if Zaq t=[]\/(Zaq t).length>13\/((Zaq t).head?=some 48/\t≠[48])then none else if Zc6 (Zaq t)>1099511627776 then none else some (if Zaq t=t then Zc6 (Zaq t)else - Zc6 (Zaq t))
def Zel(vars:List Str)(w:Str):Int×List Str:=if w∈vars then((vars.idxOf w:Nat),vars)else((vars.length:Nat),vars++[w])
def ZaI(f:Rd->Tm×Rd):Nat->List Tm->Rd->List Tm×Rd|0,l,r=>(l,r)|k+1,l,r=>if(f r).2.bad then(l++[(f r).1],(f r).2)else if((f r).2.at_ [44]).1 then ZaI f k (l++[(f r).1]) ((f r).2.at_ [44]).2 else(l++[(f r).1],((f r).2.at_ [44]).2)
def Zce(f:Rd->Tm×Rd)(w:Str)(r:Rd):Tm×Rd:=if(r.at_ [40]).1=false then(.mk 1 0 (bs w) [],(r.at_ [40]).2)else let l:=ZaI f ((r.at_ [40]).2.s.length+1) [] (r.at_ [40]).2;(.mk 3 0 (bs w) l.1,if(l.2.at_ [41]).1 then(l.2.at_ [41]).2 else(l.2.at_ [41]).2.kill)
def Zb2(f:Rd->Tm×Rd)(c:UInt8)(rest:Str)(vars:List Str):Tm×Rd:=if upB c then(.mk 0 (Zel vars ((c::rest).take (Zac (c::rest)))).1 ⟨#[]⟩ [],⟨(c::rest).drop (Zac (c::rest)),(Zel vars ((c::rest).take (Zac (c::rest)))).2,false⟩)else if c=33 then(.mk 1 0 (bs [33]) [],⟨rest,vars,false⟩)else if c=45\/ZaR c=true then match Za3 ((c::rest).take (Zaf (c::rest)))with|some k=>(.mk 2 k ⟨#[]⟩ [],⟨(c::rest).drop (Zaf (c::rest)),vars,false⟩)|none=>(.mk 2 0 ⟨#[]⟩ [],⟨c::rest,vars,true⟩)else Zce f ((c::rest).take (Zac (c::rest))) ⟨(c::rest).drop (Zac (c::rest)),vars,false⟩
def Zap:Nat->Rd->Tm×Rd|0,r=>(tmz,r.space.kill)|n+1,r=>if r.bad then(tmz,r.space.kill)else match Zad r.s with|[]=>(tmz,r.space.kill)|c::rest=>Zb2 (Zap n) c rest r.vars
/-! the parser -/
structure Ps where
  l : List Str
  vars : List Str
  bad : Bool
def Ps.kill(p:Ps):Ps:={p with bad:=true}
def Ps.take(w:Str)(p:Ps):Bool×Ps:=match p.l with|[]=>(false,p)|x::l=>if x=w then(true,{p with l:=l})else(false,p)
def Zax(f:Ps->Tm×Ps):Nat->List Tm->Ps->List Tm×Ps|0,l,p=>(l,p)|k+1,l,p=>if p.bad then(l,p)else if(p.take [44]).1=false then(l,p)else Zax f k (l++[(f (p.take [44]).2).1]) (f (p.take [44]).2).2
def ZcH(f:Ps->Tm×Ps)(w:Str)(p:Ps):Tm×Ps:=if(p.take [40]).1=false then(.mk 1 0 (bs w) [],p)else let t:=f (p.take [40]).2;let l:=Zax f (t.2.l.length+1) [t.1] t.2;(.mk 3 0 (bs w) l.1,if l.2.bad then l.2 else if(l.2.take [41]).1 then(l.2.take [41]).2 else l.2.kill)
def ZcI(f:Ps->Tm×Ps)(c:UInt8)(w:Str)(p:Ps):Tm×Ps:=if c::w=[33]then(.mk 1 0 (bs [33]) [],p)else if upB c then(.mk 0 (Zel p.vars (c::w)).1 ⟨#[]⟩ [],{p with vars:=(Zel p.vars (c::w)).2})else if c=45\/ZaR c=true then match Za3 (c::w)with|some k=>(.mk 2 k ⟨#[]⟩ [],p)|none=>(.mk 2 0 ⟨#[]⟩ [],p.kill)else ZcH f (c::w) p
def Zah:Nat->Ps->Tm×Ps|0,p=>(tmz,p.kill)|n+1,p=>match p.l with|[]=>(tmz,p.kill)|[]::_=>(tmz,p.kill)|(c::w)::l=>if Zba c=false/\upB c=false/\ZaR c=false/\c≠45/\c::w≠[33]then(tmz,p.kill)else ZcI (Zah n) c w {p with l:=l}
def Zam:Str->Nat|[]=>0|c::r=>if Zba c||upB c then 1+lows r else if ZaR c||c==45 then 1+digs r else if c=58/\r.head?=some 45 then 2 else if c=40\/c=41\/c=44\/c=46\/c=33 then 1 else 0
def Zbm:Nat->Str->List Str|0,_=>[]|n+1,s=>match s with|[]=>[]|c::r=>if spB c then Zbm n r else if Zam (c::r)=0 then[[]]else(c::r).take (Zam (c::r))::Zbm n ((c::r).drop (Zam (c::r)))
def words(s:Str):List Str:=Zbm s.length s
theorem Zbs:∀(n m:Nat)(s:Str),s.length<=n->s.length<=m->Zbm n s=Zbm m s
 |0,0,s,_,_=>rfl
 |0,m+1,[],_,_=>rfl
 |n+1,0,[],_,_=>rfl
 |n+1,m+1,[],_,_=>rfl
 |n+1,m+1,c::r,h1,h2=>by
  simp only[List.length_cons]at h1 h2;simp only[Zbm];rw[Zbs n m r (by omega) (by omega)];split;·rfl
  ·split;·rfl
   ·rename_i h;rw[Zbs n m _ (by simp only[List.length_drop,List.length_cons];omega) (by simp only[List.length_drop,List.length_cons];omega)]
 |0,_+1,_::_,h,_=>by simp at h
 |_+1,0,_::_,_,h=>by simp at h
theorem Zbn:words []=[]:=rfl
theorem ZcR{c:UInt8}{r:Str}(h:spB c=true):words (c::r)=words r:=by unfold words;simp only[List.length_cons,Zbm,h,if_true]
theorem ZbC{c:UInt8}{r:Str}(h:spB c=false)(h0:Zam (c::r)=0):words (c::r)=[[]]:=by unfold words;simp only[List.length_cons,Zbm,h,h0,if_true,Bool.false_eq_true,if_false]
theorem Zbo{c:UInt8}{r:Str}(h:spB c=false)(h0:Zam (c::r)≠0):words (c::r)=(c::r).take (Zam (c::r))::words ((c::r).drop (Zam (c::r))):=by unfold words;simp only[List.length_cons,Zbm,h,h0,Bool.false_eq_true,if_false];rw[Zbs _ _ _ (by simp only[List.length_drop,List.length_cons];omega) (zL _)]
theorem ZaS:∀(s:Str),words (Zad s)=words s
 |[]=>rfl
 |c::r=>by
  unfold Zad;rw[List.dropWhile_cons];split;·rename_i h;rw[ZcR h];exact ZaS r
  ·rfl
theorem Zbt{s:Str}{c:UInt8}{r:Str}(h:Zad s=c::r):spB c=false:=by
 induction s with
  |nil=>simp[Zad]at h
  |cons x s ih=>
   unfold Zad at h ih;rw[List.dropWhile_cons]at h;split at h;·exact ih h
   ·rename_i hx;simp only[List.cons.injEq]at h;obtain⟨rfl, -⟩:=h;simpa using hx
theorem Zbe(s:Str):Zad (Zad s)=Zad s:=by cases h:Zad s with|nil=>rfl|cons c r=>have :=Zbt h;unfold Zad;rw[List.dropWhile_cons,this];simp
theorem ZaH(s:Str):(Zad s).length<=s.length:=by unfold Zad;exact(List.dropWhile_sublist _).length_le
theorem words_eq_nil{s:Str}:words s=[]↔Zad s=[]:=by
 rw[<-ZaS];cases h:Zad s with
  |nil=>simp[Zbn]
  |cons c r=>
   have hc:=Zbt h;by_cases h0:Zam (c::r)=0;·rw[ZbC hc h0];simp
   ·rw[Zbo hc h0];simp
theorem ZdB{s:Str}{t:Str}{l:List Str}(h:words s=t::l):t=[]\/∃s',Zad s=t++s'/\words s'=l:=by
 rw[<-ZaS]at h;cases hs:Zad s with
  |nil=>rw[hs,Zbn]at h;cases h
  |cons c r=>
   have hc:=Zbt hs;rw[hs]at h;by_cases h0:Zam (c::r)=0;·rw[ZbC hc h0]at h;simp only[List.cons.injEq]at h;exact .inl h.1.symm
   ·rw[Zbo hc h0]at h;simp only[List.cons.injEq]at h;refine .inr ⟨_,?_,h.2⟩;rw[<-h.1,List.take_append_drop]
def IsSign(sg:Str):Prop:=sg=[40]\/sg=[41]\/sg=[44]\/sg=[46]\/sg=[58,45]
theorem IsSign.tok{sg:Str}(h:IsSign sg)(s:Str):∃c r,sg=c::r/\spB c=false/\Zam (sg++s)=sg.length/\sg.length≠0:=by
 rcases h with rfl|rfl|rfl|rfl|rfl;·exact⟨40,[],rfl,by decide,by simp[Zam,Zba,upB,ZaR],by simp⟩
 ·exact⟨41,[],rfl,by decide,by simp[Zam,Zba,upB,ZaR],by simp⟩
 ·exact⟨44,[],rfl,by decide,by simp[Zam,Zba,upB,ZaR],by simp⟩
 ·exact⟨46,[],rfl,by decide,by simp[Zam,Zba,upB,ZaR],by simp⟩
 ·exact⟨58,[45],rfl,by decide,by simp[Zam,Zba,upB,ZaR],by simp⟩
theorem Zfz{sg:Str}(h:IsSign sg)(r:Rd):(((r.at_ sg).1=true/\words r.s=sg::words (r.at_ sg).2.s)\/((r.at_ sg).1=false/\words (r.at_ sg).2.s=words r.s/\∀l,words r.s≠sg::l))/\(r.at_ sg).2.vars=r.vars/\(r.at_ sg).2.bad=r.bad:=by
 unfold Rd.at_;split
 ·rename_i hp;refine⟨.inl ⟨rfl,?_⟩,rfl,rfl⟩;obtain⟨s',hs'⟩:=hp;obtain⟨c,q,e,hc,ht,h0⟩:=h.tok s';rw[<-ZaS,<-hs'];have hcc:sg++s'=c::(q++s'):=by rw[e];rfl
  rw[hcc,Zbo hc (by rw[<-hcc,ht];exact h0),<-hcc,ht];simp
 ·rename_i hp;refine⟨.inr ⟨rfl,ZaS _,fun l hl=>?_⟩,rfl,rfl⟩;rcases ZdB hl with rfl|⟨s',hs, -⟩;·obtain⟨c,q,e, -⟩:=h.tok [];cases e
  ·exact hp ⟨s',hs.symm⟩
theorem ZaY{sg:Str}(r:Rd):(r.at_ sg).2.s.length<=r.s.length/\((r.at_ sg).1=true->(r.at_ sg).2.s.length+sg.length<=r.s.length):=by
 have :=ZaH r.s;unfold Rd.at_;split;·rename_i hp;have :=hp.length_le;simp only[List.length_drop];exact⟨by omega,fun _=>by omega⟩
 ·exact⟨this,by simp⟩
theorem Zgk{sg:Str}(r:Rd):(r.at_ sg).2.bad=r.bad:=by unfold Rd.at_;split<;>rfl
theorem ZdZ{f:Rd->Tm×Rd}(hf:∀r,(f r).2.s.length<=r.s.length):∀(k:Nat)(l:List Tm)(r:Rd),(ZaI f k l r).2.s.length<=r.s.length
 |0,l,r=>zL _
 |k+1,l,r=>by
  rw[ZaI];have h1:=hf r;have h2:=(ZaY (sg:=[44]) (f r).2).1;split;·exact h1
  ·split;·have :=ZdZ hf k (l++[(f r).1]) ((f r).2.at_ [44]).2;omega
   ·simp only;omega
theorem Zb3(n:Nat)(s:Str):(s.drop n).length<=s.length:=by simp
theorem ZfA{f:Rd->Tm×Rd}(hf:∀r,(f r).2.s.length<=r.s.length)(w:Str)(r:Rd):(Zce f w r).2.s.length<=r.s.length:=by
 unfold Zce;have h1:=(ZaY (sg:=[40]) r).1;split;·exact h1
 ·simp only;have h2:=ZdZ hf ((r.at_ [40]).2.s.length+1) [] (r.at_ [40]).2;have h3:=(ZaY (sg:=[41]) (ZaI f ((r.at_ [40]).2.s.length+1) [] (r.at_ [40]).2).2).1;split;·omega
  ·simp only[Rd.kill];omega
theorem ZfB{f:Rd->Tm×Rd}(hf:∀r,(f r).2.s.length<=r.s.length)(c:UInt8)(rest:Str)(vars:List Str):(Zb2 f c rest vars).2.s.length<=rest.length+1:=by
 unfold Zb2;split;·have :=Zb3 (Zac (c::rest)) (c::rest);simp only[List.length_cons]at this ⊢;omega
 ·split;·simp only;omega
  ·split
   ·split;·have :=Zb3 (Zaf (c::rest)) (c::rest);simp only[List.length_cons]at this ⊢;omega
    ·simp
   ·have h1:=ZfA hf ((c::rest).take (Zac (c::rest))) ⟨(c::rest).drop (Zac (c::rest)),vars,false⟩;have h2:=Zb3 (Zac (c::rest)) (c::rest);simp only[List.length_cons]at h1 h2 ⊢;omega
theorem Zbg:∀(n:Nat)(r:Rd),(Zap n r).2.s.length<=r.s.length
 |0,r=>ZaH _
 |n+1,r=>by
  have h0:=ZaH r.s;unfold Zap;split;·exact h0
  ·split;·exact h0
   ·rename_i c rest hs;have :=ZfB (Zbg n) c rest r.vars;rw[hs]at h0;simp only[List.length_cons]at h0;omega
inductive Ill : Tm → Prop where
  | name (k n : Int) (l : List Tm) (h : k = 1 ∨ k = 3) : Ill (.mk k n (bs []) l)
  | arg (k n : Int) (s : ByteArray) (l : List Tm) (t : Tm) (ht : t ∈ l) (h : Ill t) : Ill (.mk k n s l)
theorem Zd0{f:Rd->Tm×Rd}:∀(k:Nat)(l:List Tm)(r:Rd),(∃t∈l,Ill t)->∃t∈(ZaI f k l r).1,Ill t
 |0,l,r,h=>h
 |k+1,l,r,⟨t,ht,hi⟩=>by
  rw[ZaI];split;·exact⟨t,by simp[ht],hi⟩
  ·split;·exact Zd0 k _ _ ⟨t,by simp[ht],hi⟩
   ·exact⟨t,by simp[ht],hi⟩
structure Corr (r : Rd) (p : Ps) : Prop where
  rb : r.bad = false
  pb : p.bad = false
  vars : p.vars = r.vars
  l : p.l = words r.s
def Zgw(x:Tm×Rd)(y:Tm×Ps):Prop:=(x.1=y.1/\Corr x.2 y.2)\/(y.2.bad=true/\(x.2.bad=true\/Ill x.1))
theorem Zbp{sg:Str}(h:IsSign sg){r:Rd}{p:Ps}(hc:Corr r p):(p.take sg).1=(r.at_ sg).1/\Corr (r.at_ sg).2 (p.take sg).2:=by
 obtain⟨h1,h2,h3⟩:=Zfz h r;unfold Ps.take;rcases h1 with⟨h1,hw⟩|⟨h1,hw,hn⟩;·rw[hc.l,hw,h1];simp only[if_true];exact⟨trivial,by rw[h3];exact hc.rb,hc.pb,by rw[h2];exact hc.vars,rfl⟩
 ·rw[h1];rw[hc.l];cases hs:words r.s with|nil=>exact⟨rfl,by rw[h3];exact hc.rb,hc.pb,by rw[h2];exact hc.vars,by rw[hw,hs,hc.l,hs]⟩|cons x l=>simp only;rw[if_neg (fun e=>hn l (by rw[hs,e]))];exact⟨rfl,by rw[h3];exact hc.rb,hc.pb,by rw[h2];exact hc.vars,by rw[hw,hc.l]⟩
theorem ZaD{sg:Str}(p:Ps):(p.take sg).2.l.length<=p.l.length/\((p.take sg).1=true->(p.take sg).2.l.length<p.l.length):=by
 unfold Ps.take;split;·simp_all
 ·rename_i x l h;split<;>simp_all
theorem comma:IsSign [44]:= .inr (.inr (.inl rfl))
theorem opens:IsSign [40]:= .inl rfl
theorem closes:IsSign [41]:= .inr (.inl rfl)
theorem dot:IsSign [46]:= .inr (.inr (.inr (.inl rfl)))
theorem neck:IsSign [58,45]:= .inr (.inr (.inr (.inr rfl)))
theorem Zcl(s:Str):(words s).length<=s.length:=by
 suffices h:∀(n:Nat)(s:Str),s.length<=n->(words s).length<=s.length from h _ s (zL _);intro n;induction n with
  |zero=>intro s hs;have :s=[]:=List.eq_nil_of_length_eq_zero (by omega);subst this;simp[Zbn]
  |succ n ih=>
   intro s hs;cases s with
    |nil=>simp[Zbn]
    |cons c r=>
     simp only[List.length_cons]at hs ⊢;by_cases hc:spB c=true;·rw[ZcR hc];have :=ih r (by omega);omega
     ·by_cases h0:Zam (c::r)=0;·rw[ZbC (by simpa using hc) h0];simp
      ·rw[Zbo (by simpa using hc) h0];have h1:((c::r).drop (Zam (c::r))).length<=r.length:=by simp only[List.length_drop,List.length_cons];omega
       have :=ih ((c::r).drop (Zam (c::r))) (by omega);simp only[List.length_cons];omega
theorem Zcm{g:Ps->Tm×Ps}(hg:∀p,(g p).2.l.length<=p.l.length):∀(k:Nat)(l:List Tm)(p:Ps),(Zax g k l p).2.l.length<=p.l.length
 |0,l,p=>zL _
 |k+1,l,p=>by
  rw[Zax];have h1:=(ZaD (sg:=[44]) p).1;have h2:=hg (p.take [44]).2;split;·exact zL _
  ·split;·exact zL _
   ·have :=Zcm hg k (l++[(g (p.take [44]).2).1]) (g (p.take [44]).2).2;omega
theorem ZeP{g:Ps->Tm×Ps}(hg:∀p,(g p).2.l.length<=p.l.length)(w:Str)(p:Ps):(ZcH g w p).2.l.length<=p.l.length:=by
 unfold ZcH;split;·exact zL _
 ·simp only;have h1:=(ZaD (sg:=[40]) p).1;have h2:=hg (p.take [40]).2;have h3:=Zcm hg ((g (p.take [40]).2).2.l.length+1) [(g (p.take [40]).2).1] (g (p.take [40]).2).2;have h4:=(ZaD (sg:=[41]) (Zax g ((g (p.take [40]).2).2.l.length+1) [(g (p.take [40]).2).1] (g (p.take [40]).2).2).2).1;split;·omega
  ·split;·omega
   ·simp only[Ps.kill];omega
theorem ZeQ{g:Ps->Tm×Ps}(hg:∀p,(g p).2.l.length<=p.l.length)(c:UInt8)(w:Str)(p:Ps):(ZcI g c w p).2.l.length<=p.l.length:=by
 unfold ZcI;split;·exact zL _
 ·split;·exact zL _
  ·split;·split<;>exact zL _
   ·exact ZeP hg _ _
theorem ZaJ:∀(n:Nat)(p:Ps),(Zah n p).2.l.length<=p.l.length
 |0,p=>zL _
 |n+1,p=>by
  unfold Zah;split;·exact zL _
  ·exact zL _
  ·rename_i c w l h;rw[h];split;·simp only[Ps.kill,h];exact zL _
   ·have :=ZeQ (ZaJ n) c w {p with l:=l};simp only[List.length_cons]at this ⊢;omega
theorem Zd1{f:Rd->Tm×Rd}{g:Ps->Tm×Ps}(hfg:∀r p,Corr r p->Zgw (f r) (g p))(hlr:∀r,(f r).2.s.length<=r.s.length)(hlp:∀p,(g p).2.l.length<=p.l.length):∀(k kp:Nat)(l:List Tm)(r:Rd)(p:Ps),Corr r p->r.s.length<k->(g p).2.l.length<kp->((ZaI f k l r).1=(Zax g kp (l++[(g p).1]) (g p).2).1/\Corr (ZaI f k l r).2 (Zax g kp (l++[(g p).1]) (g p).2).2)\/((Zax g kp (l++[(g p).1]) (g p).2).2.bad=true/\((ZaI f k l r).2.bad=true\/∃t∈(ZaI f k l r).1,Ill t))
 |0,kp,l,r,p,hc,hk,hkp=>by omega
 |k+1,0,l,r,p,hc,hk,hkp=>by omega
 |k+1,kp+1,l,r,p,hc,hk,hkp=>by
  rw[ZaI];rcases hfg r p hc with⟨he,hc'⟩|⟨hb,hd⟩
  ·have eP:Zax g (kp+1) (l++[(g p).1]) (g p).2=if((g p).2.take [44]).1=false then(l++[(g p).1],(g p).2)else Zax g kp ((l++[(g p).1])++[(g ((g p).2.take [44]).2).1]) (g ((g p).2.take [44]).2).2:=by rw[Zax,if_neg (by rw[hc'.pb];simp)]
   rw[eP,if_neg (by rw[hc'.rb];simp)];obtain⟨e1,hc2⟩:=Zbp comma hc';have hlt:=ZaY (sg:=[44]) (f r).2;have hl0:=hlr r;rw[e1];cases ha:((f r).2.at_ [44]).1 with
    |false=>
     simp only[if_true,Bool.false_eq_true,if_false];left;refine⟨by rw[he],?_⟩;have :(g p).2=((g p).2.take [44]).2:=by
      have h9:=e1.trans ha;unfold Ps.take at h9 ⊢;split;·rfl
      ·rename_i x l2 hx;rw[hx]at h9;simp only at h9 ⊢;split;·rename_i hy;rw[if_pos hy]at h9;cases h9
       ·rfl
     rw[this];exact hc2
    |true=>simp only[if_true,Bool.true_eq_false,if_false];rw[he];have h5:=hlt.2 ha;simp only[List.length_singleton]at h5;have h6:=(ZaD (sg:=[44]) (g p).2).2 (e1.trans ha);have h7:=hlp ((g p).2.take [44]).2;exact Zd1 hfg hlr hlp k kp (l++[(g p).1]) _ _ hc2 (by omega) (by omega)
  ·right;rw[Zax,if_pos hb];refine⟨hb,?_⟩;rcases hd with hd|hd;·rw[if_pos hd];exact .inl hd
   ·split;·exact .inr ⟨_,by simp,hd⟩
    ·split;·exact .inr (Zd0 k _ _ ⟨_,by simp,hd⟩)
     ·exact .inr ⟨_,by simp,hd⟩
theorem ZaO{sg:Str}{p:Ps}(h:(p.take sg).1=false):(p.take sg).2=p:=by
 unfold Ps.take at h ⊢;split;·rfl
 ·rename_i x l2 hx;rw[hx]at h;simp only at h ⊢;split;·rename_i hy;rw[if_pos hy]at h;cases h
  ·rfl
theorem ZfC{f:Rd->Tm×Rd}{g:Ps->Tm×Ps}(hfg:∀r p,Corr r p->Zgw (f r) (g p))(hlr:∀r,(f r).2.s.length<=r.s.length)(hlp:∀p,(g p).2.l.length<=p.l.length)(w:Str)(r:Rd)(p:Ps)(hc:Corr r p):Zgw (Zce f w r) (ZcH g w p):=by
 obtain⟨e1,hc2⟩:=Zbp opens hc;unfold Zce ZcH;rw[<-e1];cases ha:(p.take [40]).1 with
  |false=>rw[ZaO ha]at hc2;simp only[if_true];exact .inl ⟨rfl,hc2⟩
  |true=>
   simp only[Bool.true_eq_false,if_false];rcases Zd1 hfg hlr hlp ((r.at_ [40]).2.s.length+1) ((g (p.take [40]).2).2.l.length+1) [] _ _ hc2 (by omega) (by omega)with⟨h1,h2⟩|⟨h1,h2⟩
   ·rw[List.nil_append]at h1 h2;generalize ZaI f ((r.at_ [40]).2.s.length+1) [] (r.at_ [40]).2=X at*;generalize Zax g ((g (p.take [40]).2).2.l.length+1) [(g (p.take [40]).2).1] (g (p.take [40]).2).2=Y at*;obtain⟨e3,hc3⟩:=Zbp closes h2;rw[e3];have hb2:¬Y.2.bad=true:=by rw[h2.pb];simp
    simp only[hb2,if_false];by_cases ha3:(X.2.at_ [41]).1=true;·simp only[ha3,if_true];exact .inl ⟨by rw[h1],hc3⟩
    ·simp only[ha3,if_false];exact .inr ⟨rfl,.inl rfl⟩
   ·rw[List.nil_append]at h1;generalize ZaI f ((r.at_ [40]).2.s.length+1) [] (r.at_ [40]).2=X at*;generalize Zax g ((g (p.take [40]).2).2.l.length+1) [(g (p.take [40]).2).1] (g (p.take [40]).2).2=Y at*;have eY:(if Y.2.bad=true then Y.2 else if(Y.2.take [41]).1=true then(Y.2.take [41]).2 else Y.2.kill)=Y.2:=if_pos h1;rw[eY];refine .inr ⟨h1,?_⟩;rcases h2 with h2|⟨t,ht,hi⟩
    ·left;split;·exact(Zgk _).trans h2
     ·rfl
    ·exact .inr (.arg _ _ _ _ t ht hi)
theorem Zd2(f:Rd->Tm×Rd)(r:Rd):Ill (Zce f [] r).1:=by
 unfold Zce;split;·exact .name _ _ _ (.inl rfl)
 ·exact .name _ _ _ (.inr rfl)
theorem Zbu(c:UInt8)(r:Str):Zam (c::r)=if Zba c||upB c then 1+lows r else if ZaR c||c==45 then 1+digs r else if c=58/\r.head?=some 45 then 2 else if c=40\/c=41\/c=44\/c=46\/c=33 then 1 else 0:=rfl
theorem ZaT(c:UInt8)(r:Str):Zac (c::r)=if Zba c||upB c then 1+lows r else 0:=rfl
theorem ZcK{c:UInt8}{rest:Str}(h:c=45\/ZaR c=true):Zaf (c::rest)=1+digs rest:=by
 unfold Zaf;by_cases h':c=45;·simp only[h',if_true]
 ·have hd:ZaR c=true:=h.resolve_left h';simp only[h',if_false];unfold digs;rw[List.takeWhile_cons,hd];simp only[if_true,List.length_cons];omega
theorem ZeR(c:UInt8):((Zba c||upB c)=true->c≠33/\c≠45/\ZaR c=false/\spB c=false)/\(c=45\/ZaR c=true->c≠33/\Zba c=false/\upB c=false/\spB c=false)/\(upB c=true->Zba c=false):=by
 have hsp:∀n:UInt8,(c==n)=decide (c.toNat=n.toNat):=fun n=>by rw[Bool.eq_iff_iff,beq_iff_eq,decide_eq_true_eq,UInt8.toNat_inj]
 have hne:∀n:UInt8,c≠n↔c.toNat≠n.toNat:=fun n=>by rw[Ne,Ne,UInt8.toNat_inj]
 have heq:∀n:UInt8,c=n↔c.toNat=n.toNat:=fun n=>by rw[UInt8.toNat_inj]
 unfold spB Zba upB ZaR;simp only[hsp,hne,heq,Bool.or_eq_true,Bool.and_eq_true,decide_eq_true_eq,Bool.or_eq_false_iff,Bool.and_eq_false_iff,decide_eq_false_iff_not];have e1:(33:UInt8).toNat=33:=rfl;have e2:(45:UInt8).toNat=45:=rfl;have e3:(32:UInt8).toNat=32:=rfl;have e4:(10:UInt8).toNat=10:=rfl;have e5:(9:UInt8).toNat=9:=rfl;have e6:(13:UInt8).toNat=13:=rfl;rw[e1,e2,e3,e4,e5,e6];omega
theorem ZfD{f:Rd->Tm×Rd}{g:Ps->Tm×Ps}(hfg:∀r p,Corr r p->Zgw (f r) (g p))(hlr:∀r,(f r).2.s.length<=r.s.length)(hlp:∀p,(g p).2.l.length<=p.l.length)(c:UInt8)(rest:Str)(vars:List Str)(hsp:spB c=false)(htok:Zam (c::rest)≠0)(l:List Str)(w:Str)(hw:(c::rest).take (Zam (c::rest))=c::w)(hl:l=words ((c::rest).drop (Zam (c::rest))))(hg:¬(Zba c=false/\upB c=false/\ZaR c=false/\c≠45/\c::w≠[33])):Zgw (Zb2 f c rest vars) (ZcI g c w ⟨l,vars,false⟩):=by
 obtain⟨k1,k2,k3⟩:=ZeR c;unfold Zb2 ZcI;by_cases hU:(Zba c||upB c)=true
 ·obtain⟨n33,n45,nd, -⟩:=k1 hU;have ht:Zam (c::rest)=Zac (c::rest):=by rw[Zbu,ZaT,if_pos hU,if_pos hU]
  rw[if_neg (show ¬c::w=[33]from fun e=>n33 (by simp only[List.cons.injEq]at e;exact e.1))];rw[ht]at hw hl;by_cases hu:upB c=true;·rw[if_pos hu,if_pos hu,hw];exact .inl ⟨rfl,rfl,rfl,rfl,hl⟩
  ·rw[if_neg hu,if_neg hu,if_neg n33,if_neg (by simp[n45,nd]),if_neg (by simp[n45,nd]),hw];exact ZfC hfg hlr hlp _ _ _ ⟨rfl,rfl,rfl,hl⟩
 ·have hU':Zba c=false/\upB c=false:=by simpa using hU
  have hu:¬upB c=true:=by simp[hU'.2]
  rw[if_neg hu];by_cases hN:c=45\/ZaR c=true
  ·obtain⟨n33, -⟩:=k2 hN;have ht:Zam (c::rest)=Zaf (c::rest):=by rw[ZcK hN,Zbu,if_neg hU,if_pos (by simp;exact hN.symm)]
   rw[ht]at hw hl;rw[if_neg n33,if_pos hN,if_neg (show ¬c::w=[33]from fun e=>n33 (by simp only[List.cons.injEq]at e;exact e.1)),if_neg hu,if_pos hN,hw];cases Za3 (c::w)with|none=>exact .inr ⟨rfl,.inl rfl⟩|some k=>exact .inl ⟨rfl,rfl,rfl,rfl,hl⟩
  ·have hN':c≠45/\ZaR c=false:=by
    constructor;·exact fun e=>hN (.inl e)
    ·simpa using fun e=>hN (.inr e)
   have e33:c::w=[33]:=Classical.byContradiction fun hh=>hg ⟨hU'.1,hU'.2,hN'.2,hN'.1,hh⟩;obtain⟨rfl,rfl⟩:c=33/\w=[]:=by simpa using e33
   rw[if_pos rfl,if_pos rfl];have ht:Zam (33::rest)=1:=by simp[Zam,Zba,upB,ZaR]
   rw[ht]at hl;exact .inl ⟨rfl,rfl,rfl,rfl,by rw[hl];rfl⟩
theorem ZcS:∀(n:Nat)(r:Rd)(p:Ps),Corr r p->Zgw (Zap n r) (Zah n p)
 |0,r,p,hc=> .inr ⟨rfl,.inl rfl⟩
 |n+1,r,p,hc=>by
  have e0:Zap (n+1) r=match Zad r.s with|[]=>(tmz,r.space.kill)|c::rest=>Zb2 (Zap n) c rest r.vars:=by rw[Zap,if_neg (by rw[hc.rb];simp)]
  rw[e0];have hsp:=words_eq_nil (s:=r.s);have hl:=hc.l;rw[<-ZaS]at hl;unfold Zah;cases hs:Zad r.s with
   |nil=>rw[hs,Zbn]at hl;rw[hl];exact .inr ⟨rfl,.inl rfl⟩
   |cons c rest=>
    have hcs:=Zbt hs;simp only;rw[hs]at hl;by_cases h0:Zam (c::rest)=0
    ·rw[ZbC hcs h0]at hl;rw[hl];simp only;refine .inr ⟨rfl,.inr ?_⟩;unfold Zb2;have hU:(Zba c||upB c)=false:=by
      by_cases h:(Zba c||upB c)=true;·rw[Zbu,if_pos h]at h0;omega
      ·simpa using h
     have hU':Zba c=false/\upB c=false:=by simpa using hU
     have hN:¬(c=45\/ZaR c=true):=fun h=>by rw[Zbu,if_neg (by rw[hU];simp),if_pos (by simp;exact h.symm)]at h0;omega
     have n33:c≠33:=by rintro rfl;simp[Zam,Zba,upB,ZaR]at h0
     have hw:Zac (c::rest)=0:=by rw[ZaT,if_neg (by rw[hU];simp)]
     rw[if_neg (by simp[hU'.2]),if_neg n33,if_neg hN,hw];exact Zd2 _ _
    ·rw[Zbo hcs h0]at hl;have hw:∃w,(c::rest).take (Zam (c::rest))=c::w:=by cases hk:Zam (c::rest)with|zero=>exact absurd hk h0|succ k=>exact⟨rest.take k,by rw[List.take_succ_cons]⟩
     obtain⟨w,hw⟩:=hw;rw[hw]at hl;rw[hl];simp only;split
     ·rename_i hg;obtain⟨g1,g2,g3,g4,g5⟩:=hg;refine .inr ⟨rfl,.inr ?_⟩;have n33:c≠33:=by
       rintro rfl;apply g5;have ht:Zam (33::rest)=1:=by simp[Zam,Zba,upB,ZaR]
       rw[ht]at hw;simpa using hw.symm
      have hw0:Zac (c::rest)=0:=by rw[ZaT,if_neg (by simp[g1,g2])]
      unfold Zb2;rw[if_neg (by simp[g2]),if_neg n33,if_neg (by simp[g3,g4]),hw0];exact Zd2 _ _
     ·rename_i hg;have :=ZfD (ZcS n) (Zbg n) (ZaJ n) c rest r.vars hcs h0 _ w hw rfl hg;have e:({p with l:=words ((c::rest).drop (Zam (c::rest)))}:Ps)=⟨words ((c::rest).drop (Zam (c::rest))),r.vars,false⟩:=by rw[hc.vars,hc.pb]
      rw[e];exact this
end Go.Proofs.YtlpmfkpefoegeacDoor
