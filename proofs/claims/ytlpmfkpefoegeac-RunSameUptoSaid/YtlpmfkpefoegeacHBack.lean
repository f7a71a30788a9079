import Derived.Test.YtlpmfkpefoegeacQIsHeap
namespace Go.Proofs.Ytlpmfkpefoegeac
set_option maxRecDepth 100000
set_option maxHeartbeats 16000000
set_option linter.all false
open Classical in /-- what Undo answers -/ noncomputable def ZdL(h:Hp)(n:Int):Hp×Int:=if ¬h.Good then(h,1)else if ¬(0<=n/\n<=h.trail.length)then(h,2)else(⟨ZbB h.cells (h.trail.drop n.toNat),h.trail.take n.toNat⟩,0)
open Classical in /-- what Cut answers -/ noncomputable def ZhQ(h:Hp)(n:Int):Hp×Int:=if ¬h.Good then(h,1)else if ¬(0<=n/\n<=h.cells.length)then(h,2)else if ¬Hp.Good ⟨h.cells.take n.toNat,h.trail⟩then(h,1)else(⟨h.cells.take n.toNat,h.trail⟩,0)
def tm0:Tm:= .mk 0 0 ByteArray.empty []
def rd1(l:List Ce)(w:Nat)(a:Int):Option (Tm×Nat):=match rdL l w [a]with|some (t::_,w')=>some (t,w')|_=>none
def Zdi(most:Int):Int:=max 0 (min most 65536)
def ZdQ(left:Int):Option (Tm×Nat)->Tm×Int×Int|none=>(tm0,0,3)|some (t,w)=>(t,left - w,0)
open Classical in /-- what Term answers -/ noncomputable def ZaD(h:Hp)(a most:Int):Tm×Int×Int:=if ¬h.Good then(tm0,0,1)else if ¬Inb h.cells a then(tm0,0,4)else ZdQ (Zdi most) (rd1 h.cells (Zdi most).toNat a)
theorem ZmU(l:List Ce)(w:Nat)(a:Int):rdL l (w+1) [a]=if look l a<0 then none else if(Zaa l (look l a)).kind=3 then(match rdL l w (Zap (look l a) (Zaa l (look l a)).n)with|none=>none|some (ts,w1)=>some ([.mk 3 0 (Zaa l (look l a)).s ts],w1))else some ([if(Zaa l (look l a)).kind=0 then .mk 0 (look l a) ByteArray.empty []else .mk (Zaa l (look l a)).kind (Zaa l (look l a)).n (Zaa l (look l a)).s []],w):=by
 rw[rdL];by_cases h1:look l a<0;·rw[if_pos h1,if_pos h1]
 ·rw[if_neg h1,if_neg h1];by_cases h2:(Zaa l (look l a)).kind=3;·rw[if_pos h2,if_pos h2];cases hq:rdL l w (Zap (look l a) (Zaa l (look l a)).n)with|none=>rfl|some p=>obtain⟨ts,w1⟩:=p;have :=(Zf3 l w _ _ _ hq).1;simp only[Nat.min_eq_right this,ZcQ]
  ·rw[if_neg h2,if_neg h2];simp only[ZcQ]
theorem ZiQ(l:List Ce)(a:Int):rd1 l 0 a=none:=by unfold rd1;rw[Zd5]
theorem ZgA(l:List Ce)(w:Nat)(a:Int):rd1 l (w+1) a=if look l a<0 then none else if(Zaa l (look l a)).kind=3 then(match rdL l w (Zap (look l a) (Zaa l (look l a)).n)with|none=>none|some (ts,w1)=>some (.mk 3 0 (Zaa l (look l a)).s ts,w1))else some (if(Zaa l (look l a)).kind=0 then .mk 0 (look l a) ByteArray.empty []else .mk (Zaa l (look l a)).kind (Zaa l (look l a)).n (Zaa l (look l a)).s [],w):=by
 unfold rd1;rw[ZmU];by_cases h1:look l a<0;·rw[if_pos h1,if_pos h1]
 ·rw[if_neg h1,if_neg h1];by_cases h2:(Zaa l (look l a)).kind=3;·rw[if_pos h2,if_pos h2];cases rdL l w (Zap (look l a) (Zaa l (look l a)).n)with|none=>rfl|some p=>rfl
  ·rw[if_neg h2,if_neg h2]
theorem ZfA{l:List Ce}{w:Nat}{a:Int}{t:Tm}{w':Nat}(h:rd1 l w a=some (t,w')):w'<=w:=by
 unfold rd1 at h;split at h;·rename_i t' ts w1 hq;simp only[Option.some.injEq,Prod.mk.injEq]at h;have :=(Zf3 l w _ _ _ hq).1;omega
 ·cases h
theorem Zee(l:List Ce)(w:Nat)(a:Int)(r:List Int):rdL l w (a::r)=(match rd1 l w a with|none=>none|some (t,w1)=>match rdL l w1 r with|none=>none|some (rs,w2)=>some (t::rs,w2)):=by
 cases w with
  |zero=>rw[Zd5,ZiQ]
  |succ w=>
   rw[rdL,ZgA];by_cases hn:look l a<0;·rw[if_pos hn,if_pos hn]
   ·rw[if_neg hn,if_neg hn];by_cases h3:(Zaa l (look l a)).kind=3;·rw[if_pos h3,if_pos h3];cases hq:rdL l w (Zap (look l a) (Zaa l (look l a)).n)with|none=>rfl|some p=>obtain⟨ts,w1⟩:=p;have :=(Zf3 l w _ _ _ hq).1;simp only[Nat.min_eq_right this];cases rdL l w1 r<;>rfl
    ·rw[if_neg h3,if_neg h3];simp only;cases rdL l w r<;>rfl
theorem ZiR(l:List Ce):∀(s:List Int)(w:Nat)(a:Int),rdL l w (s++[a])=(match rdL l w s with|none=>none|some (ts,w1)=>match rd1 l w1 a with|none=>none|some (t,w2)=>some (ts++[t],w2))
 |[],w,a=>by rw[List.nil_append,ZcQ,Zee];cases h:rd1 l w a with|none=>simp only[h]|some p=>simp only[ZcQ,List.nil_append,h]
 |x::s,w,a=>by rw[List.cons_append,Zee,Zee];cases hx:rd1 l w x with|none=>rfl|some p=>obtain⟨t,w1⟩:=p;simp only;rw[ZiR l s w1 a];cases rdL l w1 s with|none=>rfl|some q=>obtain⟨ts,w2⟩:=q;simp only;cases rd1 l w2 a with|none=>rfl|some r=>rfl
theorem ZlF(l:List Ce)(w:Nat)(s r:List Int)(h:rdL l w s=none):rdL l w (s++r)=none:=by induction s generalizing w with|nil=>rw[ZcQ]at h;cases h|cons x s ih=>rw[Zee]at h;rw[List.cons_append,Zee];cases hx:rd1 l w x with|none=>rfl|some p=>obtain⟨t,w1⟩:=p;rw[hx]at h;simp only at h ⊢;cases hq:rdL l w1 s with|none=>rw[ih w1 hq]|some q=>rw[hq]at h;cases h
end Go.Proofs.Ytlpmfkpefoegeac
