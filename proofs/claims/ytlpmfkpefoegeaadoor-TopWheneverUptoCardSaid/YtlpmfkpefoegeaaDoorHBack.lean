/-
  What Undo, Cut and Term answer, in plain data.
-/
import Derived.Test.YtlpmfkpefoegeaaDoorQIsHeap
namespace Go.Proofs.YtlpmfkpefoegeaaDoor
set_option linter.unusedVariables false
set_option linter.unusedSimpArgs false
open Classical in /-- what Marks answers -/ noncomputable def Zfq(h:Hp)(roots:List Int):List Bool×Int:=if h.Good then(marks h.cells roots,0)else([],1)
structure Coll where
  heap : Hp
  roots : List Int
  tops : List Int
  mks : List Int
  err : Int
  deriving DecidableEq
open Classical in noncomputable def Za3(h:Hp)(roots tops mks:List Int):Coll:=if ¬h.Good then⟨h,[],[],[],1⟩else if ¬(∀r∈roots,Inb h.cells r)then⟨h,[],[],[],4⟩else⟨gcH h roots,roots.map (ahead (marks h.cells roots)),tops.map (ahead (marks h.cells roots)),mks.map (ahead (Zan (marks h.cells roots) h.trail)),0⟩
section
variable {h : Hp} {roots : List Int}
end
open Classical in /-- what Undo answers -/ noncomputable def Zd7(h:Hp)(n:Int):Hp×Int:=if ¬h.Good then(h,1)else if ¬(0<=n/\n<=h.trail.length)then(h,2)else(⟨ZbF h.cells (h.trail.drop n.toNat),h.trail.take n.toNat⟩,0)
open Classical in /-- what Cut answers -/ noncomputable def ZiH(h:Hp)(n:Int):Hp×Int:=if ¬h.Good then(h,1)else if ¬(0<=n/\n<=h.cells.length)then(h,2)else if ¬Hp.Good ⟨h.cells.take n.toNat,h.trail⟩then(h,1)else(⟨h.cells.take n.toNat,h.trail⟩,0)
def tm0:Tm:= .mk 0 0 ByteArray.empty []
def rd1(l:List Ce)(w:Nat)(a:Int):Option (Tm×Nat):=match rdL l w [a]with|some (t::_,w')=>some (t,w')|_=>none
def Zdw(most:Int):Int:=max 0 (min most 65536)
def Zeb(left:Int):Option (Tm×Nat)->Tm×Int×Int|none=>(tm0,0,3)|some (t,w)=>(t,left - w,0)
open Classical in /-- what Term answers -/ noncomputable def ZaJ(h:Hp)(a most:Int):Tm×Int×Int:=if ¬h.Good then(tm0,0,1)else if ¬Inb h.cells a then(tm0,0,4)else Zeb (Zdw most) (rd1 h.cells (Zdw most).toNat a)
theorem ZoB(l:List Ce)(w:Nat)(a:Int):rdL l (w+1) [a]=if look l a<0 then none else if(Zaa l (look l a)).kind=3 then(match rdL l w (Zam (look l a) (Zaa l (look l a)).n)with|none=>none|some (ts,w1)=>some ([.mk 3 0 (Zaa l (look l a)).s ts],w1))else some ([if(Zaa l (look l a)).kind=0 then .mk 0 (look l a) ByteArray.empty []else .mk (Zaa l (look l a)).kind (Zaa l (look l a)).n (Zaa l (look l a)).s []],w):=by
 rw[rdL];by_cases h1:look l a<0;·rw[if_pos h1,if_pos h1]
 ·rw[if_neg h1,if_neg h1];by_cases h2:(Zaa l (look l a)).kind=3;·rw[if_pos h2,if_pos h2];cases hq:rdL l w (Zam (look l a) (Zaa l (look l a)).n)with|none=>rfl|some p=>obtain⟨ts,w1⟩:=p;have :=(ZgP l w _ _ _ hq).1;simp only[Nat.min_eq_right this,ZcZ]
  ·rw[if_neg h2,if_neg h2];simp only[ZcZ]
theorem ZjX(l:List Ce)(a:Int):rd1 l 0 a=none:=by unfold rd1;rw[Zep]
theorem Zht(l:List Ce)(w:Nat)(a:Int):rd1 l (w+1) a=if look l a<0 then none else if(Zaa l (look l a)).kind=3 then(match rdL l w (Zam (look l a) (Zaa l (look l a)).n)with|none=>none|some (ts,w1)=>some (.mk 3 0 (Zaa l (look l a)).s ts,w1))else some (if(Zaa l (look l a)).kind=0 then .mk 0 (look l a) ByteArray.empty []else .mk (Zaa l (look l a)).kind (Zaa l (look l a)).n (Zaa l (look l a)).s [],w):=by
 unfold rd1;rw[ZoB];by_cases h1:look l a<0;·rw[if_pos h1,if_pos h1]
 ·rw[if_neg h1,if_neg h1];by_cases h2:(Zaa l (look l a)).kind=3;·rw[if_pos h2,if_pos h2];cases rdL l w (Zam (look l a) (Zaa l (look l a)).n)with|none=>rfl|some p=>rfl
  ·rw[if_neg h2,if_neg h2]
theorem Zgg{l:List Ce}{w:Nat}{a:Int}{t:Tm}{w':Nat}(h:rd1 l w a=some (t,w')):w'<=w:=by
 unfold rd1 at h;split at h;·rename_i t' ts w1 hq;simp only[Option.some.injEq,Prod.mk.injEq]at h;have :=(ZgP l w _ _ _ hq).1;omega
 ·cases h
theorem ZeG(l:List Ce)(w:Nat)(a:Int)(r:List Int):rdL l w (a::r)=(match rd1 l w a with|none=>none|some (t,w1)=>match rdL l w1 r with|none=>none|some (rs,w2)=>some (t::rs,w2)):=by
 cases w with
  |zero=>rw[Zep,ZjX]
  |succ w=>
   rw[rdL,Zht];by_cases hn:look l a<0;·rw[if_pos hn,if_pos hn]
   ·rw[if_neg hn,if_neg hn];by_cases h3:(Zaa l (look l a)).kind=3;·rw[if_pos h3,if_pos h3];cases hq:rdL l w (Zam (look l a) (Zaa l (look l a)).n)with|none=>rfl|some p=>obtain⟨ts,w1⟩:=p;have :=(ZgP l w _ _ _ hq).1;simp only[Nat.min_eq_right this];cases rdL l w1 r<;>rfl
    ·rw[if_neg h3,if_neg h3];simp only;cases rdL l w r<;>rfl
theorem ZjY(l:List Ce):∀(s:List Int)(w:Nat)(a:Int),rdL l w (s++[a])=(match rdL l w s with|none=>none|some (ts,w1)=>match rd1 l w1 a with|none=>none|some (t,w2)=>some (ts++[t],w2))
 |[],w,a=>by rw[List.nil_append,ZcZ,ZeG];cases h:rd1 l w a with|none=>simp only[h]|some p=>simp only[ZcZ,List.nil_append,h]
 |x::s,w,a=>by rw[List.cons_append,ZeG,ZeG];cases hx:rd1 l w x with|none=>rfl|some p=>obtain⟨t,w1⟩:=p;simp only;rw[ZjY l s w1 a];cases rdL l w1 s with|none=>rfl|some q=>obtain⟨ts,w2⟩:=q;simp only;cases rd1 l w2 a with|none=>rfl|some r=>rfl
theorem Znh(l:List Ce)(w:Nat)(s r:List Int)(h:rdL l w s=none):rdL l w (s++r)=none:=by induction s generalizing w with|nil=>rw[ZcZ]at h;cases h|cons x s ih=>rw[ZeG]at h;rw[List.cons_append,ZeG];cases hx:rd1 l w x with|none=>rfl|some p=>obtain⟨t,w1⟩:=p;rw[hx]at h;simp only at h ⊢;cases hq:rdL l w1 s with|none=>rw[ih w1 hq]|some q=>rw[hq]at h;cases h
end Go.Proofs.YtlpmfkpefoegeaaDoor
