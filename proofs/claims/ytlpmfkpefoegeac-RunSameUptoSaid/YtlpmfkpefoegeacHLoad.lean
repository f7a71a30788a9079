import Derived.Test.YtlpmfkpefoegeacQIsHeap
namespace Go.Proofs.Ytlpmfkpefoegeac
set_option maxRecDepth 100000
set_option maxHeartbeats 16000000
set_option linter.all false
def shC(b:Nat)(c:Ce):Ce:=if c.kind=0 then{c with n:=c.n+b}else c
def Zf7(b:Nat)(l:List Ce)(j:Nat):List Ce:=l.mapIdx fun i c=>if b<=i/\i<j then shC b c else c
theorem Zfa(b:Nat)(l:List Ce)(j:Nat):(Zf7 b l j).length=l.length:=by simp[Zf7]
theorem ZdC(b:Nat)(l:List Ce)(j i:Nat)(h:i<(Zf7 b l j).length):(Zf7 b l j)[i]=if b<=i/\i<j then shC b (l[i]'(by rw[Zfa]at h;exact h))else l[i]'(by rw[Zfa]at h;exact h):=by simp[Zf7]
theorem ZjA(b:Nat)(l:List Ce):Zf7 b l b=l:=by apply List.ext_getElem (by simp[Zf7]);intro i h1 h2;rw[ZdC,if_neg (by omega)]
theorem Zha(b:Nat)(l:List Ce)(j:Nat)(hb:b<=j)(hj:j<l.length):Zf7 b l (j+1)=(Zf7 b l j).set j (shC b l[j]):=by
 apply List.ext_getElem (by simp[Zf7]);intro i h1 h2;rw[ZdC,List.getElem_set];by_cases e:j=i;·subst e;rw[if_pos ⟨hb,by omega⟩,if_pos rfl]
 ·rw[if_neg e,ZdC];by_cases e2:b<=i/\i<j;·rw[if_pos e2,if_pos ⟨e2.1,by omega⟩]
  ·rw[if_neg e2,if_neg (by omega)]
theorem Zko(b:Nat)(l:List Ce)(j:Nat)(hb:b<=j)(hj:j<l.length)(hk:(l[j]).kind≠0):Zf7 b l (j+1)=Zf7 b l j:=by
 rw[Zha b l j hb hj];apply List.ext_getElem (by simp);intro i h1 h2;rw[List.getElem_set];split;·rename_i e;subst e;rw[ZdC,if_neg (by omega),shC,if_neg hk]
 ·rfl
theorem Zlz(l bl:List Ce):Zf7 l.length (l++bl) (l++bl).length=l++bl.map (shC l.length):=by
 apply List.ext_getElem (by simp[Zf7]);intro i h1 h2;rw[ZdC];by_cases e:l.length<=i;·rw[if_pos ⟨e,by simpa[Zf7]using h1⟩,List.getElem_append_right e,List.getElem_append_right e,List.getElem_map]
 ·rw[if_neg (by omega),List.getElem_append_left (by omega),List.getElem_append_left (by omega)]
open Classical in /-- what Load answers -/ noncomputable def Zbs(h:Hp)(bl:List Ce):Hp×Int×Int:=if ¬(h.Good/\Hp.Good ⟨bl,[]⟩)then(h,0,1)else if 65536<h.cells.length+bl.length then(h,0,3)else(⟨h.cells++bl.map (shC h.cells.length),h.trail⟩,h.cells.length,0)
end Go.Proofs.Ytlpmfkpefoegeac
