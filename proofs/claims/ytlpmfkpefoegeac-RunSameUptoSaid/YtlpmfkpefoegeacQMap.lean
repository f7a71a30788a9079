import Derived.Test.YtlpmfkpefoegeacROpen
import Derived.Test.YtlpmfkpefoegeacQNamed
import Derived.Test.YtlpmfkpefoegeacQClause2
import Derived.Test.YtlpmfkpefoegeacQCopy
import Derived.Carry
namespace Go.Proofs.Ytlpmfkpefoegeac
set_option maxRecDepth 100000
set_option maxHeartbeats 16000000
set_option linter.all false
open Go.RowKit Go.WideShapes Go.ChangeShapes
section
variable {H : Type} {enc : TypeId × Value → H} {W : World} {base : Nat} {sp : Nat → Bool} {held : Bool}
instance:Inhabited Cl:=⟨⟨default,[],0⟩⟩
theorem ZeT:Program.cellsOf Try.prog 59=6:=by kernel_rfl
theorem Tm.rep_vals{A:Nat->Prop}{t:Tm}{cs:List Value}(h:Tm.rep A W t cs):∃a ac,cs=[.int .i64 t.kind,.int .i64 t.n,.string t.s,.slice a t.args.length ac]:=by obtain⟨a,ac,rfl, -⟩:=Tm.rep4 h;exact⟨a,ac,rfl⟩
theorem ZmN{n:Nat}{cs:List Value}{y:DataW H×List MemPlace}(h:DataW.trod enc Try.prog W base sp held n 59 cs=some y)(hb:Rows.uptoBulk y.1<=1048576):∃c:Cl,Cl.rep (fun _=>True) W c cs/\c.nodes+1<=Rows.uptoBulk y.1:=by obtain⟨y0,y1,y2,n',rfl,hl,h0,h1,h2⟩:=Deep.trod_struct3 Try.underlying59 h;simp only[ZeT,ZcJ,Ziz,Zkc]at hl h0 h1 h2;match cs,hl with|[c0,c1,c2,c3,c4,c5],_=>simp only[List.drop_zero,List.drop_succ_cons,List.take_succ_cons,List.take_zero]at h0 h1 h2;simp only[Rows.uptoBulk,Rows.uptoBulkAll]at hb ⊢;obtain⟨t,ht,hn0⟩:=ZhS h0 (by omega);obtain⟨a,ac,e0⟩:=Tm.rep_vals ht;obtain⟨l,v,e1,hv,hn1,_⟩:=Zgr Try.underlying23 ZcJ (by omega) (R:=Tm.rep) (A:=fun _=>True) (fun _=>trivial) Tm.nodes (B:=Rows.uptoBulk y1.1) (by omega) (fun n cs' y hy hlt=>ZhS hy (by omega)) (zL _) h1;obtain⟨m,e2,rfl,m64⟩:=DataW.trod_int Try.underlying3 h2;obtain⟨b,bc, -, -,rfl, -⟩:=SlR.at hv;simp only[List.cons.injEq,and_true]at e0 e1 e2;obtain⟨rfl,rfl,rfl,rfl⟩:=e0;subst e1 e2;refine⟨⟨t,l,m⟩,⟨a,ac,b,bc,rfl,ht,hv,I64.of_wf m64⟩,?_⟩;simp only[Cl.nodes,Tm.nodesL_sum]at hn1 ⊢;simp only[Rows.uptoBulk]at hn1 ⊢;omega
theorem Zg8{r:Go.Reach}{b0:Nat}{v:Value}{d:DataW H}{ps:List MemPlace}(hval:Value.okWide Try.prog W r b0 22 v)(h:DataW.Trod enc Try.prog W base sp held 22 v d ps)(hb:Rows.uptoBulk d<=1048576):∃l:List Cl,Zj5 (fun _=>True) W l v/\(l.map Cl.nodes).sum+1<=Rows.uptoBulk d:=by obtain⟨a,len,cap,rfl⟩:=okWide_slice Try.underlying22 hval;obtain⟨fuel,hf⟩:=h;obtain⟨l,v,e3,hv,hn,_⟩:=Zgr Try.underlying22 ZeT (by omega) (R:=Cl.rep) (A:=fun _=>True) (fun _=>trivial) Cl.nodes (B:=Rows.uptoBulk d) hb (fun n cs' y hy hlt=>by obtain⟨c,h1,h2⟩:=ZmN hy (by omega);exact⟨c,h1,by omega⟩) (zL _) hf;simp only[Value.cells,List.cons.injEq,and_true]at e3;subst e3;exact⟨l,hv,hn⟩
end
end Go.Proofs.Ytlpmfkpefoegeac
namespace Go.Proofs.Ytlpmfkpefoegeac
set_option maxRecDepth 100000
set_option maxHeartbeats 16000000
set_option linter.all false
open Go.RowKit
def MapIs(w:World)(r:Nat)(L:List (Int×Value)):Prop:=∃es clock,w.heap[r]?=some (.map es clock)/\es.toList.map (fun e=>(e.key,e.val))=L.map (fun p=>(Value.int .i64 p.1,p.2))
theorem MapIs.lt{w:World}{r:Nat}{L:List (Int×Value)}(h:MapIs w r L):r<w.heap.size:=by obtain⟨es,clock,h,_⟩:=h;exact Zag h
theorem MapIs.keeps{A:Nat->Prop}{w w':World}{r:Nat}{L:List (Int×Value)}(h:MapIs w r L)(hk:Keeps A w w')(hA:A r):MapIs w' r L:=by obtain⟨es,clock,h1,h2⟩:=h;exact⟨es,clock,Zaj h1 hk hA,h2⟩
theorem MapIs.made(w:World):MapIs (w.alloc (.map #[] 0)) w.heap.size []:=⟨#[],0,Zao _ _,rfl⟩
def mget(L:List (Int×Value))(n:Int):Option Value:=(L.find? (fun p=>p.1==n)).map (·.2)
theorem ZcS(n:Int):∀(es:List MapEntry)(L:List (Int×Value))(i:Nat),es.map (fun e=>(e.key,e.val))=L.map (fun p=>(Value.int .i64 p.1,p.2))->∃r,Instr.findNow (.int .i64) (.int .i64 n) es i=some r/\r.map (·.2)=mget L n/\(∀k x,r=some (k,x)->i<=k/\(∃e,es[k - i]?=some e/\e.key= .int .i64 n)/\∀j,j<k - i->∀p,L[j]?=some p->p.1≠n)
 |[],L,i,h=>by
  have :L=[]:=by simpa using h.symm
  subst this;exact⟨none,rfl,rfl,fun k x h=>by cases h⟩
 |e::es,[],i,h=>by simp at h
 |e::es,p::L,i,h=>by
  simp only[List.map_cons,List.cons.injEq,Prod.mk.injEq]at h;obtain⟨⟨hk,hv⟩,hr⟩:=h;by_cases hn:n=p.1
  ·subst hn;refine⟨some (i,e.val),?_,?_,?_⟩;·simp[Instr.findNow,Instr.sameNow,hk]
   ·simp[mget,hv]
   ·intro k x h;simp only[Option.some.injEq,Prod.mk.injEq]at h;obtain⟨rfl,rfl⟩:=h;exact⟨zL _,⟨e,by simp,hk⟩,fun j hj=>by omega⟩
  ·obtain⟨r,h1,h2,h3⟩:=ZcS n es L (i+1) hr;refine⟨r,?_,?_,?_⟩
   ·rw[Instr.findNow,hk];have hb:(n==p.1)=false:=by simpa using hn
    simp[Instr.sameNow,hb,h1]
   ·rw[h2];have :(p.1==n)=false:=by simp;omega
    simp[mget,this]
   ·intro k x h;obtain⟨h4,⟨e',h5,h6⟩,h7⟩:=h3 k x h;refine⟨by omega,⟨e',?_,h6⟩,fun j hj q hq=>?_⟩;·rw[show k - i=(k - (i+1))+1 by omega];simpa using h5
    ·cases j with|zero=>simp at hq;subst hq;omega|succ j=>exact h7 j (by omega) q (by simpa using hq)
def Ze8(P:Program)(t e:TypeId)(z:Value):Prop:=∃k,P.underlying t=some (.map k e)/\P.underlying k=some (.int .i64)/\∀w,(zeroValue e).run P w= .ok z w
section
variable {P : Program} {t e : TypeId} {z : Value} {w : World} {r : Nat} {L : List (Int × Value)} {n : Int}
theorem ZdT(k:TypeId)(hk:P.underlying k=some (.int .i64))(es:List MapEntry)(x:Option (Nat×Value))(h:Instr.findNow (.int .i64) (.int .i64 n) es 0=some x):(Instr.findKey k (.int .i64 n) es).run P w= .ok x w:=by simp[Instr.findKey,run_underlying hk,h]
theorem Zda(k:TypeId)(hk:P.underlying k=some (.int .i64))(b:Bool):(Instr.checkKey b 10000 k (.int .i64 n)).run P w= .ok () w:=by rw[show(10000:Nat)=9999+1 from rfl,Instr.checkKey];simp[run_underlying hk]
theorem ZdO(hty:Ze8 P t e z)(h:MapIs w r L):(Instr.lookup t (.map (some r)) (.int .i64 n) true).run P w= .ok (.tuple #[(mget L n).getD z,.bool (mget L n).isSome]) w:=by obtain⟨k,ht,hk,hz⟩:=hty;obtain⟨es,clock,h1,h2⟩:=h;obtain⟨x,h3,h4, -⟩:=ZcS n es.toList L 0 h2;have h5:=ZdT (P:=P) (w:=w) k hk es.toList x h3;have h6:=Zda (P:=P) (w:=w) (n:=n) k hk es.isEmpty;rw[<-h4];cases x with|none=>simp[Instr.lookup,run_underlying ht,getObj,Sem.run,h1,h5,h6,hz]|some p=>simp[Instr.lookup,run_underlying ht,getObj,Sem.run,h1,h5,h6]
theorem Zg9(hty:Ze8 P t e z)(h:MapIs w r L)(hn:mget L n=none)(v:Value):∃w',(Instr.mapUpdate t (.map (some r)) (.int .i64 n) v).run P w= .ok () w'/\MapIs w' r (L++[(n,v)])/\Ch (fun b=>b=r) w w'/\w'.heap.size=w.heap.size:=by
 obtain⟨k,ht,hk,hz⟩:=hty;obtain⟨es,clock,h1,h2⟩:=h;obtain⟨x,h3,h4, -⟩:=ZcS n es.toList L 0 h2;rw[hn]at h4;have hx:x=none:=by cases x<;>simp_all
 subst hx;have h5:=ZdT (P:=P) (w:=w) k hk es.toList none h3;have h6:=Zda (P:=P) (w:=w) (n:=n) k hk false;have hlt:=Zag h1;refine⟨{w with heap:=w.heap.setIfInBounds r (.map (es.push {key:= .int .i64 n,val:=v,born:=clock}) (clock+1))},?_,⟨es.push {key:= .int .i64 n,val:=v,born:=clock},clock+1,?_,?_⟩,⟨rfl,rfl,rfl,by simp,fun b hb hne=>?_⟩,by simp⟩;·simp[Instr.mapUpdate,run_underlying ht,getObj,setObj,Sem.run,h1,h5,h6]
 ·simp[hlt]
 ·simp[h2]
 ·rw[Array.getElem?_setIfInBounds_ne (Ne.symm hne)]
end
end Go.Proofs.Ytlpmfkpefoegeac
