import Derived.Test.YtlpmfkpefoegeacGreatDoorRows
import Derived.Test.YtlpmfkpefoegeacGreatDoorQRen
import Derived.Deep.Slices
import Derived.Lib.SmallJoins
import Derived.Below
import Derived.ChangeSame
namespace Go.Proofs.YtlpmfkpefoegeacGreatDoor
set_option maxRecDepth 99999
set_option maxHeartbeats 0
set_option linter.all false
open Go.RowKit Go.WideShapes Go.ChangeShapes
theorem amj{H:Type}{d:DataW H}{l:List (DataW H)}(h:d∈l):Rows.uptoBulk d<=Rows.uptoBulkAll l:=by induction l with|nil=>cases h|cons x r ih=>simp only[Rows.uptoBulkAll];cases gK.1 h with|inl e=>subst e;omega|inr e=>have :=ih e;omega
theorem amk{w:World}{a:Addr}{v:Value}(h:w.cell? a=some v):a=⟨a.block,a.off,none⟩:=by obtain⟨b,o,s⟩:=a;cases s with|none=>rfl|some k=>simp only[World.cell?]at h;split at h<;>simp at h
theorem aml{H α:Type}(sz:α->Nat)(f:Nat->α)(D:Nat->DataW H)(L:List Nat)(h:∀i∈L,sz (f i)<=Rows.uptoBulk (D i)):((L.map f).map sz).sum<=Rows.uptoBulkAll (L.map D):=by induction L with|nil=>simp[Rows.uptoBulkAll]|cons i r ih=>have h1:=h i (nk ..);have h2:=ih (fun j hj=>h j (ni _ hj));simp only[qp,List.sum_cons,Rows.uptoBulkAll];omega
theorem amm{H:Type}(l:List (DataW H)):l.length<=Rows.uptoBulkAll l:=by
 induction l with
  |nil=>simp[Rows.uptoBulkAll]
  |cons x r ih=>
   have :1<=Rows.uptoBulk x:=by cases x with|lit l=>cases l<;>simp[Rows.uptoBulk]|_=>simp[Rows.uptoBulk]
   simp only[Rows.uptoBulkAll,cK];omega
section
variable {H : Type} {enc : TypeId × Value → H} {P : Program} {W : World} {base : Nat} {sp : Nat → Bool} {held : Bool}
theorem PU{t e:TypeId}(ht:P.underlying t=some (.slice e)){c:Nat}(hc:P.cellsOf e=c)(h0:0<c){α:Type}[Inhabited α]{R:(Nat->Prop)->World->α->List Value->Prop}{A:Nat->Prop}(hA:∀b,A b)(sz:α->Nat){B:Nat}(hB:B<=1048576){fuel:Nat}{cs:List Value}{x:DataW H×List MemPlace}(hR:∀n cs' y,DataW.trod enc P W base sp held n e cs'=some y->Rows.uptoBulk y.1<B->∃a,R A W a cs'/\sz a<=Rows.uptoBulk y.1)(hb:Rows.uptoBulk x.1<=B)(h:DataW.trod enc P W base sp held fuel t cs=some x):∃l v,cs=[v]/\au c R A W l v/\(l.map sz).sum+1<=Rows.uptoBulk x.1/\l.length+1<=Rows.uptoBulk x.1:=by
 subst hc;rcases Go.Deep.open_slice ht h with⟨rfl,rfl⟩|⟨a,len,cap,m,n,D,Pl,rfl,_,hl,hm,hmm,rfl,hx⟩;·refine⟨[],_,rfl,⟨0,0,⟨by simp,.inl ⟨rfl,none,0,rfl,dn _⟩⟩,fun i x hx=>by simp at hx⟩,by simp[Rows.uptoBulk],by simp[Rows.uptoBulk]⟩
 ·have hbk:Rows.uptoBulkAll ((List.range len).map D)+1<=Rows.uptoBulk (DataW.slice ((List.range len).map D) ((List.range (m - len)).map fun j=>D (len+j))):=by simp only[Rows.uptoBulk];omega
  have hln:=amm ((List.range len).map D);simp only[ny,PD]at hln;simp only at hb;have hle:len<=m:=by rw[hmm];split<;>omega
  have key:∀i,i<len->∃y:α,(∃cs',W.cells? base (a.add (i*P.cellsOf e)) (P.cellsOf e)=some cs'/\R A W y cs')/\sz y<=Rows.uptoBulk (D i):=fun i hi=>by obtain⟨cs',h1,h2⟩:=hx i (by omega);have h3:Rows.uptoBulk (D i)<=Rows.uptoBulkAll ((List.range len).map D):=amj (fZ.2 ⟨i,ko.2 hi,rfl⟩);obtain⟨y,h4,h5⟩:=hR n cs' _ h2 (by simp only;omega);exact⟨y,⟨cs',h1,h4⟩,h5⟩
  obtain⟨f,hf⟩:=Go.Deep.choose_lt key;have hsum:=aml sz f D (List.range len) (fun i hi=>(hf i (ko.1 hi)).2);refine⟨(List.range len).map f,_,rfl,?_,by simp only;omega,by simp only[ny,PD];omega⟩;by_cases hz:len=0;·subst hz;exact⟨0,0,⟨by simp,.inl ⟨by simp,some a,cap,rfl,hm⟩⟩,fun i x hx=>by simp at hx⟩
  ·have ha:a=⟨a.block,a.off,none⟩:=by
    obtain⟨⟨cs',h1,_⟩,_⟩:=hf 0 (by omega);obtain⟨_,h6,h7⟩:=World.cells?_some h1;have h8:=h7 0 (by omega);rw[aT (by omega)]at h8;have h9:(a.add (0*P.cellsOf e)).add 0=a:=by simp[Addr.add]
    rw[h9]at h8;exact amk h8
   refine⟨a.block,a.off,⟨by simp only[ny,PD];omega,.inr ⟨by simp only[ny,PD];omega,hA _,cap,?_,by simpa using hl,hm⟩⟩,fun i x hx=>?_⟩;·simp only[ny,PD];rw[<-ha]
   ·have hi:i<len:=by have :=(gT.1 hx).1;simpa using this
    simp only[Aw,ab2 hi,pq,dm]at hx;subst hx;obtain⟨⟨cs',h1,h2⟩,_⟩:=hf i hi;obtain⟨_,h6,h7⟩:=World.cells?_some h1;refine⟨cs',h6,h2,fun j v hj=>?_⟩;have h8:=h7 j (by have :=(gT.1 hj).1;omega);rw[hj]at h8;rw[Go.Deep.add_add]at h8;rw[<-h8];congr 1;rw[ha];unfold Addr.add;split;·simp;omega
    ·simp
end
section
variable {H : Type} {enc : TypeId × Value → H} {W : World} {base : Nat} {sp : Nat → Bool} {held : Bool}
theorem Tm.Vy(l:List Tm):Tm.bq l=(l.map Tm.nodes).sum:=by induction l with|nil=>rfl|cons t r ih=>simp only[Tm.bq,qp,List.sum_cons,ih]
theorem JJ:Program.cellsOf Tryz.prog 34=4:=by kernel_rfl
theorem acJ:Program.cellsOf Tryz.prog 3=1:=by kernel_rfl
theorem amn:Program.cellsOf Tryz.prog 9=1:=by kernel_rfl
theorem acK:Program.cellsOf Tryz.prog 23=1:=by kernel_rfl
theorem amo:∀(B:Nat),B<=1048576->∀(n:Nat)(cs:List Value)(y:DataW H×List MemPlace),DataW.trod enc Tryz.prog W base sp held n 34 cs=some y->Rows.uptoBulk y.1<=B->∃t:Tm,Tm.rep (fun _=>True) W t cs/\t.nodes<=Rows.uptoBulk y.1:=by
 intro B;induction B using Nat.strongRecOn with
  |_ B ih=>
   intro hB n cs y h hb;obtain⟨y0,y1,y2,y3,n',rfl,hl,h0,h1,h2,h3⟩:=Joins.trod_struct4 Tryz.underlying34 h;simp only[JJ,acJ,amn,acK]at hl h0 h1 h2 h3;match cs,hl with
    |[c0,c1,c2,c3],_=>
     simp only[Gg,alW,uP,mE]at h0 h1 h2 h3;obtain⟨k,e0,rfl,k64⟩:=DataW.trod_int Tryz.underlying3 h0;obtain⟨m,e1,rfl,m64⟩:=DataW.trod_int Tryz.underlying3 h1;obtain⟨s,e2,rfl,hs⟩:=DataW.trod_string Tryz.underlying9 h2;simp only[Rows.uptoBulk,Rows.uptoBulkAll]at hb ⊢;have hs':s.size=s.data.toList.length:=by rfl
     obtain⟨l,v,e3,hv,hn,_⟩:=PU Tryz.underlying23 JJ (by omega) (R:=Tm.rep) (A:=fun _=>True) (fun _=>trivial) Tm.nodes (B:=Rows.uptoBulk y3.1) (by omega) (fun n cs' y hy hlt=>ih _ (by omega) (by omega) n cs' y hy (zL _)) (zL _) h3;simp only[tL,lF]at e0 e1 e2 e3;subst e0 e1 e2 e3;refine⟨.mk k m s l,Tm.gL.2 ⟨aA.Gj k64,aA.Gj m64,by omega,_,rfl,hv⟩,?_⟩;simp only[Tm.nodes,Tm.Vy];omega
theorem Vz{n:Nat}{cs:List Value}{y:DataW H×List MemPlace}(h:DataW.trod enc Tryz.prog W base sp held n 34 cs=some y)(hb:Rows.uptoBulk y.1<=1048576):∃t:Tm,Tm.rep (fun _=>True) W t cs/\t.nodes<=Rows.uptoBulk y.1:=amo 1048576 (zL _) n cs y h hb
theorem amr{r:Reach}{b0:Nat}{v:Value}{d:DataW H}{ps:List MemPlace}(hval:Value.okWide Tryz.prog W r b0 23 v)(h:DataW.Trod enc Tryz.prog W base sp held 23 v d ps)(hb:Rows.uptoBulk d<=1048576):∃l:List Tm,eP (fun _=>True) W l v/\Tm.bq l+1<=Rows.uptoBulk d:=by obtain⟨a,len,cap,rfl⟩:=okWide_slice Tryz.underlying23 hval;obtain⟨fuel,hf⟩:=h;obtain⟨l,v,e3,hv,hn,_⟩:=PU Tryz.underlying23 JJ (by omega) (R:=Tm.rep) (A:=fun _=>True) (fun _=>trivial) Tm.nodes (B:=Rows.uptoBulk d) hb (fun n cs' y hy hlt=>Vz hy (by omega)) (zL _) hf;simp only[Value.cells,tL,lF]at e3;subst e3;exact⟨l,hv,by rw[Tm.Vy];exact hn⟩
end
section
variable {H : Type} {enc : TypeId × Value → H} {P : Program}
theorem ams{f:Func}{s:ChangeSpec}{apart fresh handsOn again:Bool}{W W':World}{args:Array Value}{v:Value}{ds gs:List (DataW H)}{before pa pv:List MemPlace}(hW:DataW.Whole enc P f.params.toList s.vars apart W args.toList ds gs before)(hres:∀(b:Nat)(sp:Nat->Bool)(hd:Bool),DataW.TrodAll enc P W' b sp hd f.resultTypes.toList (v.resultList f.resultTypes.size) (s.fn H (ds++gs)).results [])(hargs:∀sp:Nat->Bool,(∀p∈before,sp p.block=true)->DataW.TrodAll enc P W' 0 sp true f.params.toList args.toList (s.fn H (ds++gs)).args pa)(hvars:∀sp:Nat->Bool,(∀p∈before,sp p.block=true)->DataW.TrodVars enc P W' sp s.vars (s.fn H (ds++gs)).vars pv)(hps:before=pa++pv)(hb:Below W.heap.size W W')(hok:∀(j:Nat)(t:TypeId)(r:Value),f.resultTypes[j]?=some t->(v.resultList f.resultTypes.size)[j]?=some r->Value.okWide P W' .any 0 t r):s.post enc P f apart fresh handsOn again W args v W':=by
 have hlt:∀p∈before,p.block<W.heap.size:=fun p hp=>hW.lt p hp;have hold:∀p∈before,(fun b=>decide (b<W.heap.size)) p.block=true:=fun p hp=>by simpa using hlt p hp
 refine⟨ds,gs,before,[],pa,pv,hW,hres _ _ _,hargs _ hold,hvars _ hold,World.keptBut_mono (fun p hp=>⟨hp,?_⟩) (hb.frame (· ∈before)),fun _=>?_⟩;·rw[hps,fE]at hp;exact Or.inr hp
 ·obtain⟨_,_,_,_,_,hz,hn⟩:=hW;refine⟨hok,_,_,([]++pa)++pv,⟨[]++pa,pv,trodAll_append (hargs _ (fun _ _=>rfl)) (hres _ _ _),hvars _ (fun _ _=>rfl),rfl,?_,?_⟩,?_⟩
  ·intro b off hp;have hin:MemPlace.cell b off∈before:=by rw[hps];simpa using hp
   rw[hb.frozen (hlt _ hin)];exact hz b off hin
  ·intro ha;have :=hn ha;rw[hps]at this;simpa using this
  ·intro p hp _;rw[hps];simpa using hp
end
