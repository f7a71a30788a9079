import Derived.Test.YtlpmfkpefoegeacGreatDoorRows
import Derived.Deep.Slices
import Derived.Lib.SmallJoins
import Derived.Below
import Derived.ChangeSame
import Derived.Test.YtlpmfkpefoegeacGreatDoorQSolve1
import Derived.Test.YtlpmfkpefoegeacGreatDoorQRd1
namespace Go.Proofs.YtlpmfkpefoegeacGreatDoor
set_option maxRecDepth 99999
set_option maxHeartbeats 0
set_option linter.all false
open Go.RowKit Go.WideShapes Go.ChangeShapes
theorem aiN{H:Type}{d:DataW H}{l:List (DataW H)}(h:d∈l):Rows.uptoBulk d<=Rows.uptoBulkAll l:=by induction l with|nil=>cases h|cons x r ih=>simp only[Rows.uptoBulkAll];cases iG.1 h with|inl e=>subst e;omega|inr e=>have :=ih e;omega
theorem aiO{w:World}{a:Addr}{v:Value}(h:w.cell? a=some v):a=⟨a.block,a.off,none⟩:=by obtain⟨b,o,s⟩:=a;cases s with|none=>rfl|some k=>simp only[World.cell?]at h;split at h<;>simp at h
theorem aiP{H α:Type}(sz:α->Nat)(f:Nat->α)(D:Nat->DataW H)(L:List Nat)(h:∀i∈L,sz (f i)<=Rows.uptoBulk (D i)):((L.map f).map sz).sum<=Rows.uptoBulkAll (L.map D):=by induction L with|nil=>simp[Rows.uptoBulkAll]|cons i r ih=>have h1:=h i (mY ..);have h2:=ih (fun j hj=>h j (nU _ hj));simp only[qy,List.sum_cons,Rows.uptoBulkAll];omega
theorem aiQ{H:Type}(l:List (DataW H)):l.length<=Rows.uptoBulkAll l:=by
 induction l with
  |nil=>simp[Rows.uptoBulkAll]
  |cons x r ih=>
   have :1<=Rows.uptoBulk x:=by cases x with|lit l=>cases l<;>simp[Rows.uptoBulk]|_=>simp[Rows.uptoBulk]
   simp only[Rows.uptoBulkAll,bn];omega
section
variable {H : Type} {enc : TypeId × Value → H} {P : Program} {W : World} {base : Nat} {sp : Nat → Bool} {held : Bool}
theorem ZH{t e:TypeId}(ht:P.underlying t=some (.slice e)){c:Nat}(hc:P.cellsOf e=c)(h0:0<c){α:Type}[Inhabited α]{R:(Nat->Prop)->World->α->List Value->Prop}{A:Nat->Prop}(hA:∀b,A b)(sz:α->Nat){B:Nat}(hB:B<=1048576){fuel:Nat}{cs:List Value}{x:DataW H×List MemPlace}(hR:∀n cs' y,DataW.trod enc P W base sp held n e cs'=some y->Rows.uptoBulk y.1<B->∃a,R A W a cs'/\sz a<=Rows.uptoBulk y.1)(hb:Rows.uptoBulk x.1<=B)(h:DataW.trod enc P W base sp held fuel t cs=some x):∃l v,cs=[v]/\aj c R A W l v/\(l.map sz).sum+1<=Rows.uptoBulk x.1/\l.length+1<=Rows.uptoBulk x.1:=by
 subst hc;rcases Go.Deep.open_slice ht h with⟨rfl,rfl⟩|⟨a,len,cap,m,n,D,Pl,rfl,_,hl,hm,hmm,rfl,hx⟩;·refine⟨[],_,rfl,⟨0,0,⟨by simp,.inl ⟨rfl,none,0,rfl,dD _⟩⟩,fun i x hx=>by simp at hx⟩,by simp[Rows.uptoBulk],by simp[Rows.uptoBulk]⟩
 ·have hbk:Rows.uptoBulkAll ((List.range len).map D)+1<=Rows.uptoBulk (DataW.slice ((List.range len).map D) ((List.range (m - len)).map fun j=>D (len+j))):=by simp only[Rows.uptoBulk];omega
  have hln:=aiQ ((List.range len).map D);simp only[jq,Lr]at hln;simp only at hb;have hle:len<=m:=by rw[hmm];split<;>omega
  have key:∀i,i<len->∃y:α,(∃cs',W.cells? base (a.add (i*P.cellsOf e)) (P.cellsOf e)=some cs'/\R A W y cs')/\sz y<=Rows.uptoBulk (D i):=fun i hi=>by obtain⟨cs',h1,h2⟩:=hx i (by omega);have h3:Rows.uptoBulk (D i)<=Rows.uptoBulkAll ((List.range len).map D):=aiN (gQ.2 ⟨i,kK.2 hi,rfl⟩);obtain⟨y,h4,h5⟩:=hR n cs' _ h2 (by simp only;omega);exact⟨y,⟨cs',h1,h4⟩,h5⟩
  obtain⟨f,hf⟩:=Go.Deep.choose_lt key;have hsum:=aiP sz f D (List.range len) (fun i hi=>(hf i (kK.1 hi)).2);refine⟨(List.range len).map f,_,rfl,?_,by simp only;omega,by simp only[jq,Lr];omega⟩;by_cases hz:len=0;·subst hz;exact⟨0,0,⟨by simp,.inl ⟨by simp,some a,cap,rfl,hm⟩⟩,fun i x hx=>by simp at hx⟩
  ·have ha:a=⟨a.block,a.off,none⟩:=by
    obtain⟨⟨cs',h1,_⟩,_⟩:=hf 0 (by omega);obtain⟨_,h6,h7⟩:=World.cells?_some h1;have h8:=h7 0 (by omega);rw[aS (by omega)]at h8;have h9:(a.add (0*P.cellsOf e)).add 0=a:=by simp[Addr.add]
    rw[h9]at h8;exact aiO h8
   refine⟨a.block,a.off,⟨by simp only[jq,Lr];omega,.inr ⟨by simp only[jq,Lr];omega,hA _,cap,?_,by simpa using hl,hm⟩⟩,fun i x hx=>?_⟩;·simp only[jq,Lr];rw[<-ha]
   ·have hi:i<len:=by have :=(iO.1 hx).1;simpa using this
    simp only[vB,XE hi,nV,cZ]at hx;subst hx;obtain⟨⟨cs',h1,h2⟩,_⟩:=hf i hi;obtain⟨_,h6,h7⟩:=World.cells?_some h1;refine⟨cs',h6,h2,fun j v hj=>?_⟩;have h8:=h7 j (by have :=(iO.1 hj).1;omega);rw[hj]at h8;rw[Go.Deep.add_add]at h8;rw[<-h8];congr 1;rw[ha];unfold Addr.add;split;·simp;omega
    ·simp
end
section
variable {H : Type} {enc : TypeId × Value → H} {W : World} {base : Nat} {sp : Nat → Bool} {held : Bool}
theorem Tm.ZI(l:List Tm):Tm.aH l=(l.map Tm.nodes).sum:=by induction l with|nil=>rfl|cons t r ih=>simp only[Tm.aH,qy,List.sum_cons,ih]
theorem Rq:Program.cellsOf Tryz.prog 34=4:=by kernel_rfl
theorem ZJ:Program.cellsOf Tryz.prog 3=1:=by kernel_rfl
theorem aiR:Program.cellsOf Tryz.prog 9=1:=by kernel_rfl
theorem ZK:Program.cellsOf Tryz.prog 23=1:=by kernel_rfl
theorem aiS:∀(B:Nat),B<=1048576->∀(n:Nat)(cs:List Value)(y:DataW H×List MemPlace),DataW.trod enc Tryz.prog W base sp held n 34 cs=some y->Rows.uptoBulk y.1<=B->∃t:Tm,Tm.rep (fun _=>True) W t cs/\t.nodes<=Rows.uptoBulk y.1:=by
 intro B;induction B using Nat.strongRecOn with
  |_ B ih=>
   intro hB n cs y h hb;obtain⟨y0,y1,y2,y3,n',rfl,hl,h0,h1,h2,h3⟩:=Joins.trod_struct4 Tryz.underlying34 h;simp only[Rq,ZJ,aiR,ZK]at hl h0 h1 h2 h3;match cs,hl with
    |[c0,c1,c2,c3],_=>
     simp only[yE,XF,yA,ng]at h0 h1 h2 h3;obtain⟨k,e0,rfl,Rs⟩:=DataW.trod_int Tryz.underlying3 h0;obtain⟨m,e1,rfl,m64⟩:=DataW.trod_int Tryz.underlying3 h1;obtain⟨s,e2,rfl,hs⟩:=DataW.trod_string Tryz.underlying9 h2;simp only[Rows.uptoBulk,Rows.uptoBulkAll]at hb ⊢;have hs':s.size=s.data.toList.length:=by rfl
     obtain⟨l,v,e3,hv,hn,_⟩:=ZH Tryz.underlying23 Rq (by omega) (R:=Tm.rep) (A:=fun _=>True) (fun _=>trivial) Tm.nodes (B:=Rows.uptoBulk y3.1) (by omega) (fun n cs' y hy hlt=>ih _ (by omega) (by omega) n cs' y hy (zL _)) (zL _) h3;simp only[Ex,ug]at e0 e1 e2 e3;subst e0 e1 e2 e3;refine⟨.mk k m s l,Tm.gT.2 ⟨au.Qr Rs,au.Qr m64,by omega,_,rfl,hv⟩,?_⟩;simp only[Tm.nodes,Tm.ZI];omega
theorem aiT{n:Nat}{cs:List Value}{y:DataW H×List MemPlace}(h:DataW.trod enc Tryz.prog W base sp held n 34 cs=some y)(hb:Rows.uptoBulk y.1<=1048576):∃t:Tm,Tm.rep (fun _=>True) W t cs/\t.nodes<=Rows.uptoBulk y.1:=aiS 1048576 (zL _) n cs y h hb
end
section
variable {H : Type} {enc : TypeId × Value → H} {P : Program}
theorem aiU{f:Func}{s:ChangeSpec}{apart fresh handsOn again:Bool}{W W':World}{args:Array Value}{v:Value}{ds gs:List (DataW H)}{before pa pv:List MemPlace}(hW:DataW.Whole enc P f.params.toList s.vars apart W args.toList ds gs before)(hres:∀(b:Nat)(sp:Nat->Bool)(hd:Bool),DataW.TrodAll enc P W' b sp hd f.resultTypes.toList (v.resultList f.resultTypes.size) (s.fn H (ds++gs)).results [])(hargs:∀sp:Nat->Bool,(∀p∈before,sp p.block=true)->DataW.TrodAll enc P W' 0 sp true f.params.toList args.toList (s.fn H (ds++gs)).args pa)(hvars:∀sp:Nat->Bool,(∀p∈before,sp p.block=true)->DataW.TrodVars enc P W' sp s.vars (s.fn H (ds++gs)).vars pv)(hps:before=pa++pv)(hb:Below W.heap.size W W')(hok:∀(j:Nat)(t:TypeId)(r:Value),f.resultTypes[j]?=some t->(v.resultList f.resultTypes.size)[j]?=some r->Value.okWide P W' .any 0 t r):s.post enc P f apart fresh handsOn again W args v W':=by
 have hlt:∀p∈before,p.block<W.heap.size:=fun p hp=>hW.lt p hp;have hold:∀p∈before,(fun b=>decide (b<W.heap.size)) p.block=true:=fun p hp=>by simpa using hlt p hp
 refine⟨ds,gs,before,[],pa,pv,hW,hres _ _ _,hargs _ hold,hvars _ hold,World.keptBut_mono (fun p hp=>⟨hp,?_⟩) (hb.frame (· ∈before)),fun _=>?_⟩;·rw[hps,gy]at hp;exact Or.inr hp
 ·obtain⟨_,_,_,_,_,hz,hn⟩:=hW;refine⟨hok,_,_,([]++pa)++pv,⟨[]++pa,pv,trodAll_append (hargs _ (fun _ _=>rfl)) (hres _ _ _),hvars _ (fun _ _=>rfl),rfl,?_,?_⟩,?_⟩
  ·intro b off hp;have hin:MemPlace.cell b off∈before:=by rw[hps];simpa using hp
   rw[hb.frozen (hlt _ hin)];exact hz b off hin
  ·intro ha;have :=hn ha;rw[hps]at this;simpa using this
  ·intro p hp _;rw[hps];simpa using hp
end
section
variable {H : Type} {enc : TypeId × Value → H} {W : World} {base : Nat} {sp : Nat → Bool} {held : Bool}
theorem aiV:Program.cellsOf Tryz.prog 42=2:=by kernel_rfl
theorem aiW{r:Go.Reach}{b0:Nat}{v:Value}{d:DataW H}{ps:List MemPlace}(hval:Value.okWide Tryz.prog W r b0 42 v)(h:DataW.Trod enc Tryz.prog W base sp held 42 v d ps)(hb:Rows.uptoBulk d<=1048576):∃(e:Ev)(us:List Value),v= .agg us.toArray/\oJ (fun _=>True) W e us/\Tm.aH e.terms+1<=Rows.uptoBulk d:=by unfold Value.okWide at hval;rw[Tryz.underlying42]at hval;obtain⟨cs,rfl, -, -⟩:=hval;obtain⟨fuel,hf⟩:=h;simp only[Value.cells]at hf;obtain⟨y0,y1,n',hdd,hl,h0,h1⟩:=trod_struct2 Tryz.underlying42 hf;simp only[fG]at hdd;obtain⟨rfl,rfl⟩:=hdd;simp only[aiV,ZK,ZJ]at hl h0 h1;match hcs:cs.toList,hl with|[c0,c1],_=>rw[hcs]at h0 h1;simp only[yE,XF,yA,ng]at h0 h1;simp only[Rows.uptoBulk,Rows.uptoBulkAll]at hb ⊢;obtain⟨k,e0,hk0,Rs⟩:=DataW.trod_int Tryz.underlying3 h0;obtain⟨l,v,e1,hv,hn1,_⟩:=ZH Tryz.underlying23 Rq (by omega) (R:=Tm.rep) (A:=fun _=>True) (fun _=>trivial) Tm.nodes (B:=Rows.uptoBulk y1.1) (by omega) (fun n cs' y hy hlt=>aiT hy (by omega)) (zL _) h1;simp only[Ex,ug]at e0 e1;subst e0 e1;refine⟨⟨k,l⟩,cs.toList,by simp,⟨_,hcs,hv,au.Qr Rs⟩,?_⟩;simp only[Tm.ZI]at hn1 ⊢;omega
end
open Go.RowKit
theorem MC:(bs []).toList.isEmpty=true/\(bs []).toList=[]:=by rw[jE];exact⟨rfl,rfl⟩
theorem Rt(c:UInt8)(l:Str):(bs (c::l)).toList.isEmpty=false/\¬(bs (c::l)).toList=[]/\0<(bs (c::l)).size:=by rw[jE,dY];exact⟨rfl,by simp,by simp⟩
theorem Fb(c:UInt8)(l:Str)(h:0<(bs (c::l)).size):(bs (c::l))[0]=c:=Ir _ _ h
theorem IL(c:UInt8)(l:Str):(bs (c::l)).extract 1 (bs (c::l)).size=bs l:=by rw[AY,dY,XF,yE,jU (by simp)]
theorem IM{c:UInt8}:Az c=true↔((c.toNat:Int)=32\/(c.toNat:Int)=10\/(c.toNat:Int)=9\/(c.toNat:Int)=13):=by
 have hsp:∀n:UInt8,(c==n)=decide (c.toNat=n.toNat):=fun n=>by rw[Bool.eq_iff_iff,rG,pF,Lt]
 unfold Az;simp only[hsp,yD,pF];have e3:(32:UInt8).toNat=32:=rfl;have e4:(10:UInt8).toNat=10:=rfl;have e5:(9:UInt8).toNat=9:=rfl;have e6:(13:UInt8).toNat=13:=rfl;rw[e3,e4,e5,e6];omega
theorem ME{c:UInt8}{l:Str}(h:Az c=true):bQ (c::l)=bQ l:=by unfold bQ;rw[XG,ah h]
theorem aiX{c:UInt8}{l:Str}(h:¬Az c=true):bQ (c::l)=c::l:=by unfold bQ;rw[XG,ae h]
section
variable {B base g : Nat} {vv : Value} {r : Rd} {w : World}
theorem qN(h:bW B base g vv r w):Calls Tryz.prog 41 #[.pointer (some ⟨g,0,none⟩)] w (fun e w'=>e= .returned (.tuple #[])/\gG B base g vv r.space w w'):=by
 have HU:=zh h;clear h;go_enter Tryz.func41,Tryz.ntmps41;go_wp2_with fail;go_loopw[](fun wr=>∃s:Str,bQ s=bQ r.s/\gG B base g vv {r with s:=s} w wr)(fun wr=>qG g wr);case atStart=>exact⟨r.s,rfl,gG.refl HU.o⟩
 case round=>
  obtain⟨s,hs,v1,hI,hch,hv⟩:=hrel;have HI:=zh hI;have HS:=zh hs;have bD:=zh hch;have HV:=zh hv;obtain⟨b0,b1,b2,bf⟩:=hI.cells;have hgl:=hI.lt.1;clear hI hs hch hv;cases s with
   |nil=>
    obtain⟨t1,t2⟩:=MC;go_wp2_with fail;refine Cx (v:= .tuple #[]) (by simp[results,Tryz.results41,go_sem]) rfl ?_;have e:r.space={r with s:=[]}:=by unfold Rd.space;rw[<-HS.o];rfl
    rw[e];exact⟨rfl,v1,HI.o,bD.o,HV.o⟩
   |cons c rest=>
    obtain⟨t1,t2,t3⟩:=Rt c rest;have hget:=Fb c rest t3;have HG:=zh hget;clear hget;by_cases e0:(c.toNat:Int)=32
    ·have f0:(((bs (c::rest))[0].toNat:Int)==32)=true:=by rw[HG.o];simpa using e0
     have HC:=zh (IM.2 (.inl e0));clear e0;go_wp2_with fail;obtain⟨v2,k1,k2,k3⟩:=gG.trans bD.o HV.o (HI.o.AZ rest (by simp));have hmu:qG g (wr.setCell ⟨g,0,none⟩ (.string (bs rest)))<qG g wr:=by rw[qH k1,qH HI.o];simp
     rw[IL];exact⟨⟨rest,by rw[<-HS.o,ME HC.o],v2,k1,k2,k3⟩,hmu⟩
    ·have f0:(((bs (c::rest))[0].toNat:Int)==32)=false:=by rw[HG.o];simpa using e0
     by_cases e1:(c.toNat:Int)=10
     ·have f1:(((bs (c::rest))[0].toNat:Int)==10)=true:=by rw[HG.o];simpa using e1
      have HC:=zh (IM.2 (.inr (.inl e1)));clear e0 e1;go_wp2_with fail;obtain⟨v2,k1,k2,k3⟩:=gG.trans bD.o HV.o (HI.o.AZ rest (by simp));have hmu:qG g (wr.setCell ⟨g,0,none⟩ (.string (bs rest)))<qG g wr:=by rw[qH k1,qH HI.o];simp
      rw[IL];exact⟨⟨rest,by rw[<-HS.o,ME HC.o],v2,k1,k2,k3⟩,hmu⟩
     ·have f1:(((bs (c::rest))[0].toNat:Int)==10)=false:=by rw[HG.o];simpa using e1
      by_cases e2:(c.toNat:Int)=9
      ·have f2:(((bs (c::rest))[0].toNat:Int)==9)=true:=by rw[HG.o];simpa using e2
       have HC:=zh (IM.2 (.inr (.inr (.inl e2))));clear e0 e1 e2;go_wp2_with fail;obtain⟨v2,k1,k2,k3⟩:=gG.trans bD.o HV.o (HI.o.AZ rest (by simp));have hmu:qG g (wr.setCell ⟨g,0,none⟩ (.string (bs rest)))<qG g wr:=by rw[qH k1,qH HI.o];simp
       rw[IL];exact⟨⟨rest,by rw[<-HS.o,ME HC.o],v2,k1,k2,k3⟩,hmu⟩
      ·have f2:(((bs (c::rest))[0].toNat:Int)==9)=false:=by rw[HG.o];simpa using e2
       by_cases e3:(c.toNat:Int)=13
       ·have f3:(((bs (c::rest))[0].toNat:Int)==13)=true:=by rw[HG.o];simpa using e3
        have HC:=zh (IM.2 (.inr (.inr (.inr (e3)))));clear e0 e1 e2 e3;go_wp2_with fail;obtain⟨v2,k1,k2,k3⟩:=gG.trans bD.o HV.o (HI.o.AZ rest (by simp));have hmu:qG g (wr.setCell ⟨g,0,none⟩ (.string (bs rest)))<qG g wr:=by rw[qH k1,qH HI.o];simp
        rw[IL];exact⟨⟨rest,by rw[<-HS.o,ME HC.o],v2,k1,k2,k3⟩,hmu⟩
       ·have f3:(((bs (c::rest))[0].toNat:Int)==13)=false:=by rw[HG.o];simpa using e3
        have HC:=zh (show ¬Az c=true from fun h=>by have :=IM.1 h;omega);clear e0 e1 e2 e3;go_wp2_with fail;refine Cx (v:= .tuple #[]) (by simp[results,Tryz.results41,go_sem]) rfl ?_;have e:r.space={r with s:=c::rest}:=by unfold Rd.space;rw[<-HS.o,aiX HC.o]
        rw[e];exact⟨rfl,v1,HI.o,bD.o,HV.o⟩
end
theorem aiY{sg s:Str}(h:sg.length<=s.length):sg <+: s↔s.take sg.length=sg:=by rw[List.prefix_iff_eq_take];exact eq_comm
section
variable {B base g : Nat} {vv : Value} {r : Rd} {w : World}
theorem CV(sg:Str)(hsg:sg.length<=1000)(h:bW B base g vv r w):Calls Tryz.prog 51 #[.pointer (some ⟨g,0,none⟩),.string (bs sg)] w (fun e w'=>e= .returned (.bool (r.at_ sg).1)/\gG B base g vv (r.at_ sg).2 w w'):=by
 have HU:=zh h;have dV:=zh (qN h);have hz1:(bs sg).size<=1000:=by rw[dY];exact hsg
 clear h hsg;go_enter Tryz.func51,Tryz.ntmps51;go_wp2_with fail;refine dV.o.mono ?_;rintro e w1⟨rfl,v1,h1,c1,o1⟩;have HI:=zh h1;have bD:=zh c1;have HV:=zh o1;obtain⟨b0,b1,b2,bf⟩:=h1.cells;have hgl:=h1.lt.1;have hlen:=h1.len;have e0:r.space.s=bQ r.s:=rfl;rw[e0]at b0 hlen;have hz2:(bs (bQ r.s)).size<=2000:=by rw[dY];omega
 have hu:Rd.at_ sg r=if sg <+: bQ r.s then(true,{r with s:=(bQ r.s).drop sg.length})else(false,r.space):=rfl;have HA:=zh hu;clear h1 c1 o1 hlen hu e0;by_cases hl:(bQ r.s).length<sg.length
 ·have hd:decide ((bs (bQ r.s)).size<(bs sg).size)=true:=by rw[dY,dY];simpa using hl
  have hp:¬sg <+: bQ r.s:=fun h=>by have :=h.length_le;omega
  have HP:=zh hp;clear hl hp;go_wp2_with fail;go_ret;rw[HA.o,ae HP.o];exact⟨rfl,v1,HI.o,bD.o,HV.o⟩
 ·have hd:decide ((bs (bQ r.s)).size<(bs sg).size)=false:=by rw[dY,dY];simpa using hl
  have hle:(bs sg).size<=(bs (bQ r.s)).size:=by rw[dY,dY];omega
  have hpi:=aiY (sg:=sg) (s:=bQ r.s) (by omega);by_cases ht:(bQ r.s).take sg.length=sg
  ·have hE:(((bs (bQ r.s)).extract 0 (bs sg).size).toList==(bs sg).toList)=true:=by rw[AY,jE,jE,dY,yE,XR,ht];simp
   have HP:=zh (hpi.2 ht);clear hl hpi ht;go_wp2_with fail;go_ret;rw[HA.o,ah HP.o];have hx:(bs (bQ r.s)).extract (bs sg).size (bs (bQ r.s)).size=bs ((bQ r.s).drop sg.length):=by rw[AY,dY,dY,jU (by simp)]
   rw[hx];exact⟨rfl,gG.trans bD.o HV.o (HI.o.AZ _ (by rw[Av];exact Nat.sub_le _ _))⟩
  ·have hE:(((bs (bQ r.s)).extract 0 (bs sg).size).toList==(bs sg).toList)=false:=by rw[AY,jE,jE,dY,yE,XR];simpa using ht
   have HP:=zh (show ¬sg <+: bQ r.s from fun h=>ht (hpi.1 h));clear hl hpi ht;go_wp2_with fail;go_ret;rw[HA.o,ae HP.o];exact⟨rfl,v1,HI.o,bD.o,HV.o⟩
theorem IP{s:Str}{k:Nat}(hk:k<=dn s):k<=s.length:=by cases s with|nil=>simpa[dn]using hk|cons c r=>have :Cz r<=r.length:=(agd _).length_le;rw[Qx]at hk;simp only[bn];split at hk<;>omega
theorem Fe{c:UInt8}:vE c=true↔97<=(c.toNat:Int)/\(c.toNat:Int)<=122:=by unfold vE;simp;omega
theorem CW{c:UInt8}:yG c=true↔65<=(c.toNat:Int)/\(c.toNat:Int)<=90:=by unfold yG;simp;omega
theorem MF{p:UInt8->Bool}:∀(l:Str)(k:Nat)(hk:k<l.length),k<=(l.takeWhile p).length->(k+1<=(l.takeWhile p).length↔p l[k]=true)|c::r,0,hk,h=>by rw[Xz,yx];cases p c<;>simp|c::r,k+1,hk,h=>by rw[Xz]at h ⊢;rw[G7];cases hp:p c with|false=>rw[hp]at h;simp at h|true=>rw[hp]at h;simp only[if_true,bn]at h ⊢;have :=MF (p:=p) r k (by simpa using hk) (by omega);rw[Nat.add_le_add_iff_right];exact this
theorem aiZ{s:Str}{k:Nat}(hk:k<=dn s)(hl:k<s.length):k+1<=dn s↔(vE s[k]=true\/(k=0/\yG (s[0]'(by omega))=true)):=by
 cases s with
  |nil=>simp at hl
  |cons c r=>
   rw[Qx]at hk ⊢;cases k with
    |zero=>
     simp only[yx,fH];by_cases h:(vE c||yG c)=true;·rw[ah h];simp only[yD]at h;exact⟨fun _=>h,fun _=>by omega⟩
     ·rw[ae h];simp only[yD]at h;exact⟨fun e=>by omega,fun e=>absurd e h⟩
    |succ k=>
     split at hk
     ·rename_i h;rw[ah h];have h1:k<=Cz r:=by omega
      have :=MF (p:=vE) r k (by simpa using hl) h1;rw[G7];constructor;·intro e;exact .inl (this.1 (by unfold Cz at e;omega))
      ·rintro(e|⟨e,_⟩);·have :=this.2 e;unfold Cz;omega
       ·omega
     ·omega
theorem Ru{s:Str}{S:ByteArray}{k:Nat}(hS:S=bs s)(hk:k=dn s):S.extract k S.size=bs (s.drop (dn s)):=by rw[hS,AY,dY,hk,jU (by simp)]
theorem Rv{s:Str}{S:ByteArray}{k:Nat}(hS:S=bs s)(hk:k=dn s):S.extract 0 k=bs (s.take (dn s)):=by rw[hS,AY,hk];simp
theorem Ff{B base g:Nat}{vv:Value}{r:Rd}{w:World}{s:Str}(h:bW B base g vv r.space w)(hs:bQ r.s=s):gG B base g vv {r with s:=s.drop (dn s)} w (w.setCell ⟨g,0,none⟩ (.string (bs (s.drop (dn s))))):=by have :=h.AZ (s.drop (dn s)) (by rw[<-hs];show _<=(bQ r.s).length;rw[Av];exact Nat.sub_le _ _);exact this
theorem ZL(s:Str)(hs:bQ r.s=s)(h:bW B base g vv r w):Calls Tryz.prog 88 #[.pointer (some ⟨g,0,none⟩)] w (fun e w'=>e= .returned (.string (bs (s.take (dn s))))/\gG B base g vv {r with s:=s.drop (dn s)} w w'):=by
 have HU:=zh h;have lH:=zh hs;have dV:=zh (qN h);clear h hs;go_enter Tryz.func88,Tryz.ntmps88;go_wp2_with fail;refine dV.o.mono ?_;rintro e w1⟨rfl,v1,h1,c1,o1⟩;have HI:=zh h1;have bD:=zh c1;have HV:=zh o1;obtain⟨b0,b1,b2,bf⟩:=h1.cells;have hgl:=h1.lt.1;have hlen:=h1.len;have e0:r.space.s=bQ r.s:=rfl;rw[e0,lH.o]at b0 hlen;obtain⟨S,hS⟩:∃S,S=bs s:=⟨_,rfl⟩;rw[<-hS]at b0;have hz1:S.size=s.length:=by rw[hS,dY]
 have HS:=zh hS;have HZ:=zh hz1;have hz2:S.size<=2000:=by omega
 have hsl:s.length<=2000:=by omega
 clear h1 c1 o1 hlen e0 hS hz1;go_wp2_with fail;go_loopw[3](fun i wr=>∃k:Nat,k<=dn s/\i= .int .i64 (k:Int)/\wr=w1)(fun i _=>s.length - (intOf i).toNat);case atStart=>exact⟨0,dD _,rfl,rfl⟩
 case round=>
  obtain⟨k,hk,rfl,rfl⟩:=hrel;have hks:=IP hk;have hk0:(0:Int)<=(k:Int):=zN _;by_cases hlt:k<s.length
  ·have hd:decide (k<S.size)=true:=by rw[HZ.o];simpa using hlt
   have hd':k<S.size:=by rw[HZ.o];exact hlt
   have hz:0<S.size:=by omega
   have hg1:S[k]=s[k]:=by have e:=HS.o;subst e;exact Ir s k hd'
   have hg0:S[0]=s[0]'(by omega):=by have e:=HS.o;subst e;exact Ir s 0 hz
   have HG:=zh (And.intro hg1 hg0);have HM:=zh (aiZ hk hlt);have hsame:k=0->s[0]'(by omega)=s[k]:=fun e=>by subst e;rfl
   have hn:k=0->((s[0]'(by omega)).toNat:Int)=(s[k].toNat:Int):=fun e=>by rw[hsame e]
   clear hg1 hg0 hsame;have hcs:(97<=(s[k].toNat:Int)/\(s[k].toNat:Int)<=122)\/(0<k/\(s[k].toNat:Int)<97)\/(k=0/\(s[k].toNat:Int)<97/\(s[k].toNat:Int)<65)\/(k=0/\65<=(s[k].toNat:Int)/\(s[k].toNat:Int)<=90)\/(k=0/\90<(s[k].toNat:Int)/\(s[k].toNat:Int)<97)\/(0<k/\122<(s[k].toNat:Int))\/(k=0/\122<(s[k].toNat:Int)):=by omega
   have hb0:0<=(s[k].toNat:Int):=by omega
   rcases hcs with h1|h1|h1|h1|h1|h1|h1
   ·obtain⟨h1,h2⟩:=h1;have f1:decide ((97:Int)<=(S[k].toNat:Int))=true:=by rw[HG.o.1];exact kJ (by omega)
    have f2:decide ((S[k].toNat:Int)<=(122:Int))=true:=by rw[HG.o.1];exact kJ (by omega)
    have hgo:=HM.o.2 (.inl (Fe.2 (by omega)));have hle:=Et (ags hgo) (IP (zL _));have nI:=zh hgo;clear h1 h2 hn hgo hle;go_wp2_with fail;all_goals
     first
      |
       (
        go_roundw;case rel=>exact⟨k+1,nI.o,by go_num,by first|rfl|trivial⟩
        case measure=>simp[intOf];omega)
   ·obtain⟨h1,h2⟩:=h1;have f1:decide ((97:Int)<=(S[k].toNat:Int))=false:=by rw[HG.o.1];exact decide_eq_false (by omega)
    have f3:((k:Int)==0)=false:=by rw[tY];omega
    have hno:¬k+1<=dn s:=fun e=>by
     rcases HM.o.1 e with h9|⟨h9,h8⟩;·have :=Fe.1 h9;omega
     ·omega
    have kR:k=dn s:=by have :=hk;omega
    have lI:=zh kR;clear h1 h2 hn hno kR;go_wp2_with fail;go_ret;rw[Rv HS.o lI.o,Ru HS.o lI.o];exact⟨rfl,gG.trans bD.o HV.o (Ff HI.o lH.o)⟩
   ·obtain⟨h1,h2,h3⟩:=h1;subst h1;have f1:decide ((97:Int)<=(S[0].toNat:Int))=false:=by rw[HG.o.2];exact decide_eq_false (by omega)
    have f4:decide ((65:Int)<=(S[0].toNat:Int))=false:=by rw[HG.o.2];exact decide_eq_false (by omega)
    have hno:¬0+1<=dn s:=fun e=>by
     rcases HM.o.1 e with h9|⟨h9,h8⟩;·have :=Fe.1 h9;omega
     ·have :=CW.1 h8;omega
    have kR:0=dn s:=by have :=hk;omega
    have lI:=zh kR;clear h2 h3 hn hno kR;go_wp2_with fail;go_ret;have hw:=Ff HI.o lH.o;rw[<-lI.o,yE,<-HS.o]at hw;rw[<-lI.o,yE,ng];exact⟨rfl,gG.trans bD.o HV.o hw⟩
   ·obtain⟨h1,h2,h3⟩:=h1;subst h1;have f1:decide ((97:Int)<=(S[0].toNat:Int))=false:=by rw[HG.o.2];exact decide_eq_false (by omega)
    have f4:decide ((65:Int)<=(S[0].toNat:Int))=true:=by rw[HG.o.2];exact kJ (by omega)
    have f5:decide ((S[0].toNat:Int)<=(90:Int))=true:=by rw[HG.o.2];exact kJ (by omega)
    have hgo:=HM.o.2 (.inr ⟨rfl,CW.2 (by omega)⟩);have hle:=Et (ags hgo) (IP (zL _));have nI:=zh hgo;clear h2 h3 hn hgo hle;go_wp2_with fail;all_goals
     first
      |
       (
        go_roundw;case rel=>exact⟨0+1,nI.o,by go_num,by first|rfl|trivial⟩
        case measure=>simp[intOf];omega)
   ·obtain⟨h1,h2,h3⟩:=h1;subst h1;have f1:decide ((97:Int)<=(S[0].toNat:Int))=false:=by rw[HG.o.2];exact decide_eq_false (by omega)
    have f4:decide ((65:Int)<=(S[0].toNat:Int))=true:=by rw[HG.o.2];exact kJ (by omega)
    have f5:decide ((S[0].toNat:Int)<=(90:Int))=false:=by rw[HG.o.2];exact decide_eq_false (by omega)
    have hno:¬0+1<=dn s:=fun e=>by
     rcases HM.o.1 e with h9|⟨h9,h8⟩;·have :=Fe.1 h9;omega
     ·have :=CW.1 h8;omega
    have kR:0=dn s:=by have :=hk;omega
    have lI:=zh kR;clear h2 h3 hn hno kR;go_wp2_with fail;go_ret;have hw:=Ff HI.o lH.o;rw[<-lI.o,yE,<-HS.o]at hw;rw[<-lI.o,yE,ng];exact⟨rfl,gG.trans bD.o HV.o hw⟩
   ·obtain⟨h1,h2⟩:=h1;have f1:decide ((97:Int)<=(S[k].toNat:Int))=true:=by rw[HG.o.1];exact kJ (by omega)
    have f2:decide ((S[k].toNat:Int)<=(122:Int))=false:=by rw[HG.o.1];exact decide_eq_false (by omega)
    have f3:((k:Int)==0)=false:=by rw[tY];omega
    have hno:¬k+1<=dn s:=fun e=>by
     rcases HM.o.1 e with h9|⟨h9,h8⟩;·have :=Fe.1 h9;omega
     ·omega
    have kR:k=dn s:=by have :=hk;omega
    have lI:=zh kR;clear h1 h2 hn hno kR;go_wp2_with fail;go_ret;rw[Rv HS.o lI.o,Ru HS.o lI.o];exact⟨rfl,gG.trans bD.o HV.o (Ff HI.o lH.o)⟩
   ·obtain⟨h1,h2⟩:=h1;subst h1;have f1:decide ((97:Int)<=(S[0].toNat:Int))=true:=by rw[HG.o.2];exact kJ (by omega)
    have f2:decide ((S[0].toNat:Int)<=(122:Int))=false:=by rw[HG.o.2];exact decide_eq_false (by omega)
    have f4:decide ((65:Int)<=(S[0].toNat:Int))=true:=by rw[HG.o.2];exact kJ (by omega)
    have f5:decide ((S[0].toNat:Int)<=(90:Int))=false:=by rw[HG.o.2];exact decide_eq_false (by omega)
    have hno:¬0+1<=dn s:=fun e=>by
     rcases HM.o.1 e with h9|⟨h9,h8⟩;·have :=Fe.1 h9;omega
     ·have :=CW.1 h8;omega
    have kR:0=dn s:=by have :=hk;omega
    have lI:=zh kR;clear h2 hn hno kR;go_wp2_with fail;go_ret;have hw:=Ff HI.o lH.o;rw[<-lI.o,yE,<-HS.o]at hw;rw[<-lI.o,yE,ng];exact⟨rfl,gG.trans bD.o HV.o hw⟩
  ·have hd:decide (k<S.size)=false:=by rw[HZ.o];simpa using hlt
   have kR:k=dn s:=by have :=IP (Nat.le_refl (dn s));omega
   have lI:=zh kR;have hle:k<=S.size:=by rw[HZ.o];exact hks
   clear kR;go_wp2_with fail;go_ret;rw[Rv HS.o lI.o,Ru HS.o lI.o];exact⟨rfl,gG.trans bD.o HV.o (Ff HI.o lH.o)⟩
end
