import Derived.Test.YtlpmfkpefoegeacPProve2
import Derived.Test.YtlpmfkpefoegeacQSameEv
namespace Go.Proofs.Ytlpmfkpefoegeac
set_option maxRecDepth 100000
set_option maxHeartbeats 16000000
set_option linter.all false
def n4:Tm:= .mk 2 4 ByteArray.empty []
def v0:Tm:= .mk 0 0 ByteArray.empty []
def p4:Tm:= .mk 3 0 ⟨#[112]⟩ [n4]
def pV:Tm:= .mk 3 0 ⟨#[112]⟩ [v0]
def c4:Cl:=⟨p4,[],0⟩
theorem pgood{x:Tm}{N:Int}(hx:x.Good N):(Tm.mk 3 0 ⟨#[112]⟩ [x]).Good N:=by
 refine .comp _ _ ?_ (by decide+kernel) (by simp) (by simp) (fun t ht=>?_)
 ·refine .inr ⟨by decide,by decide,fun i h=>?_⟩;have :i=0:=by have :(⟨#[112]⟩:ByteArray).size=1:=rfl;omega
  subst this;show(97:Int)<=((112:UInt8).toNat:Int)/\((112:UInt8).toNat:Int)<=122;decide
 ·simp only[List.mem_singleton]at ht;subst ht;exact hx
theorem Zhq{x:Tm}:¬(Tm.mk 3 0 ⟨#[112]⟩ [x]).Known:=by
 have h:(⟨#[112]⟩:ByteArray).toList=[112]:=by decide+kernel
 simp[Tm.Known,Tm.args,Tm.s,h]
theorem ZmZ:GoodP [c4]:=by refine⟨by decide,fun c hc=>?_⟩;simp only[List.mem_singleton]at hc;subst hc;exact⟨⟨by decide,by decide,by decide,by simp[c4]⟩,.inr rfl,⟨pgood (.int 4 (by omega) (by omega)),by decide⟩,Zhq⟩
theorem Zm0:ZbZ [pV] 1:=by refine⟨by omega,by omega,by decide,fun g hg=>?_⟩;simp only[List.mem_singleton]at hg;subst hg;exact⟨.inr rfl,pgood (.var 0 (by omega) (by omega)),by decide⟩
theorem ZkK(E:Env):slook E n4=n4:=Zay (.inl (by decide))
theorem ZnD(E:Env)(x:Tm):slook E (.mk 3 0 ⟨#[112]⟩ [x])= .mk 3 0 ⟨#[112]⟩ [x]:=Zay (.inl (by simp[Tm.kind]))
theorem Zm1:slook [] v0=v0:=Zay (.inr rfl)
theorem Zl2:slook [(0,n4)] v0=n4:=by simp[slook,Zbg,v0,Tm.kind,Tm.n,eget,n4]
theorem ZnZ:uniS 400 [(p4,pV)] []=⟨true,[(0,n4)],397⟩:=by
 rw[uniS];simp only[p4,pV,ZnD];rw[if_neg (by simp[Tm.kind]),if_neg (by simp[Tm.kind]),if_neg (by simp[Tm.kind,Tm.n,Tm.s,Tm.args])];simp only[Tm.args,List.zip_cons_cons,List.zip_nil_right,List.append_nil];rw[uniS];simp only[ZkK,Zm1];rw[if_neg (by simp[n4,Tm.kind]),if_pos (.inr (by simp[v0,Tm.kind]))];have hk:v0.kind=0:=rfl;have hn:v0.n=0:=rfl;have h4:n4.kind=2:=rfl;simp only[hk,hn,if_true];have hin:inS [] 0 398 [n4]=(false,397):=by rw[Zcx,ZkK,if_neg (by rw[h4];omega)];rfl
 rw[hin];rw[if_neg (by simp)];rw[Zb3];rfl
theorem Zl3(d:Int):ZaH p4 d=p4:=by simp[ZaH,p4,n4,Tm.ren,Tm.renL]
theorem Zm2:Zca [c4] [pV] 1 9=([⟨1,[n4]⟩,⟨2,[]⟩],0):=by
 rcases ZcA [c4] [pV] 1 9 with⟨h,_⟩|⟨_,h,_⟩|⟨_,_,_,h⟩;·exact absurd ⟨ZmZ,Zm0⟩ h
 ·omega
 rw[h];have hn:(1:Int).toNat=1:=rfl;have hf:(9:Int).toNat=9:=rfl;rw[hn,hf];have hl:ZbK c4.head pV:=⟨rfl,rfl⟩;have hc:Zbb [c4] ⟨pV,0⟩ [] 1 0 ⟨[],[],1,8,[]⟩=(.next [],⟨[(0,n4)],[],1,8,[]⟩):=by rw[Zbb];simp only[List.getElem?_cons_zero];rw[if_neg (not_not_intro hl)];simp only[show c4.head=p4 from rfl,Zl3,ZnZ];rw[if_neg (by omega),if_neg (by simp)];simp[ZdK,c4,ZbU]
 have hs:ZbC [c4] ⟨pV,0⟩ [] ⟨[],[],1,9,[]⟩=(.next [],⟨[(0,n4)],[],1,8,[]⟩):=by unfold ZbC;simp only;rw[if_neg (by omega),if_neg (show ¬pV.Known from Zhq),if_neg (fun h=>h c4 (by simp) hl)];simp only[List.length_singleton,hc]
 have ha:ZaV 1 ⟨[(0,n4)],[],1,8,[]⟩=(true,⟨[(0,n4)],[],1,8,[⟨1,[n4]⟩]⟩):=by
  have hfl:flL [(0,n4)] 200 [tvar (0:Nat)]=some ([n4],199):=by rw[flL,show slook [(0,n4)] (tvar ((0:Nat):Int))=n4 from Zl2];simp[Zb8,n4,Tm.args,Tm.kind,Tm.n,Tm.s]
  unfold ZaV;rw[show(List.range 1).map (fun i=>tvar (i:Nat))=[tvar (0:Nat)]from rfl,hfl];have ht:tidy [n4]=[n4]:=by simp[tidy,Tm.renSL,Tm.renS,n4,Tm.num]
  simp[ht]
 have hb:Zbj [c4] [] ⟨[(0,n4)],[],1,8,[⟨1,[n4]⟩]⟩=(.off,⟨[(0,n4)],[],1,8,[⟨1,[n4]⟩,⟨2,[]⟩]⟩):=by simp[Zbj,Sv.put]
 rw[show List.map (fun t=>(⟨t,0⟩:Gl)) [pV]=[⟨pV,0⟩]from rfl,Ze3,hs];simp only;rw[Ze3,ha];simp only[hb]
end Go.Proofs.Ytlpmfkpefoegeac
namespace Go.Proofs.Ytlpmfkpefoegeac
set_option maxRecDepth 100000
set_option maxHeartbeats 16000000
set_option linter.all false
open Go.RowKit
theorem Zm3{A:Nat->Prop}{w:World}{c:Cl}{us:List Value}(hA:A w.heap.size)(hc:Cl.rep A w c us)(hl:us.length=6):Zj5 A (w.alloc (.cells us.toArray 59)) [c] (.slice (some ⟨w.heap.size,0,none⟩) 1 1):=⟨w.heap.size,0,⟨by simp,.inr ⟨by simp,hA,1,rfl,by simp,by simp[maxLen]⟩⟩,ZcI Cl.rep_lasts _ hl hc⟩
theorem ZgL{A:Nat->Prop}{w:World}{t:Tm}{us:List Value}(hA:A w.heap.size)(ht:Tm.rep A w t us)(hl:us.length=4):TmsR A (w.alloc (.cells us.toArray 43)) [t] (.slice (some ⟨w.heap.size,0,none⟩) 1 1):=⟨w.heap.size,0,⟨by simp,.inr ⟨by simp,hA,1,rfl,by simp,by simp[maxLen]⟩⟩,ZcI Tm.rep_lasts _ hl ht⟩
theorem Zhr(w:World):(fun W=>Zj5 (fun b=>b<W.heap.size) W [c4] (.slice (some ⟨w.heap.size+1,0,none⟩) 1 1)/\TmsR (fun b=>b<W.heap.size) W [pV] (.slice (some ⟨w.heap.size+3,0,none⟩) 1 1)/\Below w.heap.size w W) ((((w.alloc (.cells #[.int .i64 2,.int .i64 4,.string ByteArray.empty,.slice none 0 0] 43)).alloc (.cells #[.int .i64 3,.int .i64 0,.string ⟨#[112]⟩,.slice (some ⟨w.heap.size,0,none⟩) 1 1,.slice none 0 0,.int .i64 0] 59)).alloc (.cells #[.int .i64 0,.int .i64 0,.string ByteArray.empty,.slice none 0 0] 43)).alloc (.cells #[.int .i64 3,.int .i64 0,.string ⟨#[112]⟩,.slice (some ⟨w.heap.size+2,0,none⟩) 1 1] 43)):=by
 have i0:I64 0:=by unfold I64;omega
 have i2:I64 2:=by unfold I64;omega
 have i3:I64 3:=by unfold I64;omega
 have i4:I64 4:=by unfold I64;omega
 have A:=fun(b:Nat)=>b<w.heap.size+4;have h1:Tm.rep (fun b=>b<w.heap.size+4) w n4 [.int .i64 2,.int .i64 4,.string ByteArray.empty,.slice none 0 0]:=by rw[n4,Tm.rep_iff];exact⟨i2,i4,by decide,_,rfl,SlR.nil ..⟩
 have h2:=ZgL (A:=fun b=>b<w.heap.size+4) (w:=w) (by omega) h1 rfl;generalize hw1:w.alloc (.cells [Value.int .i64 2,.int .i64 4,.string ByteArray.empty,.slice none 0 0].toArray 43)=w1 at h2;have hs1:w1.heap.size=w.heap.size+1:=by rw[<-hw1];simp
 have hb1:Below w.heap.size w w1:=by rw[<-hw1];exact(zB _ _).alloc (zL _) _
 have h3:Cl.rep (fun b=>b<w.heap.size+4) w1 c4 [.int .i64 3,.int .i64 0,.string ⟨#[112]⟩,.slice (some ⟨w.heap.size,0,none⟩) 1 1,.slice none 0 0,.int .i64 0]:=by refine⟨some ⟨w.heap.size,0,none⟩,1,none,0,rfl,?_,SlR.nil ..,i0⟩;rw[show c4.head=Tm.mk 3 0 ⟨#[112]⟩ [n4]from rfl,Tm.rep_iff];exact⟨i3,i0,by decide,_,rfl,h2⟩
 have h4:=Zm3 (A:=fun b=>b<w.heap.size+4) (w:=w1) (by omega) h3 rfl;rw[hs1]at h4;generalize hw2:w1.alloc (.cells [Value.int .i64 3,.int .i64 0,.string ⟨#[112]⟩,.slice (some ⟨w.heap.size,0,none⟩) 1 1,.slice none 0 0,.int .i64 0].toArray 59)=w2 at h4;have hs2:w2.heap.size=w.heap.size+2:=by rw[<-hw2];simp;omega
 have hb2:Below w.heap.size w w2:=by rw[<-hw2];exact hb1.alloc (by omega) _
 have h5:Tm.rep (fun b=>b<w.heap.size+4) w2 v0 [.int .i64 0,.int .i64 0,.string ByteArray.empty,.slice none 0 0]:=by rw[v0,Tm.rep_iff];exact⟨i0,i0,by decide,_,rfl,SlR.nil ..⟩
 have h6:=ZgL (A:=fun b=>b<w.heap.size+4) (w:=w2) (by omega) h5 rfl;rw[hs2]at h6;have h4':=SlR.keeps Cl.rep_lasts h4 (Keeps.alloc _ w2 (.cells [Value.int .i64 0,.int .i64 0,.string ByteArray.empty,.slice none 0 0].toArray 43));generalize hw3:w2.alloc (.cells [Value.int .i64 0,.int .i64 0,.string ByteArray.empty,.slice none 0 0].toArray 43)=w3 at h6 h4';have hs3:w3.heap.size=w.heap.size+3:=by rw[<-hw3];simp;omega
 have hb3:Below w.heap.size w w3:=by rw[<-hw3];exact hb2.alloc (by omega) _
 have h7:Tm.rep (fun b=>b<w.heap.size+4) w3 pV [.int .i64 3,.int .i64 0,.string ⟨#[112]⟩,.slice (some ⟨w.heap.size+2,0,none⟩) 1 1]:=by rw[show pV=Tm.mk 3 0 ⟨#[112]⟩ [v0]from rfl,Tm.rep_iff];exact⟨i3,i0,by decide,_,rfl,h6⟩
 have h8:=ZgL (A:=fun b=>b<w.heap.size+4) (w:=w3) (by omega) h7 rfl;rw[hs3]at h8;have h4'':=SlR.keeps Cl.rep_lasts h4' (Keeps.alloc _ w3 (.cells [Value.int .i64 3,.int .i64 0,.string ⟨#[112]⟩,.slice (some ⟨w.heap.size+2,0,none⟩) 1 1].toArray 43));have hs4:(w3.alloc (.cells [Value.int .i64 3,.int .i64 0,.string ⟨#[112]⟩,.slice (some ⟨w.heap.size+2,0,none⟩) 1 1].toArray 43)).heap.size=w.heap.size+4:=by simp;omega
 subst hw1;subst hw2;subst hw3;simp only;refine⟨?_,?_,hb3.alloc (by omega) _⟩;·exact SlR.mono Cl.rep_lasts (by omega) h4'' (fun b _ hb=>Nat.lt_of_lt_of_eq hb hs4.symm)
 ·exact SlR.mono Tm.rep_lasts (by omega) h8 (fun b _ hb=>Nat.lt_of_lt_of_eq hb hs4.symm)
end Go.Proofs.Ytlpmfkpefoegeac
