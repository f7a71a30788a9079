import Derived.Test.YtlpmfkpefoegeacGreatDoorQSolveZ
namespace Go.Proofs.YtlpmfkpefoegeacGreatDoor
set_option maxRecDepth 99999
set_option maxHeartbeats 0
set_option linter.all false
open Go.RowKit
theorem axa{s s':ByteArray}(h:¬s=s'):¬s.toList=s'.toList:=by intro e;rw[F8,F8]at e;apply h;cases s;cases s';congr 1;exact acf.1 e
theorem alF{α:Type}{l l':List α}{k:Nat}(h:l.take k=l'.take k)(h1:k<l.length)(h2:k<l'.length)(he:l[k]=l'[k]):l.take (k+1)=l'.take (k+1):=by rw[dX h1,dX h2,h,he]
def abR(f:FuncId)(t:Tm):Prop:=∀(t':Tm)(A:Nat->Prop)(w:World)(us vs:List Value),Tm.rep A w t us->Tm.rep A w t' vs->Calls Tryz.prog f #[.agg us.toArray,.agg vs.toArray] w (Pure w fun v _=>∃r,v= .bool r/\(r=true↔t=t'))
theorem axb(k n:Int)(s:ByteArray)(l:List Tm)(ih:∀t∈l,abR 45 t):abR 45 (.mk k n s l):=by
 rintro⟨k',n',s',l'⟩A w us vs hu hv;rw[Tm.gL]at hu hv;obtain⟨hk,hn,hs,u,rfl,hl⟩:=hu;obtain⟨hk',hn',hs',v,rfl,hl'⟩:=hv;obtain⟨a,cap,b,off,rfl,hlc,hcm,hlb,ha,he⟩:=hl.at;obtain⟨a',cap',b',off',rfl,GU,hcm',GV,ha',he'⟩:=hl'.at;have HE:=zh he;have HA:=zh ha;have ku:=zh he';have rE:=zh ha';have IH:=zh ih;clear he ha he' ha' hl hl' ih;by_cases e1:k=k'
 ·subst e1;by_cases e2:n=n'
  ·subst e2;by_cases e3:s=s'
   ·subst e3;by_cases e4:l.length=l'.length
    ·have E4:=zh e4;rw[<-e4]at GU GV rE ⊢;clear e4;go_enter Tryz.func45,Tryz.ntmps45;go_wp2_with fail;go_loopw[37](fun i wr=>∃j:Nat,j<=l.length/\i= .int .i64 j/\Below (w.heap.size+2) ((w.alloc (.cells #[.int .i64 k,.int .i64 n,.string s,.slice a l.length cap] 34)).alloc (.cells #[.int .i64 k,.int .i64 n,.string s,.slice a' l.length cap'] 34)) wr/\l.take j=l'.take j)(fun i _=>l.length - (intOf i).toNat);case atStart=>exact⟨0,dn _,rfl,zB _ _,by simp⟩
     case round=>
      obtain⟨j,hj,rfl,hb,hpre⟩:=hrel;have HB:=zh hb;have HP:=zh hpre;have hz:=hb.size;simp only[bQ]at hz;clear hb hpre;by_cases hlt:j<l.length
      ·have hlt':j<l'.length:=by have :=E4.out;omega
       obtain⟨rfl,bC⟩:=HA.o (by omega);obtain⟨rfl,Pk⟩:=rE.o (by omega);have hk2:af A w wr:=((af.alloc _ _ _).trans (af.alloc _ _ _)).trans (af.ob (HB.o.mono (by simp)));obtain⟨sa,sc,c0,c1,c2,c3,hr⟩:=gq HE.o bC hk2 hlt;obtain⟨sa',eQ,d0,d1,d2,d3,hr'⟩:=gq ku.o Pk hk2 hlt';have f0:wr.cell? ⟨w.heap.size,3,none⟩=some (.slice (some ⟨b,off,none⟩) l.length cap):=by rw[HB.o.cell (by simp)];simp
       have f1:wr.cell? ⟨w.heap.size+1,3,none⟩=some (.slice (some ⟨b',off',none⟩) l.length cap'):=by rw[HB.o.cell (by simp)];simp
       have HC:=zh (IH.out _ (bO hlt) _ _ _ _ _ (Tm.aj.1 _ _ _ _ _ hr (af.drew _ _)) (Tm.aj.1 _ _ _ _ _ hr' (af.drew _ _)));clear hr hr' hk2;go_wp2_with fail;go_region_held3(fun w'=>w'.cell? ⟨w.heap.size,3,none⟩=some (.slice (some ⟨b,off,none⟩) l.length cap)/\w'.cell? ⟨w.heap.size+1,3,none⟩=some (.slice (some ⟨b',off',none⟩) l.length cap')/\w'.cell? ⟨b,off+j*4,none⟩=some (.int .i64 l[j].kind)/\w'.cell? ⟨b,off+j*4+1,none⟩=some (.int .i64 l[j].n)/\w'.cell? ⟨b,off+j*4+2,none⟩=some (.string l[j].s)/\w'.cell? ⟨b,off+j*4+3,none⟩=some (.slice sa l[j].args.length sc)/\w'.cell? ⟨b',off'+j*4,none⟩=some (.int .i64 l'[j].kind)/\w'.cell? ⟨b',off'+j*4+1,none⟩=some (.int .i64 l'[j].n)/\w'.cell? ⟨b',off'+j*4+2,none⟩=some (.string l'[j].s)/\w'.cell? ⟨b',off'+j*4+3,none⟩=some (.slice sa' l'[j].args.length eQ))(first|exact⟨f0,f1,c0,c1,c2,c3,d0,d1,d2,d3⟩|exact⟨bc hb1 f0,bc hb1 f1,bc hb1 c0,bc hb1 c1,bc hb1 c2,bc hb1 c3,bc hb1 d0,bc hb1 d1,bc hb1 d2,bc hb1 d3⟩)((go_at_call 45;refine(HC.o).mono ?_;rintro e w1⟨v,rfl,hb1,r,rfl,hr⟩));have HB1:=zh (HB.o.drew.trans (hb1.mono (by simp;omega)));have HR:=zh hr;clear hr hb1 HC c0 c1 c2 c3 d0 d1 d2 d3 f0 f1;cases r with
        |false=>go_wp2_with fail;go_ret;refine⟨_,rfl,eB (eB (HB1.o.mono (by simp))),false,rfl,?_⟩;have h1:=HR.o;simp only[mD,false_iff,Tm.mk.injEq,dL]at h1 ⊢;rintro rfl;exact h1 rfl
        |true=>
         go_wp2_with fail;go_roundw;case rel=>exact⟨j+1,by omega,by go_num,HB1.o,alF HP.o hlt hlt' (by simpa using HR.o)⟩
         case measure=>simp[intOf];omega
      ·go_wp2_with fail;go_ret;refine⟨_,rfl,eB (eB (HB.o.mono (by simp))),true,rfl,?_⟩;have h1:=HP.o;have h2:=E4.out;rw[iZ (by omega),iZ (by omega)]at h1;simp[h1]
    ·have e4':((l.length:Int)!= (l'.length:Int))=true:=by simp;omega
     go_enter Tryz.func45,Tryz.ntmps45;go_wp2_with fail;go_ret;refine⟨_,rfl,((zB _ _).alloc (zL _) _).alloc (by simp) _,false,rfl,by simp;rintro rfl;exact e4 rfl⟩
   ·have e3':=axa e3;go_enter Tryz.func45,Tryz.ntmps45;go_wp2_with fail;go_ret;refine⟨_,rfl,((zB _ _).alloc (zL _) _).alloc (by simp) _,false,rfl,by simp[e3]⟩
  ·have e2':(n != n')=true:=by simpa using e2
   go_enter Tryz.func45,Tryz.ntmps45;go_wp2_with fail;go_ret;refine⟨_,rfl,((zB _ _).alloc (zL _) _).alloc (by simp) _,false,rfl,by simp[e2]⟩
 ·have CX:(k != k')=true:=by simpa using e1
  go_enter Tryz.func45,Tryz.ntmps45;go_wp2_with fail;go_ret;refine⟨_,rfl,((zB _ _).alloc (zL _) _).alloc (by simp) _,false,rfl,by simp[e1]⟩
theorem axc:∀t,abR 45 t:=by intro t;induction t using Tm.induct with|h k n s l ih=>exact axb k n s l ih
theorem U9{A:Nat->Prop}{w wr:World}{l:List Ev}{b off:Nat}(he:mF A w 2 yC l b off)(hA:A b)(hk:af A w wr){k:Nat}(hlt:k<l.length):∃a cap,wr.cell? ⟨b,off+k*2,none⟩=some (.int .i64 l[k].kind)/\wr.cell? ⟨b,off+k*2+1,none⟩=some (.slice a l[k].terms.length cap)/\eP A wr l[k].terms (.slice a l[k].terms.length cap)/\aA l[k].kind:=by obtain⟨vs,hvl,PR,hrow⟩:=he k _ (aT hlt);have hrow':=nz.keeps hA hrow hk;obtain⟨v,rfl,hv,hi⟩:=PR;obtain⟨a,cap, -, -,rfl, -⟩:=au.at hv;exact⟨a,cap,hrow' 0 _ rfl,hrow' 1 _ rfl,au.keeps Tm.aj hv hk,hi⟩
theorem axd{a b:Ev}(h1:a.kind=b.kind)(h2:a.terms=b.terms):a=b:=by cases a;cases b;simp only at h1 h2;subst h1;subst h2;rfl
theorem axe{α:Type}{l l':List α}{j:Nat}(h:l.take j=l'.take j)(h1:j<l.length)(h2:j<l'.length)(e:l[j]=l'[j]):l.take (j+1)=l'.take (j+1):=by rw[dX h1,dX h2,h,e]
def n4:Tm:= .mk 2 4 .empty []
def v0:Tm:= .mk 0 0 .empty []
def p4:Tm:= .mk 3 0 ⟨#[112]⟩ [n4]
def pV:Tm:= .mk 3 0 ⟨#[112]⟩ [v0]
def c4:Cl:=⟨p4,[],0⟩
theorem alG{x:Tm}{N:Int}(hx:x.Good N):(Tm.mk 3 0 ⟨#[112]⟩ [x]).Good N:=by
 refine .comp _ _ ?_ (by decide+kernel) (by simp) (by simp) (fun t ht=>?_)
 ·refine .inr ⟨by decide,by decide,fun i h=>?_⟩;have :i=0:=by have :(⟨#[112]⟩:ByteArray).size=1:=rfl;omega
  subst this;show(97:Int)<=((112:UInt8).toNat:Int)/\((112:UInt8).toNat:Int)<=122;decide
 ·simp only[gB]at ht;subst ht;exact hx
theorem alH{x:Tm}:¬(Tm.mk 3 0 ⟨#[112]⟩ [x]).gF:=by
 have h:(⟨#[112]⟩:ByteArray).toList=[112]:=by decide+kernel
 simp[Tm.gF,Tm.args,Tm.s,h]
theorem axf:dW [c4]:=by refine⟨by decide,fun c hc=>?_⟩;simp only[gB]at hc;subst hc;exact⟨⟨by decide,by decide,by decide,by simp[c4]⟩,.inr rfl,⟨alG (.int 4 (by omega) (by omega)),by decide⟩,alH⟩
theorem axg:fP [pV] 1:=by refine⟨by omega,by omega,by decide,fun g hg=>?_⟩;simp only[gB]at hg;subst hg;exact⟨.inr rfl,alG (.var 0 (by omega) (by omega)),by decide⟩
theorem alI(E:Env):ax E n4=n4:=iA (.inl (by decide))
theorem axh(E:Env)(x:Tm):ax E (.mk 3 0 ⟨#[112]⟩ [x])= .mk 3 0 ⟨#[112]⟩ [x]:=iA (.inl (by simp[Tm.kind]))
theorem axi:ax [] v0=v0:=iA (.inr rfl)
theorem axj:ax [(0,n4)] v0=n4:=by simp[ax,jN,v0,Tm.kind,Tm.n,jM,n4]
theorem axk:bM 400 [(p4,pV)] []=⟨true,[(0,n4)],397⟩:=by
 rw[bM];simp only[p4,pV,axh];rw[ag (by simp[Tm.kind]),ag (by simp[Tm.kind]),ag (by simp[Tm.kind,Tm.n,Tm.s,Tm.args])];simp only[Tm.args,List.zip_cons_cons,List.zip_nil_right,tN];rw[bM];simp only[alI,axi];rw[ag (by simp[n4,Tm.kind]),ai (.inr (by simp[v0,Tm.kind]))];have hk:v0.kind=0:=rfl;have hn:v0.n=0:=rfl;have h4:n4.kind=2:=rfl;simp only[hk,hn,if_true];have hin:fq [] 0 398 [n4]=(false,397):=by rw[Ke,alI,ag (by rw[h4];omega)];rfl
 rw[hin];rw[ag (by simp)];rw[AR];rfl
theorem axl(d:Int):dN p4 d=p4:=by simp[dN,p4,n4,Tm.ren,Tm.qx]
theorem axm:wH [c4] [pV] 1 9=([⟨1,[n4]⟩,⟨2,[]⟩],0):=by
 rcases RF [c4] [pV] 1 9 with⟨h,_⟩|⟨_,h,_⟩|⟨_,_,_,h⟩;·exact absurd ⟨axf,axg⟩ h
 ·omega
 rw[h];have hn:(1:Int).toNat=1:=rfl;have hf:(9:Int).toNat=9:=rfl;rw[hn,hf];have hl:iJ c4.head pV:=⟨rfl,rfl⟩;have hc:lG [c4] ⟨pV,0⟩ [] 1 0 ⟨[],[],1,8,[]⟩=(.next [],⟨[(0,n4)],[],1,8,[]⟩):=by rw[lG];simp only[uO];rw[ag (dJ hl)];simp only[show c4.head=p4 from rfl,axl,axk];rw[ag (by omega),ag (by simp)];simp[xX,c4,kP]
 have hs:uY [c4] ⟨pV,0⟩ [] ⟨[],[],1,9,[]⟩=(.next [],⟨[(0,n4)],[],1,8,[]⟩):=by unfold uY;simp only;rw[ag (by omega),ag (show ¬pV.gF from alH),ag (fun h=>h c4 (by simp) hl)];simp only[jr,hc]
 have ha:rJ 1 ⟨[(0,n4)],[],1,8,[]⟩=(true,⟨[(0,n4)],[],1,8,[⟨1,[n4]⟩]⟩):=by
  have hfl:bL [(0,n4)] 200 [fw (0:Nat)]=some ([n4],199):=by rw[bL,show ax [(0,n4)] (fw ((0:Nat):Int))=n4 from axj];simp[xW,n4,Tm.args,Tm.kind,Tm.n,Tm.s]
  unfold rJ;rw[show(List.range 1).map (fun i=>fw (i:Nat))=[fw (0:Nat)]from rfl,hfl];have ht:tidy [n4]=[n4]:=by simp[tidy,Tm.aS,Tm.aH,n4,Tm.num]
  simp[ht]
 have hb:iK [c4] [] ⟨[(0,n4)],[],1,8,[⟨1,[n4]⟩]⟩=(.off,⟨[(0,n4)],[],1,8,[⟨1,[n4]⟩,⟨2,[]⟩]⟩):=by simp[iK,Sv.put]
 rw[show List.map (fun t=>(⟨t,0⟩:Gl)) [pV]=[⟨pV,0⟩]from rfl,rM,hs];simp only;rw[rM,ha];simp only[hb]
theorem axn{A:Nat->Prop}{w:World}{c:Cl}{us:List Value}(hA:A w.heap.size)(hc:Cl.rep A w c us)(hl:us.length=6):lW A (w.alloc (.cells us.toArray 65)) [c] (.slice (some ⟨w.heap.size,0,none⟩) 1 1):=⟨w.heap.size,0,⟨by simp,.inr ⟨by simp,hA,1,rfl,by simp,by simp[maxLen]⟩⟩,Gn Cl.aj _ hl hc⟩
theorem abS{A:Nat->Prop}{w:World}{t:Tm}{us:List Value}(hA:A w.heap.size)(ht:Tm.rep A w t us)(hl:us.length=4):eP A (w.alloc (.cells us.toArray 34)) [t] (.slice (some ⟨w.heap.size,0,none⟩) 1 1):=⟨w.heap.size,0,⟨by simp,.inr ⟨by simp,hA,1,rfl,by simp,by simp[maxLen]⟩⟩,Gn Tm.aj _ hl ht⟩
theorem axo(w:World):(fun W=>lW (fun b=>b<W.heap.size) W [c4] (.slice (some ⟨w.heap.size+1,0,none⟩) 1 1)/\eP (fun b=>b<W.heap.size) W [pV] (.slice (some ⟨w.heap.size+3,0,none⟩) 1 1)/\Below w.heap.size w W) ((((w.alloc (.cells #[.int .i64 2,.int .i64 4,.string .empty,.slice none 0 0] 34)).alloc (.cells #[.int .i64 3,.int .i64 0,.string ⟨#[112]⟩,.slice (some ⟨w.heap.size,0,none⟩) 1 1,.slice none 0 0,.int .i64 0] 65)).alloc (.cells #[.int .i64 0,.int .i64 0,.string .empty,.slice none 0 0] 34)).alloc (.cells #[.int .i64 3,.int .i64 0,.string ⟨#[112]⟩,.slice (some ⟨w.heap.size+2,0,none⟩) 1 1] 34)):=by
 have i0:aA 0:=by unfold aA;omega
 have i2:aA 2:=by unfold aA;omega
 have i3:aA 3:=by unfold aA;omega
 have i4:aA 4:=by unfold aA;omega
 have A:=fun(b:Nat)=>b<w.heap.size+4;have h1:Tm.rep (fun b=>b<w.heap.size+4) w n4 [.int .i64 2,.int .i64 4,.string .empty,.slice none 0 0]:=by rw[n4,Tm.gL];exact⟨i2,i4,by decide,_,rfl,au.nil ..⟩
 have h2:=abS (A:=fun b=>b<w.heap.size+4) (w:=w) (by omega) h1 rfl;generalize hw1:w.alloc (.cells [Value.int .i64 2,.int .i64 4,.string .empty,.slice none 0 0].toArray 34)=w1 at h2;have hs1:w1.heap.size=w.heap.size+1:=by rw[<-hw1];simp
 have hb1:Below w.heap.size w w1:=by rw[<-hw1];exact(zB _ _).alloc (zL _) _
 have h3:Cl.rep (fun b=>b<w.heap.size+4) w1 c4 [.int .i64 3,.int .i64 0,.string ⟨#[112]⟩,.slice (some ⟨w.heap.size,0,none⟩) 1 1,.slice none 0 0,.int .i64 0]:=by refine⟨some ⟨w.heap.size,0,none⟩,1,none,0,rfl,?_,au.nil ..,i0⟩;rw[show c4.head=Tm.mk 3 0 ⟨#[112]⟩ [n4]from rfl,Tm.gL];exact⟨i3,i0,by decide,_,rfl,h2⟩
 have h4:=axn (A:=fun b=>b<w.heap.size+4) (w:=w1) (by omega) h3 rfl;rw[hs1]at h4;generalize hw2:w1.alloc (.cells [Value.int .i64 3,.int .i64 0,.string ⟨#[112]⟩,.slice (some ⟨w.heap.size,0,none⟩) 1 1,.slice none 0 0,.int .i64 0].toArray 65)=w2 at h4;have hs2:w2.heap.size=w.heap.size+2:=by rw[<-hw2];simp;omega
 have hb2:Below w.heap.size w w2:=by rw[<-hw2];exact hb1.alloc (by omega) _
 have h5:Tm.rep (fun b=>b<w.heap.size+4) w2 v0 [.int .i64 0,.int .i64 0,.string .empty,.slice none 0 0]:=by rw[v0,Tm.gL];exact⟨i0,i0,by decide,_,rfl,au.nil ..⟩
 have h6:=abS (A:=fun b=>b<w.heap.size+4) (w:=w2) (by omega) h5 rfl;rw[hs2]at h6;have h4':=au.keeps Cl.aj h4 (af.alloc _ w2 (.cells [Value.int .i64 0,.int .i64 0,.string .empty,.slice none 0 0].toArray 34));generalize hw3:w2.alloc (.cells [Value.int .i64 0,.int .i64 0,.string .empty,.slice none 0 0].toArray 34)=w3 at h6 h4';have hs3:w3.heap.size=w.heap.size+3:=by rw[<-hw3];simp;omega
 have hb3:Below w.heap.size w w3:=by rw[<-hw3];exact hb2.alloc (by omega) _
 have h7:Tm.rep (fun b=>b<w.heap.size+4) w3 pV [.int .i64 3,.int .i64 0,.string ⟨#[112]⟩,.slice (some ⟨w.heap.size+2,0,none⟩) 1 1]:=by rw[show pV=Tm.mk 3 0 ⟨#[112]⟩ [v0]from rfl,Tm.gL];exact⟨i3,i0,by decide,_,rfl,h6⟩
 have h8:=abS (A:=fun b=>b<w.heap.size+4) (w:=w3) (by omega) h7 rfl;rw[hs3]at h8;have axp:=au.keeps Cl.aj h4' (af.alloc _ w3 (.cells [Value.int .i64 3,.int .i64 0,.string ⟨#[112]⟩,.slice (some ⟨w.heap.size+2,0,none⟩) 1 1].toArray 34));have hs4:(w3.alloc (.cells [Value.int .i64 3,.int .i64 0,.string ⟨#[112]⟩,.slice (some ⟨w.heap.size+2,0,none⟩) 1 1].toArray 34)).heap.size=w.heap.size+4:=by simp;omega
 subst hw1;subst hw2;subst hw3;simp only;refine⟨?_,?_,hb3.alloc (by omega) _⟩;·exact au.mono Cl.aj (by omega) axp (fun b _ hb=>Nat.lt_of_lt_of_eq hb hs4.symm)
 ·exact au.mono Tm.aj (by omega) h8 (fun b _ hb=>Nat.lt_of_lt_of_eq hb hs4.symm)
