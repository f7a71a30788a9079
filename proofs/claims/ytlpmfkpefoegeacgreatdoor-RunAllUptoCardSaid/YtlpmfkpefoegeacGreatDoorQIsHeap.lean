import Derived.Test.YtlpmfkpefoegeacGreatDoorQRen
namespace Go.Proofs.YtlpmfkpefoegeacGreatDoor
set_option maxRecDepth 99999
set_option maxHeartbeats 0
set_option linter.all false
open Go.RowKit
structure Ce where
  kind : Int
  n : Int
  s : ByteArray
  deriving DecidableEq, Inhabited
def Gs{α:Type}(f:α->List Value)(ok:α->Prop)(_:Nat->Prop)(_:World)(x:α)(vs:List Value):Prop:=ok x/\vs=f x
theorem Gt{α:Type}{f:α->List Value}{ok:α->Prop}(h1:∀x,∀u∈f x,u.oneCell'=true):iq (Gs f ok):=⟨fun A w w' x vs h _=>h,fun A A' w x vs h _=>h,fun A w x vs h=>by obtain⟨_,rfl⟩:=h;exact h1 x⟩
def Ce.vals(c:Ce):List Value:=[.int .i64 c.kind,.int .i64 c.n,.string c.s]
def Ce.Ok(c:Ce):Prop:=aA c.kind/\aA c.n/\c.s.size<=1048576
def Ce.rep:(Nat->Prop)->World->Ce->List Value->Prop:=Gs Ce.vals Ce.Ok
theorem Ce.aj:iq Ce.rep:=Gt fun x=>by simp[Ce.vals,Value.oneCell']
def AJ(n:Int):List Value:=[.int .i64 n]
def pE:(Nat->Prop)->World->Int->List Value->Prop:=Gs AJ aA
theorem aW:iq pE:=Gt fun x=>by simp[AJ,Value.oneCell']
def acL(b:Bool):List Value:=[.bool b]
abbrev rC:=au 3 Ce.rep
abbrev gD:=au 1 pE
structure Hp where
  cells : List Ce
  trail : List Int
  deriving DecidableEq, Inhabited
def Hp.rep(A:Nat->Prop)(w:World)(h:Hp)(vs:List Value):Prop:=∃c t,vs=[c,t]/\rC A w h.cells c/\gD A w h.trail t
theorem Hp.aj:iq Hp.rep:=by
 refine⟨fun A w w' x vs h hk=>?_,fun A A' w x vs h hA=>?_,fun A w x vs h=>?_⟩;·obtain⟨c,t,rfl,hc,ht⟩:=h;exact⟨c,t,rfl,hc.keeps Ce.aj hk,ht.keeps aW hk⟩
 ·obtain⟨c,t,rfl,hc,ht⟩:=h;exact⟨c,t,rfl,hc.mono Ce.aj (by omega) hA,ht.mono aW (by omega) hA⟩
 ·obtain⟨c,t,rfl,hc,ht⟩:=h;obtain⟨_,_,_,_,rfl,_⟩:=hc.at;obtain⟨_,_,_,_,rfl,_⟩:=ht.at;simp[Value.oneCell']
theorem Hp.rep.keeps{A:Nat->Prop}{w w':World}{h:Hp}{vs:List Value}(hh:Hp.rep A w h vs)(hk:af A w w'):Hp.rep A w' h vs:=Hp.aj.1 _ _ _ _ _ hh hk
theorem Hp.rep.below{A:Nat->Prop}{w w':World}{h:Hp}{vs:List Value}(hh:Hp.rep A w h vs)(hk:Below w.heap.size w w'):Hp.rep A w' h vs:=hh.keeps (af.ob hk)
theorem Hp.rep.mono{A A':Nat->Prop}{w:World}{h:Hp}{vs:List Value}(hh:Hp.rep A w h vs)(hA:∀b,b<w.heap.size->A b->A' b):Hp.rep A' w h vs:=Hp.aj.2.1 _ _ _ _ _ hh hA
theorem Hp.mG{A:Nat->Prop}{w:World}{h:Hp}{vs:List Value}(hh:Hp.rep A w h vs):∃a cap b aR,vs=[.slice a h.cells.length cap,.slice b h.trail.length aR]/\h.cells.length<=cap/\cap<=maxLen/\h.cells.length<=1048576/\h.trail.length<=aR/\aR<=maxLen/\h.trail.length<=1048576/\rC A w h.cells (.slice a h.cells.length cap)/\gD A w h.trail (.slice b h.trail.length aR):=by obtain⟨c,t,rfl,hc,ht⟩:=hh;obtain⟨a,cap,_,_,rfl,h1,h2,h3, -⟩:=hc.at;obtain⟨b,aR,_,_,rfl,h4,h5,h6, -⟩:=ht.at;exact⟨a,cap,b,aR,rfl,h1,h2,h3,h4,h5,h6,hc,ht⟩
theorem amt{w:World}{b off:Nat}{v0 v1 v2:Value}(h:nz w b off [v0,v1,v2]):w.cell? ⟨b,off,none⟩=some v0/\w.cell? ⟨b,off+1,none⟩=some v1/\w.cell? ⟨b,off+2,none⟩=some v2:=⟨h 0 _ rfl,h 1 _ rfl,h 2 _ rfl⟩
theorem xO{A:Nat->Prop}{w wr:World}{l:List Ce}{b off:Nat}(he:mF A w 3 Ce.rep l b off)(hA:A b)(hk:af A w wr){k:Nat}(hlt:k<l.length):wr.cell? ⟨b,off+k*3,none⟩=some (.int .i64 l[k].kind)/\wr.cell? ⟨b,off+k*3+1,none⟩=some (.int .i64 l[k].n)/\wr.cell? ⟨b,off+k*3+2,none⟩=some (.string l[k].s)/\aA l[k].kind/\aA l[k].n/\l[k].s.size<=1048576:=by obtain⟨vs,hvl,⟨⟨h1,h2,h3⟩,rfl⟩,hrow⟩:=he k _ (aT hlt);obtain⟨c0,c1,c2⟩:=amt (nz.keeps hA hrow hk);exact⟨c0,c1,c2,h1,h2,h3⟩
theorem Cr{A:Nat->Prop}{w wr:World}{l:List Int}{b off:Nat}(he:mF A w 1 pE l b off)(hA:A b)(hk:af A w wr){k:Nat}(hlt:k<l.length):wr.cell? ⟨b,off+k,none⟩=some (.int .i64 l[k])/\aA l[k]:=by obtain⟨vs,hvl,⟨h1,rfl⟩,hrow⟩:=he k _ (aT hlt);have :=(nz.keeps hA hrow hk) 0 _ rfl;exact⟨by simpa using this,h1⟩
def amu(w:World)(p:Prop)(e:Ending)(w':World):Prop:=∃r,e= .returned (.bool r)/\(r=true↔p)/\w=w'
def nA(s:ByteArray):Prop:=s=⟨#[33]⟩\/(1<=s.size/\s.size<=8/\∀i(h:i<s.size),97<=(s[i].toNat:Int)/\(s[i].toNat:Int)<=122)
theorem Gu{s s':ByteArray}(h:s.toList=s'.toList):s=s':=by rw[F8,F8]at h;cases s;cases s';congr 1;exact acf.1 h
theorem acM(s:ByteArray)(w:World)(hs:s.size<=1048576):Calls Tryz.prog 151 #[.string s] w (amu w (nA s)):=by
 have hc:(⟨#[33]⟩:ByteArray).toList=[33]:=by decide+kernel
 by_cases h1:s.toList=(⟨#[33]⟩:ByteArray).toList
 ·have h1b:(s.toList==[33])=true:=by rw[h1,hc];rfl
  have hn:nA s:= .inl (Gu h1);have HN:=zh hn;clear hn h1 hc;go_enter Tryz.func151,Tryz.ntmps151;go_wp2_with fail;go_ret;exact⟨true,rfl,by simp[HN.o],rfl⟩
 ·have h1':¬s=⟨#[33]⟩:=fun e=>h1 (by rw[e]);have h1b:(s.toList==[33])=false:=by rw[hc]at h1;simpa using h1
  have HN:=zh h1';clear h1' h1 hc;go_enter Tryz.func151,Tryz.ntmps151;go_wp2_with fail;go_loop[8](fun i=>∃k:Nat,k<=s.size/\i= .int .i64 k/\∀j(h:j<s.size),j<k->97<=(s[j].toNat:Int)/\(s[j].toNat:Int)<=122)(fun i=>s.size - (intOf i).toNat);case atStart=>exact⟨0,dn _,rfl,fun j _ h=>by omega⟩
  case round=>
   obtain⟨k,hk,rfl,hp⟩:=hrel;have HP:=zh hp;clear hp;by_cases hlt:k<s.size
   ·by_cases g1:(s[k].toNat:Int)<97
    ·go_wp2_with fail;go_ret;refine⟨false,rfl,?_,rfl⟩;simp only[mD,false_iff];rintro(h|⟨_,_,h⟩);·exact HN.o h
     ·have :=h k hlt;omega
    ·by_cases g2:122<(s[k].toNat:Int)
     ·go_wp2_with fail;go_ret;refine⟨false,rfl,?_,rfl⟩;simp only[mD,false_iff];rintro(h|⟨_,_,h⟩);·exact HN.o h
      ·have :=h k hlt;omega
     ·go_wp2_with fail;go_round;case rel=>
       refine⟨k+1,by omega,by go_num,fun j h hj=>?_⟩;by_cases hjk:j=k;·subst hjk;omega
       ·exact HP.o j h (by omega)
      case measure=>simp[intOf];omega
   ·have :k=s.size:=by omega
    subst this;by_cases g1:1<=s.size
    ·go_wp2_with fail;go_ret;refine⟨decide ((s.size:Int)<=8),by simp,?_,rfl⟩;rw[Vk];constructor;·exact fun h=> .inr ⟨g1,by omega,fun i hi=>HP.o i hi hi⟩
     ·rintro(h|⟨_,h,_⟩);·exact absurd h HN.o
      ·omega
    ·have g1':decide ((1:Int)<=(s.size:Int))=false:=by simp;omega
     go_wp2_with fail;go_ret;refine⟨false,by simp,?_,rfl⟩;simp only[mD,false_iff];rintro(h|⟨h,_,_⟩);·exact HN.o h
     ·omega
namespace Tm
inductive Good (vars : Int) : Tm → Prop where
  | var (n : Int) (h0 : 0 ≤ n) (h1 : n < vars) : Good vars (mk 0 n .empty [])
  | atom (s : ByteArray) (h : nA s) : Good vars (mk 1 0 s [])
  | int (n : Int) (h0 : -1099511627776 ≤ n) (h1 : n ≤ 1099511627776) : Good vars (mk 2 n .empty [])
  | comp (s : ByteArray) (l : List Tm) (h : nA s) (h1 : ¬ s.toList = [33]) (h2 : 1 ≤ l.length) (h3 : l.length ≤ 4) (h4 : ∀ t ∈ l, Good vars t) : Good vars (mk 3 0 s l)
end Tm
theorem toList_nil{s:ByteArray}:s.toList.isEmpty=true↔s=.empty:=by
 constructor;·intro h;refine Gu ?_;rw[List.isEmpty_iff]at h;rw[h];decide+kernel
 ·rintro rfl;decide+kernel
theorem VA{α:Type}{l:List α}:((l.length:Int)==0)=true↔l=[]:=by cases l<;>simp<;>omega
namespace Tm
theorem Gv{vars n:Int}{s:ByteArray}{l:List Tm}:Good vars (mk 0 n s l)↔decide (0<=n)=true/\decide (n<vars)=true/\s.toList.isEmpty=true/\((l.length:Int)==0)=true:=by
 rw[toList_nil,VA,Vk,Vk];constructor;·intro h;cases h with|var _ h0 h1=>exact⟨h0,h1,rfl,rfl⟩
 ·rintro⟨h0,h1,rfl,rfl⟩;exact .var n h0 h1
theorem JK{vars n:Int}{s:ByteArray}{l:List Tm}:Good vars (mk 1 n s l)↔(n==0)=true/\nA s/\((l.length:Int)==0)=true:=by
 rw[VA,xN];constructor;·intro h;cases h with|atom _ h=>exact⟨rfl,h,rfl⟩
 ·rintro⟨rfl,h,rfl⟩;exact .atom s h
theorem Gw{vars n:Int}{s:ByteArray}{l:List Tm}:Good vars (mk 2 n s l)↔decide (-1099511627776<=n)=true/\decide (n<=1099511627776)=true/\s.toList.isEmpty=true/\((l.length:Int)==0)=true:=by
 rw[toList_nil,VA,Vk,Vk];constructor;·intro h;cases h with|int _ h0 h1=>exact⟨h0,h1,rfl,rfl⟩
 ·rintro⟨h0,h1,rfl,rfl⟩;exact .int n h0 h1
theorem Cs{vars n:Int}{s:ByteArray}{l:List Tm}:Good vars (mk 3 n s l)↔(n != 0)=false/\nA s/\(s.toList==[33])=false/\decide ((l.length:Int)<1)=false/\decide (4<(l.length:Int))=false/\∀t∈l,Good vars t:=by
 rw[bne_eq_false_iff_eq,alN,alN,beq_eq_false_iff_ne];constructor;·intro h;cases h with|comp _ _ h h1 h2 h3 h4=>exact⟨rfl,h,h1,by omega,by omega,h4⟩
 ·rintro⟨rfl,h,h1,h2,h3,h4⟩;exact .comp s l h h1 (by omega) (by omega) h4
theorem acN{vars:Int}{t:Tm}(h:Good vars t):t.kind=0\/t.kind=1\/t.kind=2\/t.kind=3:=by cases h<;>simp[kind]
end Tm
def VB(t:Tm):Prop:=∀(vars:Int)(A:Nat->Prop)(w:World)(vs:List Value),aA vars->Tm.rep A w t vs->Calls Tryz.prog 126 #[.agg vs.toArray,.int .i64 vars] w (Pure w fun v _=>∃r,v= .bool r/\(r=true↔t.Good vars))
theorem amv(k n:Int)(s:ByteArray)(l:List Tm)(ih:∀t∈l,VB t):VB (.mk k n s l):=by
 intro vars A w vs hvars hv;rw[Tm.gL]at hv;obtain⟨hk,hn,hs,v,rfl,hl⟩:=hv;obtain⟨a,cap,b,off,rfl,hlc,hcm,hlb,ha,he⟩:=hl.at;have HE:=zh he;have HA:=zh ha;have IH:=zh ih;have Gx:=zh hvars;have HB0:=zh (show Below w.heap.size w (w.alloc (.cells #[.int .i64 k,.int .i64 n,.string s,.slice a l.length cap] 34))from eB (zB _ _));clear he ha hl ih;by_cases k0:k=0
 ·have k0':(k==0)=true:=by simpa using k0
  subst k0;clear k0';by_cases a0:decide (0<=n)=true
  ·by_cases a1:decide (n<vars)=true
   ·by_cases a2:s.toList.isEmpty=true
    ·by_cases a3:((l.length:Int)==0)=true;·go_enter Tryz.func126,Tryz.ntmps126;go_wp2_with fail;go_ret;refine⟨_,rfl,HB0.o,true,rfl,?_⟩;rw[Tm.Gv];simp[a0,a1,a2,a3]
     ·have a3':((l.length:Int)==0)=false:=by simpa using a3
      clear a3;go_enter Tryz.func126,Tryz.ntmps126;go_wp2_with fail;go_ret;refine⟨_,rfl,HB0.o,false,rfl,?_⟩;rw[Tm.Gv];simp[a0,a1,a2,a3']
    ·have uS:s.toList.isEmpty=false:=by simpa using a2
     clear a2;go_enter Tryz.func126,Tryz.ntmps126;go_wp2_with fail;go_ret;refine⟨_,rfl,HB0.o,false,rfl,?_⟩;rw[Tm.Gv];simp[a0,a1,uS]
   ·have a1':decide (n<vars)=false:=by simpa using a1
    clear a1;go_enter Tryz.func126,Tryz.ntmps126;go_wp2_with fail;go_ret;refine⟨_,rfl,HB0.o,false,rfl,?_⟩;rw[Tm.Gv];simp[a0,a1']
  ·have a0':decide (0<=n)=false:=by simpa using a0
   clear a0;go_enter Tryz.func126,Tryz.ntmps126;go_wp2_with fail;go_ret;refine⟨_,rfl,HB0.o,false,rfl,?_⟩;rw[Tm.Gv];simp[a0']
 ·have k0':(k==0)=false:=by simpa using k0
  by_cases k1:k=1
  ·have k1':(k==1)=true:=by simpa using k1
   subst k1;clear k1';by_cases a0:(n==0)=true
   ·go_enter Tryz.func126,Tryz.ntmps126;go_wp2_with fail;refine(acM s _ hs).mono ?_;rintro e w1⟨r,rfl,hr,rfl⟩;have HR:=zh hr;clear hr;cases r with
     |false=>go_wp2_with fail;have hr:=HR.o;simp only[mD,false_iff]at hr;go_ret;refine⟨_,rfl,HB0.o,false,rfl,?_⟩;rw[Tm.JK];simp[a0,hr]
     |true=>
      have hr:=HR.o;simp only[true_iff]at hr;have xP:=zh hr;clear hr HR;by_cases a2:((l.length:Int)==0)=true;·go_wp2_with fail;go_ret;refine⟨_,rfl,HB0.o,true,rfl,?_⟩;rw[Tm.JK];simp[a0,xP.o,a2]
      ·have uS:((l.length:Int)==0)=false:=by simpa using a2
       clear a2;go_wp2_with fail;go_ret;refine⟨_,rfl,HB0.o,false,rfl,?_⟩;rw[Tm.JK];simp[a0,xP.o,uS]
   ·have a0':(n==0)=false:=by simpa using a0
    clear a0;go_enter Tryz.func126,Tryz.ntmps126;go_wp2_with fail;go_ret;refine⟨_,rfl,HB0.o,false,rfl,?_⟩;rw[Tm.JK];simp[a0']
  ·have k1':(k==1)=false:=by simpa using k1
   by_cases k2:k=2
   ·have k2':(k==2)=true:=by simpa using k2
    subst k2;clear k2';by_cases a0:decide (-1099511627776<=n)=true
    ·by_cases a1:decide (n<=1099511627776)=true
     ·by_cases a2:s.toList.isEmpty=true
      ·by_cases a3:((l.length:Int)==0)=true;·go_enter Tryz.func126,Tryz.ntmps126;go_wp2_with fail;go_ret;refine⟨_,rfl,HB0.o,true,rfl,?_⟩;rw[Tm.Gw];simp[a0,a1,a2,a3]
       ·have a3':((l.length:Int)==0)=false:=by simpa using a3
        clear a3;go_enter Tryz.func126,Tryz.ntmps126;go_wp2_with fail;go_ret;refine⟨_,rfl,HB0.o,false,rfl,?_⟩;rw[Tm.Gw];simp[a0,a1,a2,a3']
      ·have uS:s.toList.isEmpty=false:=by simpa using a2
       clear a2;go_enter Tryz.func126,Tryz.ntmps126;go_wp2_with fail;go_ret;refine⟨_,rfl,HB0.o,false,rfl,?_⟩;rw[Tm.Gw];simp[a0,a1,uS]
     ·have a1':decide (n<=1099511627776)=false:=by simpa using a1
      clear a1;go_enter Tryz.func126,Tryz.ntmps126;go_wp2_with fail;go_ret;refine⟨_,rfl,HB0.o,false,rfl,?_⟩;rw[Tm.Gw];simp[a0,a1']
    ·have a0':decide (-1099511627776<=n)=false:=by simpa using a0
     clear a0;go_enter Tryz.func126,Tryz.ntmps126;go_wp2_with fail;go_ret;refine⟨_,rfl,HB0.o,false,rfl,?_⟩;rw[Tm.Gw];simp[a0']
   ·have k2':(k==2)=false:=by simpa using k2
    by_cases k3:k=3
    ·have k3':(k==3)=true:=by simpa using k3
     subst k3;clear k3';by_cases a0:(n != 0)=false
     ·go_enter Tryz.func126,Tryz.ntmps126;go_wp2_with fail;refine(acM s _ hs).mono ?_;rintro e w1⟨r,rfl,hr,rfl⟩;have HR:=zh hr;clear hr;cases r with
       |false=>go_wp2_with fail;have hr:=HR.o;simp only[mD,false_iff]at hr;go_ret;refine⟨_,rfl,HB0.o,false,rfl,?_⟩;rw[Tm.Cs];simp[a0,hr]
       |true=>
        have hr:=HR.o;simp only[true_iff]at hr;have xP:=zh hr;clear hr HR;by_cases a2:(s.toList==[33])=false
        ·by_cases a3:decide ((l.length:Int)<1)=false
         ·by_cases a4:decide (4<(l.length:Int))=false
          ·go_wp2_with fail;go_loopw[99](fun q wr=>∃j:Nat,j<=l.length/\q= .int .i64 j/\Below w.heap.size w wr/\∀x(hx:x<j)(hl:j<=l.length),(l[x]'(by omega)).Good vars)(fun q _=>l.length - (intOf q).toNat);case atStart=>exact⟨0,dn _,rfl,HB0.o,fun x hx=>by omega⟩
           case round=>
            obtain⟨j,hj,rfl,hb,hp⟩:=hrel;have HB:=zh hb;have HP:=zh hp;have hz:=hb.size;clear hb hp;by_cases hlt:j<l.length
            ·obtain⟨rfl,bC⟩:=HA.o (by omega);obtain⟨sa,sc,c0,c1,c2,c3,hr⟩:=gq HE.o bC (af.ob HB.o) hlt;have HC:=zh (IH.out _ (bO hlt) vars _ (wr.alloc _) _ Gx.o (Tm.aj.1 _ _ _ _ _ hr (af.alloc _ _ (.cells (#[.int .i64 l[j].kind,.int .i64 l[j].n,.string l[j].s,.slice sa l[j].args.length sc]:Array Value) 34))));clear hr;go_wp2_with fail;refine(HC.o).mono ?_;rintro e w1⟨v,rfl,hb1,r,rfl,hr⟩;have HR:=zh hr;have HB1:=zh ((HB.o.alloc hz _).trans (hb1.mono (by simp;omega)));clear hr hb1 HC c0 c1 c2 c3;cases r with
              |false=>go_wp2_with fail;go_ret;refine⟨_,rfl,HB1.o,false,rfl,?_⟩;rw[Tm.Cs];have hr:=HR.o;simp only[mD,false_iff]at hr ⊢;exact fun⟨_,_,_,_,_,h⟩=>hr (h _ (bO hlt))
              |true=>
               go_wp2_with fail;go_roundw;case rel=>
                refine⟨j+1,by omega,by go_num,HB1.o,fun x hx _=>?_⟩;by_cases hxj:x=j;·subst hxj;simpa using HR.o
                ·exact HP.o x (by omega) hj
               case measure=>simp[intOf];omega
            ·have :j=l.length:=by omega
             subst this;go_wp2_with fail;go_ret;refine⟨_,rfl,HB.o,true,rfl,?_⟩;rw[Tm.Cs];simp only[true_iff];refine⟨a0,xP.o,a2,a3,a4,fun t ht=>?_⟩;obtain⟨x,hx,rfl⟩:=ng.1 ht;exact HP.o x hx (zL _)
          ·have a4':decide (4<(l.length:Int))=true:=by simpa using a4
           clear a4;go_wp2_with fail;go_ret;refine⟨_,rfl,HB0.o,false,rfl,?_⟩;rw[Tm.Cs];simp[a0,xP.o,a2,a3,a4']
         ·have a3':decide ((l.length:Int)<1)=true:=by simpa using a3
          clear a3;go_wp2_with fail;go_ret;refine⟨_,rfl,HB0.o,false,rfl,?_⟩;rw[Tm.Cs];simp[a0,xP.o,a2,a3']
        ·have uS:(s.toList==[33])=true:=by simpa using a2
         clear a2;go_wp2_with fail;go_ret;refine⟨_,rfl,HB0.o,false,rfl,?_⟩;rw[Tm.Cs];simp[a0,xP.o,uS]
     ·have a0':(n != 0)=true:=by simpa using a0
      clear a0;go_enter Tryz.func126,Tryz.ntmps126;go_wp2_with fail;go_ret;refine⟨_,rfl,HB0.o,false,rfl,?_⟩;rw[Tm.Cs];simp[a0']
    ·have k3':(k==3)=false:=by simpa using k3
     have K:=zh (show ¬(k=0\/k=1\/k=2\/k=3)by simp[k0,k1,k2,k3]);clear k0 k1 k2 k3;go_enter Tryz.func126,Tryz.ntmps126;go_wp2_with fail;go_ret;refine⟨_,rfl,HB0.o,false,rfl,?_⟩;simp only[mD,false_iff];exact fun h=>K.out (by simpa[Tm.kind]using Tm.acN h)
theorem amw:∀t,VB t:=by intro t;induction t using Tm.induct with|h k n s l ih=>exact amv k n s l ih
def VC(t:Tm):Prop:=∀(A:Nat->Prop)(w:World)(vs:List Value),t.nodes<=1099511627776->Tm.rep A w t vs->Calls Tryz.prog 127 #[.agg vs.toArray] w (Pure w fun v _=>v= .int .i64 t.nodes)
theorem amx(k n:Int)(s:ByteArray)(l:List Tm)(ih:∀t∈l,VC t):VC (.mk k n s l):=by
 intro A w vs hnd hv;rw[Tm.gL]at hv;obtain⟨hk,hn,hs,v,rfl,hl⟩:=hv;obtain⟨a,cap,b,off,rfl,hlc,hcm,hlb,ha,he⟩:=hl.at;have HE:=zh he;have HA:=zh ha;have IH:=zh ih;simp only[Tm.nodes]at hnd;have jJ:=zh hnd;have HB0:=zh (show Below w.heap.size w (w.alloc (.cells #[.int .i64 k,.int .i64 n,.string s,.slice a l.length cap] 34))from eB (zB _ _));clear he ha hl ih hnd;go_enter Tryz.func127,Tryz.ntmps127;go_wp2_with fail;go_loopw[3,9](fun m q wr=>∃j:Nat,j<=l.length/\q= .int .i64 j/\m= .int .i64 ((1+Tm.bq (l.take j):Nat):Int)/\Below w.heap.size w wr)(fun _ q _=>l.length - (intOf q).toNat);case atStart=>exact⟨0,dn _,rfl,by simp[Tm.bq],HB0.o⟩
 case round=>
  obtain⟨j,hj,rfl,rfl,hb⟩:=hrel;have HB:=zh hb;have hz:=hb.size;clear hb;by_cases hlt:j<l.length
  ·obtain⟨rfl,bC⟩:=HA.o (by omega);obtain⟨sa,sc,c0,c1,c2,c3,hr⟩:=gq HE.o bC (af.ob HB.o) hlt;have hn1:=Tm.Gq l j hlt;have hn2:=jJ.o;have hb1:Tm.bq (l.take j)+l[j].nodes<=1099511627776:=by omega
   have HS:Hd (Tm.bq (l.take (j+1))=Tm.bq (l.take j)+l[j].nodes):=by rw[dX hlt,Tm.JI];simp[Hd,Tm.bq]
   have HC:=zh (IH.out _ (bO hlt) _ (wr.alloc _) _ (by omega) (Tm.aj.1 _ _ _ _ _ hr (af.alloc _ _ (.cells (#[.int .i64 l[j].kind,.int .i64 l[j].n,.string l[j].s,.slice sa l[j].args.length sc]:Array Value) 34))));clear hr hn1 hn2;go_wp2_with fail;refine(HC.o).mono ?_;rintro e w1⟨v,rfl,hb1,rfl⟩;have HB1:=zh ((HB.o.alloc hz _).trans (hb1.mono (by simp;omega)));clear hb1 HC c0 c1 c2 c3;go_wp2_with fail;go_roundw;case rel=>exact⟨j+1,by omega,by go_num,by rw[HS.o];congr 1;omega,HB1.o⟩
   case measure=>simp[intOf];omega
  ·have :j=l.length:=by omega
   subst this;go_wp2_with fail;go_ret;refine⟨_,rfl,HB.o,?_⟩;rw[jd];simp only[Tm.nodes];show Value.int .i64 _=_;congr 1;omega
theorem amy:∀t,VC t:=by intro t;induction t using Tm.induct with|h k n s l ih=>exact amx k n s l ih
theorem Ce.ext'{a b:Ce}(h1:a.kind=b.kind)(h2:a.n=b.n)(h3:a.s.toList=b.s.toList):a=b:=by obtain⟨k,n,s⟩:=a;obtain⟨k',n',s'⟩:=b;simp only at h1 h2 h3;subst h1;subst h2;congr 1;exact Gu h3
def Ce.fF(n i:Nat)(c:Ce):Prop:=(c.kind=0/\0<=c.n/\c.n<n/\c.s.toList=[])\/(c.kind=1/\c.n=0/\c.s.toList≠[])\/(c.kind=2/\c.s.toList=[])\/(c.kind=3/\1<=c.n/\c.n<=4/\(i:Int)+c.n<n/\c.s.toList≠[])
def gU(l:List Ce):Prop:=∀(i:Nat)(h:i<l.length),(l[i]).fF l.length i
def amz(l:List Ce)(t:List Int):Prop:=∀(j:Nat)(h:j<t.length),∃v:Nat,t[j]=(v:Int)/\∃hv:v<l.length,(l[v]).kind=0
def Hp.Good(h:Hp):Prop:=gU h.cells/\amz h.cells h.trail/\h.cells.length<=65536/\h.trail.length<=65536
def cellAt(l:List Ce)(a:Int):Ce:=(l[a.toNat]?).getD default
theorem jv{l:List Ce}{k:Nat}(h:k<l.length):cellAt l (k:Int)=l[k]:=by unfold cellAt;rw[dG,aT h];rfl
def Stop(l:List Ce)(a:Int):Prop:=(cellAt l a).kind≠0\/(cellAt l a).n=a
instance(l:List Ce)(a:Int):Decidable (Stop l a):=by unfold Stop;infer_instance
def Inb(l:List Ce)(a:Int):Prop:=0<=a/\a<l.length
instance(l:List Ce)(a:Int):Decidable (Inb l a):=by unfold Inb;infer_instance
def pF(l:List Ce):Nat->Int->Int|0,_=> -1|k+1,a=>if ¬Inb l a then -1 else if Stop l a then a else pF l k (cellAt l a).n
def look(l:List Ce)(a:Int):Int:=pF l (l.length+1) a
inductive Looks (l : List Ce) : Int → Int → Prop where
  | stop {a : Int} : Inb l a → Stop l a → Looks l a a
  | next {a x : Int} : Inb l a → ¬ Stop l a → Looks l (cellAt l a).n x → Looks l a x
theorem Looks.end_{l:List Ce}{a x:Int}(h:Looks l a x):Inb l x/\Stop l x:=by induction h with|stop h1 h2=>exact⟨h1,h2⟩|next _ _ _ ih=>exact ih
theorem Looks.nC{l:List Ce}{a x:Int}(h:Looks l a x):0<=x:=h.end_.1.1
theorem Looks.start{l:List Ce}{a x:Int}(h:Looks l a x):Inb l a:=by cases h<;>assumption
theorem Looks.JL{l:List Ce}{a x y:Int}(h:Looks l a x)(h':Looks l a y):x=y:=by induction h with
 |stop h1 h2=>cases h' with|stop=>rfl|next _ h=>exact absurd h2 h
 |next h1 h2 _ ih=>cases h' with|stop _ h=>exact absurd h h2|next _ _ h=>exact ih h
theorem acQ{l:List Ce}:∀(k:Nat)(a:Int),0<=pF l k a->Looks l a (pF l k a)
 |0,a,h=>by simp[pF]at h
 |k+1,a,h=>by
  unfold pF at h ⊢;by_cases h1:Inb l a
  ·by_cases h2:Stop l a;·simp only[h1,h2,not_true,if_false,if_true];exact .stop h1 h2
   ·simp only[h1,h2,not_true,if_false]at h ⊢;exact .next h1 h2 (acQ k _ h)
  ·simp[h1]at h
theorem VD:∀(n:Nat)(s:List Int),s.Nodup->(∀x∈s,0<=x/\x<n)->s.length<=n
 |0,s,_,h=>by cases s with|nil=>simp|cons x r=>have :=h x (by simp);omega
 |n+1,s,hn,h=>by have h1:=VD n (s.erase (n:Int)) (hn.erase _) (fun x hx=>by have h2:=(List.Nodup.mem_erase_iff hn).1 hx;have h3:=h x h2.2;omega);have h4:=@List.length_erase Int _ _ (n:Int) s;split at h4<;>omega
def Way(l:List Ce)(a:Int)(s:List Int)(b:Int):Prop:=s.Nodup/\(∀x∈s,Inb l x/\¬Stop l x/\((cellAt l x).n∈s\/(cellAt l x).n=b))/\(∀x,Looks l b x↔Looks l a x)/\(a∈s\/a=b)
theorem Way.start(l:List Ce)(a:Int):Way l a [] a:=⟨List.nodup_nil,fun x h=>by simp at h,fun x=>Gi,.inr rfl⟩
theorem Way.len{l:List Ce}{a b:Int}{s:List Int}(h:Way l a s b):s.length<=l.length:=VD _ s h.1 fun x hx=>(h.2.1 x hx).1
theorem Way.step{l:List Ce}{a b:Int}{s:List Int}(h:Way l a s b)(hb:b∉s)(h1:Inb l b)(h2:¬Stop l b):Way l a (s++[b]) (cellAt l b).n:=by
 refine⟨?_,?_,?_,?_⟩;·rw[al4];refine⟨h.1,by simp,?_⟩;intro x hx y hy e;simp at hy;subst hy;subst e;exact hb hx
 ·intro x hx;rw[fE]at hx;rcases hx with hx|hx
  ·obtain⟨k1,k2,k3⟩:=h.2.1 x hx;refine⟨k1,k2,?_⟩;rcases k3 with k3|k3;·exact .inl (by simp[k3])
   ·exact .inl (by simp[k3])
  ·simp at hx;subst hx;exact⟨h1,h2,.inr rfl⟩
 ·intro x;rw[<-h.2.2.1 x];refine⟨fun k=> .next h1 h2 k,fun k=>?_⟩;cases k with|stop _ k=>exact absurd k h2|next _ _ k=>exact k
 ·rcases h.2.2.2 with k|k;·exact .inl (by simp[k])
  ·exact .inl (by simp[k])
theorem amA{l:List Ce}{s:List Int}(h:∀x∈s,Inb l x/\¬Stop l x/\(cellAt l x).n∈s){a x:Int}(hl:Looks l a x):a∉s:=by induction hl with|stop h1 h2=>exact fun hm=>(h _ hm).2.1 h2|next h1 h2 _ ih=>exact fun hm=>ih (h _ hm).2.2
theorem Way.again{l:List Ce}{a b:Int}{s:List Int}(h:Way l a s b)(hb:b∈s)(x:Int):¬Looks l a x:=by
 rw[<-h.2.2.1 x];intro hl;exact amA (s:=s) (fun y hy=>by
  obtain⟨k1,k2,k3⟩:=h.2.1 y hy;refine⟨k1,k2,?_⟩;rcases k3 with k3|k3;·exact k3
  ·rw[k3];exact hb) hl hb
theorem acR{l:List Ce}:∀(k:Nat)(a b:Int)(s:List Int),Way l a s b->b∉s->s.length+k=l.length+1->∀x,Looks l a x->pF l k b=x
 |0,a,b,s,hw,hb,hk,x,hl=>by have :=hw.len;omega
 |k+1,a,b,s,hw,hb,hk,x,hl=>by
  have hl':=(hw.2.2.1 x).2 hl;unfold pF;have h1:=hl'.start;simp only[h1,not_true,if_false];by_cases h2:Stop l b;·simp only[h2,if_true];exact(Looks.stop h1 h2).JL hl'
  ·simp only[h2,if_false];have hw2:=hw.step hb h1 h2;have hnot:(cellAt l b).n∉s++[b]:=fun hm=>hw2.again hm x hl;exact acR k a _ _ hw2 hnot (by simp;omega) x hl
theorem iQ{l:List Ce}{a x:Int}(h:Looks l a x):look l a=x:=acR _ a a [] (Way.start l a) (by simp) (by simp) x h
theorem amB{l:List Ce}{a x:Int}(h0:0<=x):look l a=x↔Looks l a x:=by refine⟨fun h=>?_,iQ⟩;have :=acQ (l:=l) (l.length+1) a (by unfold look at h;omega);unfold look at h;rw[h]at this;exact this
theorem acS{l:List Ce}:∀(k:Nat)(a:Int), -1<=pF l k a
 |0,a=>by simp[pF]
 |k+1,a=>by
  unfold pF;split;·omega
  ·split;·rename_i h _;have :=h;unfold Inb at this;omega
   ·exact acS k _
theorem acT(l:List Ce)(a:Int): -1<=look l a:=acS _ _
theorem VE{l:List Ce}{a:Int}(h:0<=look l a):Looks l a (look l a):=(amB h).1 rfl
theorem JP{l:List Ce}{a:Int}(h:0<=look l a):Inb l (look l a)/\Stop l (look l a):=(VE h).end_
def argsAt(a:Int)(n:Int):List Int:=(List.range n.toNat).map fun i=>a+1+(i:Nat)
def bR(l:List Ce)(v:Int):Nat->List Int->Bool×Int|w,[]=>(false,w)|0,_::_=>(false, -1)|w+1,z::r=>if look l z<0 then(false, -1)else if(cellAt l (look l z)).kind=0 then(if look l z=v then(true,w)else bR l v w r)else if(cellAt l (look l z)).kind=3 then bR l v w (argsAt (look l z) (cellAt l (look l z)).n++r)else bR l v w r
theorem Gy(l:List Ce)(v:Int)(w:Nat):bR l v w []=(false,(w:Int)):=by cases w<;>rfl
theorem Gz(l:List Ce)(v:Int):∀(w:Nat)(s:List Int),(bR l v w s).2<=w/\ -1<=(bR l v w s).2
 |w,[]=>by rw[Gy];exact⟨kr _,by simp only;omega⟩
 |0,z::r=>by simp[bR]
 |w+1,z::r=>by
  unfold bR;have h1:=Gz l v w r;have h2:=Gz l v w (argsAt (look l z) (cellAt l (look l z)).n++r);split;·simp;omega
  ·split
   ·split;·simp;omega
    ·omega
   ·split<;>omega
theorem JQ(l:List Ce)(v:Int):∀(w:Nat)(s r:List Int),bR l v w (s++r)=if(bR l v w s).1=true\/(bR l v w s).2<0 then bR l v w s else bR l v (bR l v w s).2.toNat r
 |w,[],r=>by simp[Gy];omega
 |0,z::s,r=>by simp[bR]
 |w+1,z::s,r=>by
  rw[tJ];rw[bR.eq_def l v (w+1) (z::(s++r)),bR.eq_def l v (w+1) (z::s)];simp only;have h1:=JQ l v w s r;have h2:=JQ l v w (argsAt (look l z) (cellAt l (look l z)).n++s) r;rw[wD]at h2;split;·simp
  ·split
   ·split;·simp
    ·exact h1
   ·split;·exact h2
    ·exact h1
theorem JR(l:List Ce)(v:Int):∀(w:Nat)(s:List Int),(bR l v w s).1=true->0<=(bR l v w s).2
 |w,[],h=>by rw[Gy]at h ⊢;simp at h
 |0,z::r,h=>by simp[bR]at h
 |w+1,z::r,h=>by
  unfold bR at h ⊢;have h1:=JR l v w r;have h2:=JR l v w (argsAt (look l z) (cellAt l (look l z)).n++r);split at h;·simp at h
  ·rename_i k1;simp only[k1,if_false];split at h
   ·rename_i k2;simp only[k2,if_true];split at h;·rename_i k3;simp only[k3,if_true];omega
    ·rename_i k3;simp only[k3,if_false];exact h1 h
   ·rename_i k2;simp only[k2,if_false];split at h;·rename_i k3;simp only[k3,if_true];exact h2 h
    ·rename_i k3;simp only[k3,if_false];exact h1 h
structure Un where
  ok : Bool
  cells : List Ce
  trail : List Int
  work : Int
  deriving DecidableEq, Inhabited
def fB(l:List Ce)(v a:Int):List Ce:=l.modify v.toNat fun c=>{c with n:=a}
def bD(w:Nat)(s:List (Int×Int))(l:List Ce)(t:List Int):Un:=match w,s with|w,[]=>⟨true,l,t,w⟩|0,_::_=>⟨false,l,t, -1⟩|w+1,(a,b)::r=>let x:=look l a;let y:=look l b;if x<0\/y<0 then⟨false,l,t, -1⟩else if(cellAt l x).kind=0/\(cellAt l y).kind=0 then(if x=y then bD w r l t else bD w r (fB l (max x y) (min x y)) (t++[max x y]))else if(cellAt l x).kind=0\/(cellAt l y).kind=0 then let v:=if(cellAt l y).kind=0 then y else x;let z:=if(cellAt l y).kind=0 then x else y;let p:=bR l v w [z];if p.1=true\/p.2<0 then⟨false,l,t,p.2⟩else bD (min w p.2.toNat) r (fB l v z) (t++[v])else if cellAt l x≠cellAt l y then⟨false,l,t,w⟩else if(cellAt l x).kind=3 then bD w ((argsAt x (cellAt l x).n).zip (argsAt y (cellAt l x).n)++r) l t else bD w r l t termination_by w decreasing_by all_goals omega
theorem GA(w:Nat)(l:List Ce)(t:List Int):bD w [] l t=⟨true,l,t,w⟩:=by cases w<;>simp[bD]
theorem JS(p:Int×Int)(r:List (Int×Int))(l:List Ce)(t:List Int):bD 0 (p::r) l t=⟨false,l,t, -1⟩:=by simp[bD]
theorem acU : ∀ (w : Nat) (s : List (Int × Int)) (l : List Ce) (t : List Int),(bD w s l t).work ≤ w ∧ -1 ≤ (bD w s l t).work ∧ ((bD w s l t).ok = true → 0 ≤ (bD w s l t).work) :=by
 intro w;induction w using Nat.strongRecOn with
  | _ w ih=>
   intro s l t;match w,s,ih with
    | w,[],_=>rw [GA];exact ⟨kr _,by simp only;omega,fun _=>by simp only;omega⟩
    | 0,_ :: _,_=>simp [JS]
    | w + 1,(a,b) :: r,ih=>
     have ih' : ∀ w' ≤ w,∀ (s : List (Int × Int)) (l : List Ce) (t : List Int),(bD w' s l t).work ≤ (w + 1 : Nat) ∧ -1 ≤ (bD w' s l t).work ∧ ((bD w' s l t).ok = true → 0 ≤ (bD w' s l t).work) :=fun w' h s l t=>by obtain ⟨h1,h2,h3⟩ :=ih w' (by omega) s l t;exact ⟨by omega,h2,h3⟩
     rw [bD];simp only;split;·simp;omega
     ·split
      ·split;·exact ih' w (by omega) _ _ _
       ·exact ih' w (by omega) _ _ _
      ·split
       ·generalize hp : bR l (if (cellAt l (look l b)).kind = 0 then look l b else look l a) w [if (cellAt l (look l b)).kind = 0 then look l a else look l b] = p;have h1:=Gz l (if (cellAt l (look l b)).kind = 0 then look l b else look l a) w [if (cellAt l (look l b)).kind = 0 then look l a else look l b];rw [hp] at h1;split;·refine ⟨?_,?_,fun h=>by simp at h⟩ <;> simp only <;> omega
        ·exact ih' _ (by omega) _ _ _
       ·split;·refine ⟨?_,?_,fun h=>by simp at h⟩ <;> simp only <;> omega
        ·split;·exact ih' w (by omega) _ _ _
         ·exact ih' w (by omega) _ _ _
theorem acV:∀(w:Nat)(s r:List (Int×Int))(l:List Ce)(t:List Int),bD w (s++r) l t=if(bD w s l t).ok=true then bD (bD w s l t).work.toNat r (bD w s l t).cells (bD w s l t).trail else bD w s l t:=by
 intro w;induction w using Nat.strongRecOn with
  |_ w ih=>
   intro s r l t;match w,s,ih with
    |w,[],_=>simp[GA]
    |0,_::_,_=>simp[JS]
    |w+1,(a,b)::s,ih=>
     rw[tJ];rw[bD.eq_def (w+1) ((a,b)::(s++r)),bD.eq_def (w+1) ((a,b)::s)];simp only;split;·simp
     ·split
      ·split;·exact ih w (by omega) s r l t
       ·exact ih w (by omega) s r _ _
      ·split
       ·generalize bR l (if(cellAt l (look l b)).kind=0 then look l b else look l a) w [if(cellAt l (look l b)).kind=0 then look l a else look l b]=p;by_cases hp:p.1=true\/p.2<0;·rw[ai hp,ai hp];rfl
        ·rw[ag hp,ag hp];exact ih (min w p.2.toNat) (by omega) s r _ _
       ·split;·simp
        ·split;·rw[<-wD];exact ih w (by omega) _ r l t
         ·exact ih w (by omega) s r l t
theorem JU(l:List Ce)(v a:Int):(fB l v a).length=l.length:=by simp[fB]
theorem oq{l:List Ce}{a:Int}(h:Inb l a):∃k:Nat,a=(k:Int)/\∃hk:k<l.length,cellAt l a=l[k]:=by obtain⟨h1,h2⟩:=h;obtain⟨k,rfl⟩:=dQ h1;exact⟨k,rfl,by omega,jv (by omega)⟩
theorem wE{l:List Ce}{v a y:Int}(hv:Inb l v)(hy:Inb l y):cellAt (fB l v a) y=if y=v then{cellAt l v with n:=a}else cellAt l y:=by
 obtain⟨k,rfl,hk,e1⟩:=oq hv;obtain⟨j,rfl,hj,e2⟩:=oq hy;rw[e1,e2,jv (by rw[JU];exact hj)];simp only[fB,dG,Vj];by_cases h:k=j;·subst h;simp
 ·rw[ag h,ag (by omega)]
theorem Ej{l:List Ce}{v a y:Int}:Inb (fB l v a) y↔Inb l y:=by unfold Inb;rw[JU]
def gV(l:List Ce)(v:Int):Prop:=Inb l v/\(cellAt l v).kind=0/\(cellAt l v).n=v
theorem gV.stop{l:List Ce}{v:Int}(h:gV l v):Stop l v:= .inr h.2.2
theorem Looks.free{l:List Ce}{a x:Int}(h:Looks l a x)(hk:(cellAt l x).kind=0):gV l x:=by
 obtain⟨h1,h2⟩:=h.end_;refine⟨h1,hk,?_⟩;rcases h2 with h2|h2;·exact absurd hk h2
 ·exact h2
theorem VF{l:List Ce}{v a x:Int}(hv:Inb l v)(hx:Inb l x)(hs:Stop l x)(hne:x≠v):Stop (fB l v a) x:=by unfold Stop at hs ⊢;rw[wE hv hx,ag hne];exact hs
theorem GD{l:List Ce}{v t:Int}(hv:gV l v)(ht:Inb l t)(hs:Stop l t)(hne:t≠v){a x:Int}(h:Looks l a x):Looks (fB l v t) a (if x=v then t else x):=by
 have htt:Looks (fB l v t) t t:= .stop (Ej.2 ht) (VF hv.1 ht hs hne);induction h with
  |@stop a h1 h2=>
   by_cases e:a=v
   ·subst e;rw[ai rfl];refine .next (Ej.2 h1) ?_ ?_;·unfold Stop;rw[wE hv.1 h1,ai rfl];have :=hv.2.1;simp only;omega
    ·rw[wE hv.1 h1,ai rfl];exact htt
   ·rw[ag e];exact .stop (Ej.2 h1) (VF hv.1 h1 h2 e)
  |@next a x h1 h2 _ ih=>
   have e:a≠v:=fun e=>h2 (e▸hv.stop);refine .next (Ej.2 h1) ?_ ?_;·unfold Stop at h2 ⊢;rw[wE hv.1 h1,ag e];exact h2
   ·rw[wE hv.1 h1,ag e];exact ih
theorem amD{w:Nat}{a b:Int}{r:List (Int×Int)}{l:List Ce}{t:List Int}(h:(bD (w+1) ((a,b)::r) l t).ok=true):∃x y,Looks l a x/\Looks l b y/\((x=y/\(cellAt l x).kind=0/\bD (w+1) ((a,b)::r) l t=bD w r l t)\/(∃v z w',w'<=w/\((v=x/\z=y)\/(v=y/\z=x))/\gV l v/\Inb l z/\Stop l z/\z≠v/\bD (w+1) ((a,b)::r) l t=bD w' r (fB l v z) (t++[v]))\/((cellAt l x).kind≠0/\cellAt l x=cellAt l y/\(cellAt l x).kind=3/\bD (w+1) ((a,b)::r) l t=bD w ((argsAt x (cellAt l x).n).zip (argsAt y (cellAt l x).n)++r) l t)\/((cellAt l x).kind≠0/\cellAt l x=cellAt l y/\(cellAt l x).kind≠3/\bD (w+1) ((a,b)::r) l t=bD w r l t)):=by
 rw[bD]at h ⊢;simp only at h ⊢;by_cases h1:look l a<0\/look l b<0;·rw[ai h1]at h;simp at h
 ·rw[ag h1]at h ⊢;have hx:=VE (l:=l) (a:=a) (by omega);have hy:=VE (l:=l) (a:=b) (by omega);refine⟨look l a,look l b,hx,hy,?_⟩;generalize look l a=x at h h1 hx ⊢;generalize look l b=y at h h1 hy ⊢;by_cases h2:(cellAt l x).kind=0/\(cellAt l y).kind=0
  ·rw[ai h2]at h ⊢;by_cases h3:x=y;·rw[ai h3]at h ⊢;exact .inl ⟨h3,h2.1,rfl⟩
   ·rw[ag h3]at h ⊢;refine .inr (.inl ⟨max x y,min x y,w,zL _,by omega,?_,?_,?_,by omega,rfl⟩)
    ·have :=hx.free h2.1;have :=hy.free h2.2;rcases acx x y with k|k;·rw[ace k];assumption
     ·rw[ack k];assumption
    ·rcases acx x y with k|k;·rw[acj k];exact hx.end_.1
     ·rw[acd k];exact hy.end_.1
    ·rcases acx x y with k|k;·rw[acj k];exact hx.end_.2
     ·rw[acd k];exact hy.end_.2
  ·rw[ag h2]at h ⊢;by_cases h3:(cellAt l x).kind=0\/(cellAt l y).kind=0
   ·rw[ai h3]at h ⊢;generalize bR l (if(cellAt l y).kind=0 then y else x) w [if(cellAt l y).kind=0 then x else y]=p at h ⊢;by_cases h4:p.1=true\/p.2<0;·rw[ai h4]at h;simp at h
    ·rw[ag h4]at h ⊢;refine .inr (.inl ⟨_,_,min w p.2.toNat,Nat.min_le_left _ _,?_,?_,?_,?_,?_,rfl⟩)
     ·by_cases h5:(cellAt l y).kind=0;·rw[ai h5,ai h5];exact .inr ⟨rfl,rfl⟩
      ·rw[ag h5,ag h5];exact .inl ⟨rfl,rfl⟩
     ·by_cases h5:(cellAt l y).kind=0;·simp only[h5,if_true];exact hy.free h5
      ·simp only[h5,if_false];exact hx.free (h3.resolve_right h5)
     ·split;·exact hx.end_.1
      ·exact hy.end_.1
     ·split;·exact hx.end_.2
      ·exact hy.end_.2
     ·by_cases h5:(cellAt l y).kind=0;·simp only[h5,if_true];rintro rfl;exact h2 ⟨h5,h5⟩
      ·simp only[h5,if_false];rintro rfl;exact h5 (h3.resolve_right h5)
   ·rw[ag h3]at h ⊢;by_cases h4:cellAt l x≠cellAt l y;·rw[ai h4]at h;simp at h
    ·rw[ag h4]at h ⊢;have h4':cellAt l x=cellAt l y:=ab7.1 h4;by_cases h5:(cellAt l x).kind=3;·rw[ai h5];exact .inr (.inr (.inl ⟨fun e=>h3 (.inl e),h4',h5,rfl⟩))
     ·rw[ag h5];exact .inr (.inr (.inr ⟨fun e=>h3 (.inl e),h4',h5,rfl⟩))
def iw(l:List Ce)(vs:List Int):List Ce:=l.mapIdx fun i c=>if(i:Int)∈vs then{c with n:=i}else c
theorem uT(l:List Ce)(vs:List Int):(iw l vs).length=l.length:=by simp[iw]
theorem acW(l:List Ce):iw l []=l:=by apply nu (by simp[iw]);intro i h1 h2;simp[iw]
theorem JV(l:List Ce)(vs:List Int)(i:Nat)(h:i<(iw l vs).length):(iw l vs)[i]=if(i:Int)∈vs then{(l[i]'(by rw[uT]at h;exact h))with n:=i}else l[i]'(by rw[uT]at h;exact h):=by simp[iw]
theorem amE(l:List Ce)(vs:List Int)(v:Int)(h0:0<=v)(us:List Int)(qA:∀x,x∈us↔x∈vs\/x=v):(iw l vs).modify v.toNat (fun c=>{c with n:=v})=iw l us:=by
 apply nu (by simp[iw]);intro i h1 h2;rw[Vj,JV,JV];by_cases e:v.toNat=i
 ·have :(i:Int)=v:=by omega
  rw[ai e,ai ((qA _).2 (.inr this))];subst this;split<;>rfl
 ·rw[ag e];have h3:(i:Int)∈us↔(i:Int)∈vs:=by
   rw[qA];refine⟨fun h=>?_,.inl⟩;rcases h with h|h;·exact h
   ·omega
  by_cases h4:(i:Int)∈vs;·rw[ai h4,ai (h3.2 h4)]
  ·rw[ag h4,ag (fun h=>h4 (h3.1 h))]
def qB(l:List Ce)(vs:List Int)(l':List Ce):Prop:=l'.length=l.length/\∀(i:Nat)(h:i<l.length)(h':i<l'.length),((i:Int)∉vs/\l'[i]=l[i])\/((i:Int)∈vs/\(l[i]).kind=0/\(l[i]).n=i/\∃n:Int,0<=n/\n<l.length/\l'[i]={l[i]with n:=n})
theorem qB.refl(l:List Ce):qB l [] l:=⟨rfl,fun i _ _=> .inl ⟨by simp,rfl⟩⟩
theorem qB.step{l l':List Ce}{v z:Int}{vs:List Int}(hv:gV l v)(hz:Inb l z)(hzv:z≠v)(h:qB (fB l v z) vs l'):qB l (v::vs) l':=by
 obtain⟨h1,h2⟩:=h;rw[JU]at h1;refine⟨h1,fun i hi hi'=>?_⟩;obtain⟨k,rfl,hk,e⟩:=oq hv.1;have h3:=hv.2;rw[e]at h3;have h4:=h2 i (by rw[JU];exact hi) hi';simp only[fB,dG,Vj,List.length_modify]at h4;by_cases hik:k=i
 ·subst hik;simp only[if_true]at h4;have hm:(k:Int)∉vs->l'[k]={l[k]with n:=z}:=fun hn=>by
   rcases h4 with⟨_,h4⟩|⟨h4,_⟩;·exact h4
   ·exact absurd h4 hn
  by_cases hin:(k:Int)∈vs
  ·exfalso;rcases h4 with⟨h4,_⟩|⟨_,_,h4,_⟩;·exact h4 hin
   ·exact hzv h4
  ·exact .inr ⟨by simp,h3.1,h3.2,z,hz.1,hz.2,hm hin⟩
 ·simp only[hik,if_false]at h4;rcases h4 with⟨h4,h5⟩|⟨h4,h5⟩;·refine .inl ⟨?_,h5⟩;simp only[gK,h4,pz];omega
  ·exact .inr ⟨by simp[h4],h5⟩
theorem qB.good{l l':List Ce}{vs:List Int}(h:qB l vs l')(hg:gU l):gU l':=by
 intro i hi;have hi':i<l.length:=by rw[<-h.1];exact hi
 have h1:=hg i hi';rw[h.1];rcases h.2 i hi' hi with⟨_,k2⟩|⟨_,k2,k3,n,k4,k5,k6⟩;·rw[k2];exact h1
 ·rw[k6];unfold Ce.fF at h1 ⊢;simp only;rcases h1 with h1|h1|h1|h1;·exact .inl ⟨h1.1,k4,k5,h1.2.2.2⟩
  ·omega
  ·omega
  ·omega
theorem qB.kind{l l':List Ce}{vs:List Int}(h:qB l vs l')(i:Nat)(hi:i<l.length)(hi':i<l'.length):(l'[i]).kind=(l[i]).kind:=by
 rcases h.2 i hi hi' with⟨_,k2⟩|⟨_,k2,k3,n,k4,k5,k6⟩;·rw[k2]
 ·rw[k6]
theorem PV:∀(w:Nat)(s:List (Int×Int))(l:List Ce)(t:List Int),(bD w s l t).ok=true->∃vs,(bD w s l t).trail=t++vs/\qB l vs (bD w s l t).cells/\(∀v∈vs,Inb l v)/\vs.length<=w:=by
 intro w;induction w using Nat.strongRecOn with
  |_ w ih=>
   intro s l t h;match w,s,ih,h with
    |w,[],_,_=>rw[GA];exact⟨[],by simp,qB.refl l,by simp,by simp⟩
    |0,_::_,_,h=>rw[JS]at h;simp at h
    |w+1,(a,b)::r,ih,h=>
     obtain⟨x,y,hx,hy,⟨hxy,_,e⟩|⟨v,z,w',hw,hvz,h1,h2,h3,h4,e⟩|⟨hk,hc,h3,e⟩|⟨hk,hc,h3,e⟩⟩:=amD h;·rw[e]at h ⊢;obtain⟨vs,k1,k2,k3,k4⟩:=ih w (by omega) _ _ _ h;exact⟨vs,k1,k2,k3,by omega⟩
     ·rw[e]at h ⊢;obtain⟨vs,k1,k2,k3,k4⟩:=ih w' (by omega) _ _ _ h;refine⟨v::vs,by rw[k1,wD];rfl,k2.step h1 h2 h4,fun u hu=>?_,by simp;omega⟩;rcases gK.1 hu with rfl|hu;·exact h1.1
      ·exact Ej.1 (k3 u hu)
     ·rw[e]at h ⊢;obtain⟨vs,k1,k2,k3,k4⟩:=ih w (by omega) _ _ _ h;exact⟨vs,k1,k2,k3,by omega⟩
     ·rw[e]at h ⊢;obtain⟨vs,k1,k2,k3,k4⟩:=ih w (by omega) _ _ _ h;exact⟨vs,k1,k2,k3,by omega⟩
def eG(l:List Ce)(w:Nat)(s:List Int):Option (List Tm×Nat):=match w,s with|w,[]=>some ([],w)|0,_::_=>none|w+1,a::r=>let x:=look l a;let c:=cellAt l x;if x<0 then none else if c.kind=3 then match eG l w (argsAt x c.n)with|none=>none|some (ts,w1)=>match eG l (min w w1) r with|none=>none|some (rs,w2)=>some (.mk 3 0 c.s ts::rs,w2)else match eG l w r with|none=>none|some (rs,w2)=>some ((if c.kind=0 then .mk 0 x .empty []else .mk c.kind c.n c.s [])::rs,w2)termination_by w decreasing_by all_goals omega
theorem AL(l:List Ce)(w:Nat):eG l w []=some ([],w):=by cases w<;>simp[eG]
theorem JW(l:List Ce)(a:Int)(r:List Int):eG l 0 (a::r)=none:=by simp[eG]
theorem GG(l:List Ce):∀(w:Nat)(s:List Int)(ts:List Tm)(w':Nat),eG l w s=some (ts,w')->w'<=w/\ts.length=s.length:=by
 intro w;induction w using Nat.strongRecOn with
  |_ w ih=>
   intro s ts w' h;match w,s,ih,h with
    |w,[],_,h=>rw[AL]at h;simp at h;obtain⟨rfl,rfl⟩:=h;simp
    |0,_::_,_,h=>rw[JW]at h;cases h
    |w+1,a::r,ih,h=>
     rw[eG]at h;try simp only at h
     split at h;·simp at h
     ·split at h
      ·split at h;·simp at h
       ·rename_i _ _ JY w1 h1;have k1:=ih w (by omega) _ _ _ h1;rw[Ga k1.1]at h;split at h;·simp at h
        ·rename_i _ rs w2 h2;have k2:=ih w1 (by omega) _ _ _ h2;simp only[dm,lD]at h;obtain⟨rfl,rfl⟩:=h;simp only[cK];omega
      ·split at h;·simp at h
       ·rename_i _ rs w2 h2;have k2:=ih w (by omega) _ _ _ h2;simp only[dm,lD]at h;obtain⟨rfl,rfl⟩:=h;simp only[cK];omega
theorem amF(a n:Int):(argsAt a n).length=n.toNat:=by simp[argsAt]
def AO(l:List Ce)(i j:Nat):Prop:=((cellAt l i).kind=0/\(cellAt l i).n=j)\/((cellAt l i).kind=3/\i<j/\(j:Int)<=i+(cellAt l i).n)
inductive Reach (l : List Ce) (roots : List Int) : Nat → Prop where
  | root {i : Nat} : (i : Int) ∈ roots → i < l.length → Reach l roots i
  | step {i j : Nat} : Reach l roots i → AO l i j → Reach l roots j
open Classical in noncomputable def marks(l:List Ce)(roots:List Int):List Bool:=(List.range l.length).map fun i=>decide (Reach l roots i)
theorem VG(l:List Ce)(roots:List Int):(marks l roots).length=l.length:=by simp[marks]
theorem uU{l:List Ce}{roots:List Int}{i:Nat}(h:i<l.length):(marks l roots)[i]?=some true↔Reach l roots i:=by simp[marks,h]
theorem gU.leads{l:List Ce}(hg:gU l){i j:Nat}(hi:i<l.length)(h:AO l i j):j<l.length:=by have h1:=hg i hi;unfold AO at h;rw[jv hi]at h;unfold Ce.fF at h1;omega
theorem Reach.lt{l:List Ce}{roots:List Int}(hg:gU l){i:Nat}(h:Reach l roots i):i<l.length:=by induction h with|root _ h=>exact h|step _ h ih=>exact hg.leads ih h
theorem amG{l:List Ce}{roots:List Int}{M:Nat->Prop}(hr:∀i:Nat,(i:Int)∈roots->i<l.length->M i)(hc:∀i j,M i->AO l i j->M j){i:Nat}(h:Reach l roots i):M i:=by induction h with|root h1 h2=>exact hr _ h1 h2|step _ h ih=>exact hc _ _ ih h
theorem amH{l:List Ce}{roots:List Int}(hg:gU l){m:List Bool}(hl:m.length=l.length)(hr:∀i:Nat,(i:Int)∈roots->i<l.length->m[i]?=some true)(hc:∀i j,m[i]?=some true->AO l i j->m[j]?=some true)(hs:∀i,m[i]?=some true->Reach l roots i):m=marks l roots:=by
 apply nu (by rw[hl,VG]);intro i h1 h2;have h3:i<l.length:=by rw[<-hl];exact h1
 have h4:=uU (roots:=roots) h3;rw[aT h2]at h4;by_cases h:Reach l roots i;·have h5:=amG (M:=fun i=>m[i]?=some true) hr hc h;rw[aT h1]at h5;have h6:=h4.2 h;simp only[dm]at h5 h6;rw[h5,h6]
 ·have h5:¬m[i]?=some true:=fun e=>h (hs i e);have h6:¬some (marks l roots)[i]=some true:=fun e=>h (h4.1 e);rw[aT h1]at h5;simp only[dm,Bool.not_eq_true]at h5 h6;rw[h5,h6]
def cnt(m:List Bool):Nat->Nat|0=>0|k+1=>if m[k]?=some true then cnt m k+1 else cnt m k
theorem rD(m:List Bool):∀k,cnt m k<=k|0=>zL _|k+1=>by have :=rD m k;unfold cnt;split<;>omega
theorem cnt_mono(m:List Bool)(i:Nat):∀d,cnt m i<=cnt m (i+d)|0=>zL _|d+1=>by have :=cnt_mono m i d;rw[<-PI,cnt];split<;>omega
theorem GH{m:List Bool}{i j:Nat}(h:i<=j):cnt m i<=cnt m j:=by have :=cnt_mono m i (j - i);rw[show i+(j - i)=j by omega]at this;exact this
theorem cnt_lt{m:List Bool}{i j:Nat}(h:i<j)(hi:m[i]?=some true):cnt m i<cnt m j:=by have h1:=GH (m:=m) (show i+1<=j from h);rw[cnt,ai hi]at h1;omega
theorem amI{m:List Bool}(j:Nat):cnt m (m.length+j)=cnt m m.length:=by induction j with|zero=>rfl|succ j ih=>rw[<-PI,cnt,ag (by simp),ih]
theorem amJ(m:List Bool)(k:Nat):cnt m (min k m.length)=cnt m k:=by
 by_cases h:k<=m.length;·rw[Gd h]
 ·rw[Ga (by omega)];have :=amI (m:=m) (k - m.length);rw[show m.length+(k - m.length)=k by omega]at this;exact this.symm
theorem JZ{m:List Bool}:∀(n j:Nat),j<cnt m n->∃i,i<n/\m[i]?=some true/\cnt m i=j
 |0,j,h=>by simp[cnt]at h
 |n+1,j,h=>by
  unfold cnt at h;split at h
  ·rename_i hm;by_cases hj:j<cnt m n;·obtain⟨i,h1,h2,h3⟩:=JZ n j hj;exact⟨i,by omega,h2,h3⟩
   ·exact⟨n,by omega,hm,by omega⟩
  ·obtain⟨i,h1,h2,h3⟩:=JZ n j h;exact⟨i,by omega,h2,h3⟩
def ahead(m:List Bool)(n:Int):Int:=cnt m n.toNat
def ow(m:List Bool)(c:Ce):Ce:=if c.kind=0 then{c with n:=ahead m c.n}else c
def jK(l:List Ce)(m:List Bool):Nat->List Ce|0=>[]|k+1=>if m[k]?=some true then jK l m k++[ow m (cellAt l k)]else jK l m k
def bu(m:List Bool)(t:List Int):List Bool:=t.map fun v=>(m[v.toNat]?).getD false
def jU(m:List Bool)(t:List Int):Nat->List Int|0=>[]|k+1=>if(bu m t)[k]?=some true then jU m t k++[ahead m ((t[k]?).getD 0)]else jU m t k
theorem qC(l:List Ce)(m:List Bool):∀k,(jK l m k).length=cnt m k|0=>rfl|k+1=>by have :=qC l m k;unfold jK cnt;split<;>simp[this]
theorem uV(m:List Bool)(t:List Int):∀k,(jU m t k).length=cnt (bu m t) k|0=>rfl|k+1=>by have :=uV m t k;unfold jU cnt;split<;>simp[this]
theorem acX(l:List Ce)(m:List Bool):∀(k i:Nat),i<k->m[i]?=some true->(jK l m k)[cnt m i]?=some (ow m (cellAt l i))
 |k+1,i,h,hi=>by
  by_cases e:i=k;·subst e;rw[jK,ai hi,uN (by rw[qC];exact zL _),qC];simp
  ·have ih:=acX l m k i (by omega) hi;have hlt:cnt m i<(jK l m k).length:=by rw[qC];exact cnt_lt (by omega) hi
   rw[jK];split;·rw[tH hlt,ih]
   ·exact ih
theorem acY(m:List Bool)(t:List Int):∀(k i:Nat),i<k->(bu m t)[i]?=some true->(jU m t k)[cnt (bu m t) i]?=some (ahead m ((t[i]?).getD 0))
 |k+1,i,h,hi=>by
  by_cases e:i=k;·subst e;rw[jU,ai hi,uN (by rw[uV];exact zL _),uV];simp
  ·have ih:=acY m t k i (by omega) hi;have hlt:cnt (bu m t) i<(jU m t k).length:=by rw[uV];exact cnt_lt (by omega) hi
   rw[jU];split;·rw[tH hlt,ih]
   ·exact ih
noncomputable def iR(h:Hp)(roots:List Int):Hp:=⟨jK h.cells (marks h.cells roots) h.cells.length,jU (marks h.cells roots) h.trail h.trail.length⟩
section
variable {h : Hp} {roots : List Int}
theorem VH(i:Nat)(hi:i<h.cells.length)(hr:Reach h.cells roots i):cellAt (iR h roots).cells (cnt (marks h.cells roots) i)=ow (marks h.cells roots) (cellAt h.cells i):=by have h1:=acX h.cells (marks h.cells roots) h.cells.length i hi ((uU hi).2 hr);unfold cellAt;rw[dG];show((jK h.cells (marks h.cells roots) h.cells.length)[_]?).getD default=_;rw[h1];rfl
theorem acZ{j:Nat}(hj:j<(iR h roots).cells.length):∃i,i<h.cells.length/\Reach h.cells roots i/\cnt (marks h.cells roots) i=j:=by obtain⟨i,h1,h2,h3⟩:=JZ h.cells.length j (by rw[<-qC h.cells];exact hj);exact⟨i,h1,(uU h1).1 h2,h3⟩
theorem J3{i:Nat}(hi:i<h.cells.length)(hr:Reach h.cells roots i):cnt (marks h.cells roots) i<(iR h roots).cells.length:=by show _<(jK h.cells (marks h.cells roots) h.cells.length).length;rw[qC];exact cnt_lt hi ((uU hi).2 hr)
theorem J4(hg:gU h.cells){i:Nat}(hi:i<h.cells.length)(hr:Reach h.cells roots i)(hk:(cellAt h.cells i).kind=3):∀d:Nat,(d:Int)<=(cellAt h.cells i).n->cnt (marks h.cells roots) (i+1+d)=cnt (marks h.cells roots) i+1+d/\(0<d->Reach h.cells roots (i+d))
 |0,_=>by rw[qw,qw,cnt,ai ((uU hi).2 hr)];exact⟨rfl,fun h=>absurd h (Nat.lt_irrefl _)⟩
 |d+1,hd=>by
  obtain⟨ih,_⟩:=J4 hg hi hr hk d (by omega);have h1:Reach h.cells roots (i+(d+1)):= .step hr (.inr ⟨hk,by omega,by omega⟩);refine⟨?_,fun _=>h1⟩;rw[show i+1+(d+1)=(i+1+d)+1 by omega,cnt,ai,ih];·omega
  ·rw[show i+1+d=i+(d+1)by omega];exact(uU (h1.lt hg)).2 h1
theorem ac0(hg:h.Good):(iR h roots).Good:=by
 obtain⟨g1,g2,g3,g4⟩:=hg;refine⟨fun j hj=>?_,fun j hj=>?_,?_,?_⟩
 ·obtain⟨i,hi,hr,rfl⟩:=acZ hj;have h1:=VH (h:=h) i hi hr;rw[jv hj,jv hi]at h1;rw[h1];have h2:=g1 i hi;unfold Ce.fF at h2;unfold ow;rcases h2 with h2|h2|h2|h2
  ·rw[ai h2.1];obtain⟨k,hk⟩:=dQ h2.2.1;have hlead:AO h.cells i k:= .inl (by rw[jv hi];exact⟨h2.1,hk⟩);have hr2:Reach h.cells roots k:= .step hr hlead;have :=J3 (h:=h) (hr2.lt g1) hr2;refine .inl ⟨h2.1,?_,?_,h2.2.2.2⟩;·simp only[ahead];omega
   ·simp only[ahead,hk,dG];omega
  ·rw[ag (by omega)];exact .inr (.inl h2)
  ·rw[ag (by omega)];exact .inr (.inr (.inl h2))
  ·rw[ag (by omega)];refine .inr (.inr (.inr ⟨h2.1,h2.2.1,h2.2.2.1,?_,h2.2.2.2.2⟩));obtain⟨k,hk⟩:=dQ (show 0<=h.cells[i].n by omega);obtain⟨a1,a2⟩:=J4 (h:=h) g1 hi hr (by rw[jv hi];exact h2.1) (k - 1) (by rw[jv hi];omega);obtain⟨b1,b2⟩:=J4 (h:=h) g1 hi hr (by rw[jv hi];exact h2.1) k (by rw[jv hi];omega);have hr2:=b2 (by omega);have :=J3 (h:=h) (hr2.lt g1) hr2;rw[show i+k=i+1+(k - 1)by omega,a1]at this;omega
 ·obtain⟨i,hi,hm,hc⟩:=JZ h.trail.length j (by rw[<-uV];exact hj);have h1:=acY (marks h.cells roots) h.trail h.trail.length i hi hm;rw[hc]at h1;have h2:(iR h roots).trail[j]?=some ((iR h roots).trail[j]):=aT hj;have h3:(iR h roots).trail[j]?=some (ahead (marks h.cells roots) ((h.trail[i]?).getD 0)):=h1;rw[h3]at h2;simp only[dm]at h2;obtain⟨v,hv,hvl,hk⟩:=g2 i hi;rw[aT hi,nW,hv]at h2;simp only[bu,Aw,aT hi,pq,hv,dG,dm]at hm;have hr:Reach h.cells roots v:=by refine(uU hvl).1 ?_;rw[aT (by rw[VG];exact hvl)]at hm ⊢;rw[nW]at hm;rw[hm]
  refine⟨cnt (marks h.cells roots) v,h2.symm,J3 hvl hr,?_⟩;have h4:=VH (h:=h) v hvl hr;rw[jv (J3 hvl hr),jv hvl]at h4;rw[h4];unfold ow;rw[ai hk];exact hk
 ·show(jK _ _ _).length<=_;rw[qC];have :=rD (marks h.cells roots) h.cells.length;omega
 ·show(jU _ _ _).length<=_;rw[uV];have :=rD (bu (marks h.cells roots) h.trail) h.trail.length;omega
end
def uW(p:Prop)(r:Value)(_:World):Prop:=∃t,r= .bool t/\(t=true↔p)
def PW(l:List Ce)(j:Nat):Prop:=∀k(hk:k<l.length),k<j->(l[k]).fF l.length k
def PX(l:List Ce)(t:List Int)(j:Nat):Prop:=∀k(hk:k<t.length),k<j->∃v:Nat,t[k]=(v:Int)/\∃hv:v<l.length,(l[v]).kind=0
theorem PW.next{l:List Ce}{j:Nat}(h:PW l j)(hj:j<l.length)(ho:(l[j]).fF l.length j):PW l (j+1):=fun k hk hkj=>by
 by_cases e:k=j;·subst e;exact ho
 ·exact h k hk (by omega)
theorem PX.next{l:List Ce}{t:List Int}{j:Nat}(h:PX l t j)(hj:j<t.length)(ho:∃v:Nat,t[j]=(v:Int)/\∃hv:v<l.length,(l[v]).kind=0):PX l t (j+1):=fun k hk hkj=>by
 by_cases e:k=j;·subst e;exact ho
 ·exact h k hk (by omega)
theorem Ct(h:Hp)(A:Nat->Prop)(w:World)(vs:List Value)(hh:Hp.rep A w h vs):Calls Tryz.prog 59 #[.agg vs.toArray] w (Pure w (uW h.Good)):=by
 obtain⟨a,cap,b,aR,rfl,hc1,hc2,hc3,ht1,ht2,ht3,hc,ht⟩:=Hp.mG hh;obtain⟨_,_,cb,qD,e, -, -, -,ha,he⟩:=hc.at;simp only[dC,dL]at e;obtain⟨rfl,rfl⟩:=e;obtain⟨_,_,tb,El,e, -, -, -,hb,hf⟩:=ht.at;simp only[dC,dL]at e;obtain⟨rfl,rfl⟩:=e;have HE:=zh he;have HA:=zh ha;have ku:=zh hf;have rE:=zh hb;clear hh hc ht he ha hf hb;go_enter Tryz.func59,Tryz.ntmps59;go_wp2_with fail;go_loopw[10](fun i wr=>∃j:Nat,j<=h.cells.length/\i= .int .i64 j/\Below (w.heap.size+1) (w.alloc (.cells #[.slice a h.cells.length cap,.slice b h.trail.length aR] 59)) wr/\PW h.cells j)(fun i _=>h.cells.length - (intOf i).toNat);case atStart=>exact⟨0,dn _,rfl,zB _ _,fun k _ hk=>by omega⟩
 case round=>
  obtain⟨j,hj,rfl,hb,hpre⟩:=hrel;have HB:=zh hb;have HP:=zh hpre;have hz:=hb.size;simp only[bQ]at hz;have hz':w.heap.size<wr.heap.size:=hz;clear hb hpre;by_cases hlt:j<h.cells.length
  ·obtain⟨rfl,bC⟩:=HA.o (by omega);have hk2:af A w wr:=(af.alloc _ _ _).trans (af.ob (HB.o.mono (by simp)));obtain⟨c0,c1,c2,i0,i1,i2⟩:=xO HE.o bC hk2 hlt;have f0:wr.cell? ⟨w.heap.size,0,none⟩=some (.slice (some ⟨cb,qD,none⟩) h.cells.length cap):=by rw[HB.o.cell (by simp)];simp
   clear hk2;have hlb:cb<wr.heap.size:=fK wr _ c0;go_wp2_with fail;all_goals
    first
     |
      (
       go_roundw;case rel=>refine⟨j+1,by omega,by go_num,HB.o.alloc hz _,HP.o.next hlt ?_⟩;clear HE ku HA rE HB HP;unfold Ce.fF;simp_all<;>omega
       case measure=>simp[intOf];omega)
     |(go_ret;refine⟨_,rfl,eB ((HB.o.alloc hz _).mono (by simp)),false,rfl,?_⟩;simp only[mD,false_iff];intro hg;have :=hg.1 j hlt;clear HE ku HA rE HB HP;unfold Ce.fF at this;simp_all<;>omega)
     |go_ways
  ·have eH:j=h.cells.length:=by omega
   have HJ:=zh eH;clear eH;have f0:wr.cell? ⟨w.heap.size,0,none⟩=some (.slice a h.cells.length cap):=by rw[HB.o.cell (by simp)];simp
   have f1:wr.cell? ⟨w.heap.size,1,none⟩=some (.slice b h.trail.length aR):=by rw[HB.o.cell (by simp)];simp
   obtain⟨w1,rfl⟩:∃x,x=wr:=⟨_,rfl⟩;go_wp2_with fail;go_loopw[80](fun i ws=>∃q:Nat,q<=h.trail.length/\i= .int .i64 q/\Below w1.heap.size w1 ws/\PX h.cells h.trail q)(fun i _=>h.trail.length - (intOf i).toNat);case atStart=>exact⟨0,dn _,rfl,zB _ _,fun k _ hk=>by omega⟩
   case round=>
    obtain⟨q,hq,rfl,hb,hpre⟩:=hrel;have f0':=bc hb f0;have f1':=bc hb f1;clear f0 f1;have HB2:=zh hb;have Cu:=zh hpre;have hzz:=hb.size;clear hb hpre;by_cases hlt2:q<h.trail.length
    ·obtain⟨rfl,amK⟩:=rE.o (by omega);have hk2:af A w wr:=((af.alloc _ _ _).trans (af.ob (HB.o.mono (by simp)))).trans (af.ob HB2.o);have Cv:=zh hk2;obtain⟨d0,id0⟩:=Cr ku.o amK hk2 hlt2;have hq0:(0:Int)<=(q:Int):=zN _;have hq1:(q:Int)<(h.trail.length:Int):=by omega
     clear hk2;by_cases hin:0<=h.trail[q]/\h.trail[q]<h.cells.length
     ·obtain⟨v,hv⟩:=dQ hin.1;have hvl:v<h.cells.length:=by omega
      have HV:=zh hv;rw[hv]at d0;clear hv hin id0;obtain⟨rfl,bC⟩:=HA.o (by omega);obtain⟨c0,c1,c2,i0,i1,i2⟩:=xO HE.o bC Cv.o hvl;have hv0:(0:Int)<=(v:Int):=zN _;have hv1:(v:Int)<(h.cells.length:Int):=by omega
      go_wp2_with fail;all_goals
       first
        |
         (
          go_roundw;case rel=>refine⟨q+1,by omega,by go_num,HB2.o,Cu.o.next hlt2 ⟨v,HV.o,hvl,?_⟩⟩;clear HE ku HA rE HB HP Cv HB2 Cu HV HJ;simp_all<;>omega
          case measure=>simp[intOf];omega)
        |
         (
          go_ret;refine⟨_,rfl,eB ((HB.o.trans (HB2.o.mono hz)).mono (by simp)),false,rfl,?_⟩;simp only[mD,false_iff];intro hg;obtain⟨v',e1,e2,e3⟩:=hg.2.1 q hlt2;obtain rfl:v'=v:=by have :=HV.o;omega
          clear HE ku HA rE HB HP Cv HB2 Cu HV HJ;simp_all<;>omega)
        |go_ways
     ·go_wp2_with fail;all_goals go_ret;refine⟨_,rfl,eB ((HB.o.trans (HB2.o.mono hz)).mono (by simp)),false,rfl,?_⟩;simp only[mD,false_iff];intro hg;obtain⟨v',e1,e2,e3⟩:=hg.2.1 q hlt2;omega
    ·go_wp2_with fail;all_goals go_ret;refine⟨_,rfl,eB ((HB.o.trans (HB2.o.mono hz)).mono (by simp)),_,rfl,?_⟩;have :=HJ.o;refine Iff.trans (b:=h.cells.length<=65536/\h.trail.length<=65536) ?_ ⟨fun h1=>⟨fun i hi=>HP.o i hi (by omega),fun i hi=>Cu.o i hi (by omega),h1.1,h1.2⟩,fun hg=>hg.2.2⟩;simp<;>omega
