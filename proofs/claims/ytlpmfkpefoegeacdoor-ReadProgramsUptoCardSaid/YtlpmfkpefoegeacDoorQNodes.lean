import Derived.Test.YtlpmfkpefoegeacDoorQCopy
import Derived.Test.YtlpmfkpefoegeacDoorQRen
namespace Go.Proofs.YtlpmfkpefoegeacDoor
set_option maxRecDepth 100000
set_option maxHeartbeats 16000000
set_option linter.all false
open Go.RowKit
namespace Tm
inductive Good (vars : Int) : Tm → Prop where
  | var (n : Int) (h0 : 0 ≤ n) (h1 : n < vars) : Good vars (mk 0 n ByteArray.empty [])
  | atom (s : ByteArray) (h : IsName s) : Good vars (mk 1 0 s [])
  | int (n : Int) (h0 : -1099511627776 ≤ n) (h1 : n ≤ 1099511627776) : Good vars (mk 2 n ByteArray.empty [])
  | comp (s : ByteArray) (l : List Tm) (h : IsName s) (h1 : ¬ s.toList = [33]) (h2 : 1 ≤ l.length) (h3 : l.length ≤ 4) (h4 : ∀ t ∈ l, Good vars t) : Good vars (mk 3 0 s l)
end Tm
theorem ZcM{s:ByteArray}:s.toList.isEmpty=true↔s=ByteArray.empty:=by
 constructor;·intro h;refine Zbv ?_;rw[List.isEmpty_iff]at h;rw[h];decide+kernel
 ·rintro rfl;decide+kernel
theorem Zg7{α:Type}{l:List α}:((l.length:Int)==0)=true↔l=[]:=by cases l<;>simp<;>omega
namespace Tm
theorem good0{vars n:Int}{s:ByteArray}{l:List Tm}:Good vars (mk 0 n s l)↔decide (0<=n)=true/\decide (n<vars)=true/\s.toList.isEmpty=true/\((l.length:Int)==0)=true:=by
 rw[ZcM,Zg7,decide_eq_true_iff,decide_eq_true_iff];constructor;·intro h;cases h with|var _ h0 h1=>exact⟨h0,h1,rfl,rfl⟩
 ·rintro⟨h0,h1,rfl,rfl⟩;exact .var n h0 h1
theorem good1{vars n:Int}{s:ByteArray}{l:List Tm}:Good vars (mk 1 n s l)↔(n==0)=true/\IsName s/\((l.length:Int)==0)=true:=by
 rw[Zg7,beq_iff_eq];constructor;·intro h;cases h with|atom _ h=>exact⟨rfl,h,rfl⟩
 ·rintro⟨rfl,h,rfl⟩;exact .atom s h
theorem good2{vars n:Int}{s:ByteArray}{l:List Tm}:Good vars (mk 2 n s l)↔decide (-1099511627776<=n)=true/\decide (n<=1099511627776)=true/\s.toList.isEmpty=true/\((l.length:Int)==0)=true:=by
 rw[ZcM,Zg7,decide_eq_true_iff,decide_eq_true_iff];constructor;·intro h;cases h with|int _ h0 h1=>exact⟨h0,h1,rfl,rfl⟩
 ·rintro⟨h0,h1,rfl,rfl⟩;exact .int n h0 h1
theorem good3{vars n:Int}{s:ByteArray}{l:List Tm}:Good vars (mk 3 n s l)↔(n != 0)=false/\IsName s/\(s.toList==[33])=false/\decide ((l.length:Int)<1)=false/\decide (4<(l.length:Int))=false/\∀t∈l,Good vars t:=by
 rw[bne_eq_false_iff_eq,decide_eq_false_iff_not,decide_eq_false_iff_not,beq_eq_false_iff_ne];constructor;·intro h;cases h with|comp _ _ h h1 h2 h3 h4=>exact⟨rfl,h,h1,by omega,by omega,h4⟩
 ·rintro⟨rfl,h,h1,h2,h3,h4⟩;exact .comp s l h h1 (by omega) (by omega) h4
theorem good_kind{vars:Int}{t:Tm}(h:Good vars t):t.kind=0\/t.kind=1\/t.kind=2\/t.kind=3:=by cases h<;>simp[kind]
end Tm
def ZeT(t:Tm):Prop:=∀(vars:Int)(A:Nat->Prop)(w:World)(vs:List Value),I64 vars->Tm.rep A w t vs->Calls Tryd.prog 61 #[.agg vs.toArray,.int .i64 vars] w (Pure w fun v _=>∃r,v= .bool r/\(r=true↔t.Good vars))
theorem Zgx(k n:Int)(s:ByteArray)(l:List Tm)(ih:∀t∈l,ZeT t):ZeT (.mk k n s l):=by
 intro vars A w vs hvars hv;rw[Tm.rep_iff]at hv;obtain⟨hk,hn,hs,v,rfl,hl⟩:=hv;obtain⟨a,cap,b,off,rfl,hlc,hcm,hlb,ha,he⟩:=hl.at;have HE:=zh he;have HA:=zh ha;have IH:=zh ih;have HVS:=zh hvars;have HB0:=zh (show Below w.heap.size w (w.alloc (.cells #[.int .i64 k,.int .i64 n,.string s,.slice a l.length cap] 27))from ZaB (zB _ _));clear he ha hl ih;by_cases k0:k=0
 ·have k0':(k==0)=true:=by simpa using k0
  subst k0;clear k0';by_cases a0:decide (0<=n)=true
  ·by_cases a1:decide (n<vars)=true
   ·by_cases a2:s.toList.isEmpty=true
    ·by_cases a3:((l.length:Int)==0)=true;·go_enter Tryd.func61,Tryd.ntmps61;go_wp2_with fail;go_ret;refine⟨_,rfl,HB0.o,true,rfl,?_⟩;rw[Tm.good0];simp[a0,a1,a2,a3]
     ·have a3':((l.length:Int)==0)=false:=by simpa using a3
      clear a3;go_enter Tryd.func61,Tryd.ntmps61;go_wp2_with fail;go_ret;refine⟨_,rfl,HB0.o,false,rfl,?_⟩;rw[Tm.good0];simp[a0,a1,a2,a3']
    ·have a2':s.toList.isEmpty=false:=by simpa using a2
     clear a2;go_enter Tryd.func61,Tryd.ntmps61;go_wp2_with fail;go_ret;refine⟨_,rfl,HB0.o,false,rfl,?_⟩;rw[Tm.good0];simp[a0,a1,a2']
   ·have a1':decide (n<vars)=false:=by simpa using a1
    clear a1;go_enter Tryd.func61,Tryd.ntmps61;go_wp2_with fail;go_ret;refine⟨_,rfl,HB0.o,false,rfl,?_⟩;rw[Tm.good0];simp[a0,a1']
  ·have a0':decide (0<=n)=false:=by simpa using a0
   clear a0;go_enter Tryd.func61,Tryd.ntmps61;go_wp2_with fail;go_ret;refine⟨_,rfl,HB0.o,false,rfl,?_⟩;rw[Tm.good0];simp[a0']
 ·have k0':(k==0)=false:=by simpa using k0
  by_cases k1:k=1
  ·have k1':(k==1)=true:=by simpa using k1
   subst k1;clear k1';by_cases a0:(n==0)=true
   ·go_enter Tryd.func61,Tryd.ntmps61;go_wp2_with fail;refine(Zd3 s _ hs).mono ?_;rintro e w1⟨r,rfl,hr,rfl⟩;have HR:=zh hr;clear hr;cases r with
     |false=>go_wp2_with fail;have hr:=HR.o;simp only[Bool.false_eq_true,false_iff]at hr;go_ret;refine⟨_,rfl,HB0.o,false,rfl,?_⟩;rw[Tm.good1];simp[a0,hr]
     |true=>
      have hr:=HR.o;simp only[true_iff]at hr;have HNM:=zh hr;clear hr HR;by_cases a2:((l.length:Int)==0)=true;·go_wp2_with fail;go_ret;refine⟨_,rfl,HB0.o,true,rfl,?_⟩;rw[Tm.good1];simp[a0,HNM.o,a2]
      ·have a2':((l.length:Int)==0)=false:=by simpa using a2
       clear a2;go_wp2_with fail;go_ret;refine⟨_,rfl,HB0.o,false,rfl,?_⟩;rw[Tm.good1];simp[a0,HNM.o,a2']
   ·have a0':(n==0)=false:=by simpa using a0
    clear a0;go_enter Tryd.func61,Tryd.ntmps61;go_wp2_with fail;go_ret;refine⟨_,rfl,HB0.o,false,rfl,?_⟩;rw[Tm.good1];simp[a0']
  ·have k1':(k==1)=false:=by simpa using k1
   by_cases k2:k=2
   ·have k2':(k==2)=true:=by simpa using k2
    subst k2;clear k2';by_cases a0:decide (-1099511627776<=n)=true
    ·by_cases a1:decide (n<=1099511627776)=true
     ·by_cases a2:s.toList.isEmpty=true
      ·by_cases a3:((l.length:Int)==0)=true;·go_enter Tryd.func61,Tryd.ntmps61;go_wp2_with fail;go_ret;refine⟨_,rfl,HB0.o,true,rfl,?_⟩;rw[Tm.good2];simp[a0,a1,a2,a3]
       ·have a3':((l.length:Int)==0)=false:=by simpa using a3
        clear a3;go_enter Tryd.func61,Tryd.ntmps61;go_wp2_with fail;go_ret;refine⟨_,rfl,HB0.o,false,rfl,?_⟩;rw[Tm.good2];simp[a0,a1,a2,a3']
      ·have a2':s.toList.isEmpty=false:=by simpa using a2
       clear a2;go_enter Tryd.func61,Tryd.ntmps61;go_wp2_with fail;go_ret;refine⟨_,rfl,HB0.o,false,rfl,?_⟩;rw[Tm.good2];simp[a0,a1,a2']
     ·have a1':decide (n<=1099511627776)=false:=by simpa using a1
      clear a1;go_enter Tryd.func61,Tryd.ntmps61;go_wp2_with fail;go_ret;refine⟨_,rfl,HB0.o,false,rfl,?_⟩;rw[Tm.good2];simp[a0,a1']
    ·have a0':decide (-1099511627776<=n)=false:=by simpa using a0
     clear a0;go_enter Tryd.func61,Tryd.ntmps61;go_wp2_with fail;go_ret;refine⟨_,rfl,HB0.o,false,rfl,?_⟩;rw[Tm.good2];simp[a0']
   ·have k2':(k==2)=false:=by simpa using k2
    by_cases k3:k=3
    ·have k3':(k==3)=true:=by simpa using k3
     subst k3;clear k3';by_cases a0:(n != 0)=false
     ·go_enter Tryd.func61,Tryd.ntmps61;go_wp2_with fail;refine(Zd3 s _ hs).mono ?_;rintro e w1⟨r,rfl,hr,rfl⟩;have HR:=zh hr;clear hr;cases r with
       |false=>go_wp2_with fail;have hr:=HR.o;simp only[Bool.false_eq_true,false_iff]at hr;go_ret;refine⟨_,rfl,HB0.o,false,rfl,?_⟩;rw[Tm.good3];simp[a0,hr]
       |true=>
        have hr:=HR.o;simp only[true_iff]at hr;have HNM:=zh hr;clear hr HR;by_cases a2:(s.toList==[33])=false
        ·by_cases a3:decide ((l.length:Int)<1)=false
         ·by_cases a4:decide (4<(l.length:Int))=false
          ·go_wp2_with fail;go_loopw[99](fun q wr=>∃j:Nat,j<=l.length/\q= .int .i64 j/\Below w.heap.size w wr/\∀x(hx:x<j)(hl:j<=l.length),(l[x]'(by omega)).Good vars)(fun q _=>l.length - (intOf q).toNat);case atStart=>exact⟨0,Nat.zero_le _,rfl,HB0.o,fun x hx=>by omega⟩
           case round=>
            obtain⟨j,hj,rfl,hb,hp⟩:=hrel;have HB:=zh hb;have HP:=zh hp;have hz:=hb.size;clear hb hp;by_cases hlt:j<l.length
            ·obtain⟨rfl,hAb⟩:=HA.o (by omega);obtain⟨sa,sc,c0,c1,c2,c3,hr⟩:=ZaW HE.o hAb (Keeps.ob HB.o) hlt;have HC:=zh (IH.out _ (List.getElem_mem hlt) vars _ (wr.alloc _) _ HVS.o (Tm.rep_lasts.1 _ _ _ _ _ hr (Keeps.alloc _ _ (.cells (#[.int .i64 l[j].kind,.int .i64 l[j].n,.string l[j].s,.slice sa l[j].args.length sc]:Array Value) 27))));clear hr;go_wp2_with fail;refine(HC.o).mono ?_;rintro e w1⟨v,rfl,hb1,r,rfl,hr⟩;have HR:=zh hr;have HB1:=zh ((HB.o.alloc hz _).trans (hb1.mono (by simp;omega)));clear hr hb1 HC c0 c1 c2 c3;cases r with
              |false=>go_wp2_with fail;go_ret;refine⟨_,rfl,HB1.o,false,rfl,?_⟩;rw[Tm.good3];have hr:=HR.o;simp only[Bool.false_eq_true,false_iff]at hr ⊢;exact fun⟨_,_,_,_,_,h⟩=>hr (h _ (List.getElem_mem hlt))
              |true=>
               go_wp2_with fail;go_roundw;case rel=>
                refine⟨j+1,by omega,by go_num,HB1.o,fun x hx _=>?_⟩;by_cases hxj:x=j;·subst hxj;simpa using HR.o
                ·exact HP.o x (by omega) hj
               case measure=>simp[intOf];omega
            ·have :j=l.length:=by omega
             subst this;go_wp2_with fail;go_ret;refine⟨_,rfl,HB.o,true,rfl,?_⟩;rw[Tm.good3];simp only[true_iff];refine⟨a0,HNM.o,a2,a3,a4,fun t ht=>?_⟩;obtain⟨x,hx,rfl⟩:=List.mem_iff_getElem.1 ht;exact HP.o x hx (zL _)
          ·have a4':decide (4<(l.length:Int))=true:=by simpa using a4
           clear a4;go_wp2_with fail;go_ret;refine⟨_,rfl,HB0.o,false,rfl,?_⟩;rw[Tm.good3];simp[a0,HNM.o,a2,a3,a4']
         ·have a3':decide ((l.length:Int)<1)=true:=by simpa using a3
          clear a3;go_wp2_with fail;go_ret;refine⟨_,rfl,HB0.o,false,rfl,?_⟩;rw[Tm.good3];simp[a0,HNM.o,a2,a3']
        ·have a2':(s.toList==[33])=true:=by simpa using a2
         clear a2;go_wp2_with fail;go_ret;refine⟨_,rfl,HB0.o,false,rfl,?_⟩;rw[Tm.good3];simp[a0,HNM.o,a2']
     ·have a0':(n != 0)=true:=by simpa using a0
      clear a0;go_enter Tryd.func61,Tryd.ntmps61;go_wp2_with fail;go_ret;refine⟨_,rfl,HB0.o,false,rfl,?_⟩;rw[Tm.good3];simp[a0']
    ·have k3':(k==3)=false:=by simpa using k3
     have K:=zh (show ¬(k=0\/k=1\/k=2\/k=3)by simp[k0,k1,k2,k3]);clear k0 k1 k2 k3;go_enter Tryd.func61,Tryd.ntmps61;go_wp2_with fail;go_ret;refine⟨_,rfl,HB0.o,false,rfl,?_⟩;simp only[Bool.false_eq_true,false_iff];exact fun h=>K.out (by simpa[Tm.kind]using Tm.good_kind h)
theorem ZfF:∀t,ZeT t:=by intro t;induction t using Tm.induct with|h k n s l ih=>exact Zgx k n s l ih
def ZdC(t:Tm):Prop:=∀(A:Nat->Prop)(w:World)(vs:List Value),t.nodes<=1099511627776->Tm.rep A w t vs->Calls Tryd.prog 62 #[.agg vs.toArray] w (Pure w fun v _=>v= .int .i64 t.nodes)
theorem ZfG(k n:Int)(s:ByteArray)(l:List Tm)(ih:∀t∈l,ZdC t):ZdC (.mk k n s l):=by
 intro A w vs hnd hv;rw[Tm.rep_iff]at hv;obtain⟨hk,hn,hs,v,rfl,hl⟩:=hv;obtain⟨a,cap,b,off,rfl,hlc,hcm,hlb,ha,he⟩:=hl.at;have HE:=zh he;have HA:=zh ha;have IH:=zh ih;simp only[Tm.nodes]at hnd;have HND:=zh hnd;have HB0:=zh (show Below w.heap.size w (w.alloc (.cells #[.int .i64 k,.int .i64 n,.string s,.slice a l.length cap] 27))from ZaB (zB _ _));clear he ha hl ih hnd;go_enter Tryd.func62,Tryd.ntmps62;go_wp2_with fail;go_loopw[3,9](fun m q wr=>∃j:Nat,j<=l.length/\q= .int .i64 j/\m= .int .i64 ((1+Tm.nodesL (l.take j):Nat):Int)/\Below w.heap.size w wr)(fun _ q _=>l.length - (intOf q).toNat);case atStart=>exact⟨0,Nat.zero_le _,rfl,by simp[Tm.nodesL],HB0.o⟩
 case round=>
  obtain⟨j,hj,rfl,rfl,hb⟩:=hrel;have HB:=zh hb;have hz:=hb.size;clear hb;by_cases hlt:j<l.length
  ·obtain⟨rfl,hAb⟩:=HA.o (by omega);obtain⟨sa,sc,c0,c1,c2,c3,hr⟩:=ZaW HE.o hAb (Keeps.ob HB.o) hlt;have hn1:=Tm.nodesL_take l j hlt;have hn2:=HND.o;have hb1:Tm.nodesL (l.take j)+l[j].nodes<=1099511627776:=by omega
   have HS:Hd (Tm.nodesL (l.take (j+1))=Tm.nodesL (l.take j)+l[j].nodes):=by rw[List.take_succ_eq_append_getElem hlt,Tm.nodesL_append];simp[Hd,Tm.nodesL]
   have HC:=zh (IH.out _ (List.getElem_mem hlt) _ (wr.alloc _) _ (by omega) (Tm.rep_lasts.1 _ _ _ _ _ hr (Keeps.alloc _ _ (.cells (#[.int .i64 l[j].kind,.int .i64 l[j].n,.string l[j].s,.slice sa l[j].args.length sc]:Array Value) 27))));clear hr hn1 hn2;go_wp2_with fail;refine(HC.o).mono ?_;rintro e w1⟨v,rfl,hb1,rfl⟩;have HB1:=zh ((HB.o.alloc hz _).trans (hb1.mono (by simp;omega)));clear hb1 HC c0 c1 c2 c3;go_wp2_with fail;go_roundw;case rel=>exact⟨j+1,by omega,by go_num,by rw[HS.o];congr 1;omega,HB1.o⟩
   case measure=>simp[intOf];omega
  ·have :j=l.length:=by omega
   subst this;go_wp2_with fail;go_ret;refine⟨_,rfl,HB.o,?_⟩;rw[List.take_length];simp only[Tm.nodes];show Value.int .i64 _=_;congr 1;omega
theorem ZfH:∀t,ZdC t:=by intro t;induction t using Tm.induct with|h k n s l ih=>exact ZfG k n s l ih
end Go.Proofs.YtlpmfkpefoegeacDoor
