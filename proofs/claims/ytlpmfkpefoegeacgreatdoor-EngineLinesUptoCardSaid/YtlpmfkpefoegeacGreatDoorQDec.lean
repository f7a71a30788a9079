import Derived.Test.YtlpmfkpefoegeacGreatDoorQRd1
import Derived.Lib.ItoaLen
namespace Go.Proofs.YtlpmfkpefoegeacGreatDoor
set_option maxRecDepth 99999
set_option maxHeartbeats 0
set_option linter.all false
open Go.RowKit Lib
theorem ard:∀k:Nat,k<10->(⟨#[48,49,50,51,52,53,54,55,56,57]⟩:ByteArray).extract k (k+1)=bs [UInt8.ofNat (48+k)]:=by
 intro k hk;obtain rfl|rfl|rfl|rfl|rfl|rfl|rfl|rfl|rfl|rfl:k=0\/k=1\/k=2\/k=3\/k=4\/k=5\/k=6\/k=7\/k=8\/k=9:=by omega
 all_goals rfl
theorem Xf{u:Nat}(h:u<10):decDigits u=[UInt8.ofNat (48+u)]:=by rw[decDigits,Ay h]
theorem oC(a b:Str):bs a++bs b=bs (a++b):=by apply XP;rw[Xx];simp[bs]
theorem afV(u:Nat):∀(n:Int),n.natAbs=u->au n->∀w:World,Calls Tryz.prog 47 #[.int .i64 n] w (fun e w'=>e= .returned (.string (bs (Lib.itoa n)))/\w'=w):=by
 induction u using Nat.strongRecOn with
  |_ u ih=>
   intro n hu hn w;unfold au at hn;obtain⟨hn1,hn2⟩:=hn;by_cases hs: -10<n/\n<10
   ·obtain⟨h1,h2⟩:=hs;have f1:decide ((-10:Int)<n)=true:=kJ h1;have f2:decide (n<10)=true:=kJ h2;have hk:u<10:=by omega
    have hmx:max n (-n)=(u:Int):=by omega
    have HX:=zh (ard u hk);have HD:=zh (Xf hk);by_cases h0:n<0
    ·have f3:decide (n<0)=true:=kJ h0;obtain⟨m,hm⟩:∃m:Int,m= -n:=⟨_,rfl⟩;have hmu:m=(u:Int):=by omega
     have hlt:n<m:=by omega
     have HI:=zh (show Lib.itoa n=45::[UInt8.ofNat (48+u)]by
      obtain rfl:n= -(u:Int):=by omega
      rw[itoa_neg u (by omega),HD.o]);have HU:=zh (show m.toNat=u/\(m+1).toNat=u+1 by omega);have hneg: -n=m:=hm.symm;clear hm ih hu h1 h2 hmx;go_enter Tryz.func47,Tryz.ntmps47;go_wp2_with fail;go_ret;refine⟨?_,rfl⟩;rw[HI.o];show Ending.returned (Value.string (bs [45]++(⟨#[48,49,50,51,52,53,54,55,56,57]⟩:ByteArray).extract u (u+1)))=_;rw[HX.o,oC];rfl
    ·have f3:decide (n<0)=false:=decide_eq_false h0;have HI:=zh (show Lib.itoa n=[UInt8.ofNat (48+u)]by
      obtain⟨v,rfl⟩:∃v:Nat,n=v:=⟨n.toNat,by omega⟩;rw[itoa_nonneg];have :v=u:=by omega
      rw[this,HD.o]);have HU:=zh (show n.toNat=u/\(n+1).toNat=u+1 by omega);have hn0:0<=n:=by omega
     have hle2:¬n< -n:=by omega
     clear h0 ih hu hmx;go_enter Tryz.func47,Tryz.ntmps47;go_wp2_with fail;all_goals go_ret;refine⟨?_,rfl⟩;rw[HI.o];show Ending.returned (Value.string ((⟨#[48,49,50,51,52,53,54,55,56,57]⟩:ByteArray).extract n.toNat (n+1).toNat))=_;rw[HU.o.1,HU.o.2,HX.o]
   ·by_cases hneg:n<0
    ·have f1:decide ((-10:Int)<n)=false:=decide_eq_false (by omega);obtain⟨a,ha⟩:∃a:Nat,a=u%10:=⟨_,rfl⟩;obtain⟨q,hq⟩:∃q,q=Int.tdiv n 10:=⟨_,rfl⟩;obtain⟨d,hd⟩:∃d,d=Int.tmod n 10:=⟨_,rfl⟩;have hnq:q.natAbs=u/10:=by rw[hq,Int.natAbs_tdiv,hu];rfl
     have hnd:d.natAbs=a:=by rw[hd,Int.natAbs_tmod,hu,ha];rfl
     have hadd:q*10+d=n:=by rw[hq,hd];exact Int.tdiv_mul_add_tmod n 10
     have hdd:d= -(a:Int)/\q= -((u/10:Nat):Int):=by omega
     have HS:=zh (show Lib.itoa n=Lib.itoa q++Lib.itoa (a:Int)by
      obtain rfl:n= -(u:Int):=by omega
      rw[itoa_neg u (by omega),hdd.2,itoa_neg (u/10) (by omega)];rw[itoa_nonneg a,Xf (u:=a) (by omega),L9 (u:=u) (by omega),<-ha];try(first|rfl|simp));have HQ:=zh (ih (u/10) (by omega) q hnq (by unfold au;omega) w);have HA:=zh (ih a (by omega) (a:Int) (by omega) (by unfold au;omega) w);have l1:=Lib.itoa_length_le q (by omega) (by omega);have l2:=Lib.itoa_length_le (a:Int) (by omega) (by omega);have hsz:(bs (Lib.itoa q)).size+(bs (Lib.itoa (a:Int))).size<=9223372036854775807:=by rw[dY,dY];omega
     have hqe:Int.tdiv n 10=q:=hq.symm;have hde:Int.tmod n 10=d:=hd.symm;have hq1: -9223372036854775808<=q:=by omega
     have hq2:q<=9223372036854775807:=by omega
     have hd1: -9<=d:=by omega
     have hd2:d<=9:=by omega
     clear hq hd hnq hnd hadd ih hu ha l1 l2 hs;obtain⟨hd3, -⟩:=hdd;have hnd: -d=(a:Int):=by omega
     have hlt:d< -d\/d=0:=by omega
     clear hlt;by_cases ha0:a=0
     ·obtain rfl:d=(a:Int):=by omega
      have hna: -(a:Int)=(a:Int):=by omega
      clear hd3 hnd ha0;go_enter Tryz.func47,Tryz.ntmps47;go_wp2_with fail;refine HQ.o.mono ?_;rintro e w1⟨rfl,rfl⟩;go_wp2_with fail;refine HA.o.mono ?_;rintro e w2⟨rfl,rfl⟩;go_wp2_with fail;go_ret;rw[HS.o,<-oC];exact⟨rfl,rfl⟩
     ·have hlt2:d<(a:Int):=by omega
      clear hd3 ha0;go_enter Tryz.func47,Tryz.ntmps47;go_wp2_with fail;refine HQ.o.mono ?_;rintro e w1⟨rfl,rfl⟩;go_wp2_with fail;refine HA.o.mono ?_;rintro e w2⟨rfl,rfl⟩;go_wp2_with fail;go_ret;rw[HS.o,<-oC];exact⟨rfl,rfl⟩
    ·have f1:decide ((-10:Int)<n)=true:=kJ (by omega);have f2:decide (n<10)=false:=decide_eq_false (by omega);obtain⟨a,ha⟩:∃a:Nat,a=u%10:=⟨_,rfl⟩;obtain⟨q,hq⟩:∃q,q=Int.tdiv n 10:=⟨_,rfl⟩;obtain⟨d,hd⟩:∃d,d=Int.tmod n 10:=⟨_,rfl⟩;have hnq:q.natAbs=u/10:=by rw[hq,Int.natAbs_tdiv,hu];rfl
     have hnd:d.natAbs=a:=by rw[hd,Int.natAbs_tmod,hu,ha];rfl
     have hadd:q*10+d=n:=by rw[hq,hd];exact Int.tdiv_mul_add_tmod n 10
     have hdd:d=(a:Int)/\q=((u/10:Nat):Int):=by omega
     have HS:=zh (show Lib.itoa n=Lib.itoa q++Lib.itoa (a:Int)by
      obtain rfl:n=(u:Int):=by omega
      rw[itoa_nonneg u,hdd.2,itoa_nonneg (u/10)];rw[itoa_nonneg a,Xf (u:=a) (by omega),L9 (u:=u) (by omega),<-ha];try(first|rfl|simp));have HQ:=zh (ih (u/10) (by omega) q hnq (by unfold au;omega) w);have HA:=zh (ih a (by omega) (a:Int) (by omega) (by unfold au;omega) w);have l1:=Lib.itoa_length_le q (by omega) (by omega);have l2:=Lib.itoa_length_le (a:Int) (by omega) (by omega);have hsz:(bs (Lib.itoa q)).size+(bs (Lib.itoa (a:Int))).size<=9223372036854775807:=by rw[dY,dY];omega
     have hqe:Int.tdiv n 10=q:=hq.symm;have hde:Int.tmod n 10=d:=hd.symm;have hq1: -9223372036854775808<=q:=by omega
     have hq2:q<=9223372036854775807:=by omega
     have hd1: -9<=d:=by omega
     have hd2:d<=9:=by omega
     clear hq hd hnq hnd hadd ih hu ha l1 l2 hs;obtain⟨rfl, -⟩:=hdd;have ha0:(0:Int)<=(a:Int):=zN _;have hmx:max (a:Int) (-(a:Int))=(a:Int):=by omega
     go_enter Tryz.func47,Tryz.ntmps47;go_wp2_with fail;refine HQ.o.mono ?_;rintro e w1⟨rfl,rfl⟩;go_wp2_with fail;refine HA.o.mono ?_;rintro e w2⟨rfl,rfl⟩;go_wp2_with fail;go_ret;rw[HS.o,<-oC];exact⟨rfl,rfl⟩
