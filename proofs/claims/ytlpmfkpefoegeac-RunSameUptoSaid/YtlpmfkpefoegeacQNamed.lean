import Derived.Test.YtlpmfkpefoegeacQCopy
import Derived.Test.YtlpmfkpefoegeacProg
namespace Go.Proofs.Ytlpmfkpefoegeac
set_option maxRecDepth 100000
set_option maxHeartbeats 16000000
set_option linter.all false
open Go.RowKit
structure Ce where
  kind : Int
  n : Int
  s : ByteArray
  deriving DecidableEq, Inhabited
def Zjw{α:Type}(f:α->List Value)(ok:α->Prop)(_:Nat->Prop)(_:World)(x:α)(vs:List Value):Prop:=ok x/\vs=f x
theorem ZbY{α:Type}{f:α->List Value}{ok:α->Prop}(h1:∀x,∀u∈f x,u.oneCell'=true):Lasts (Zjw f ok):=⟨fun A w w' x vs h _=>h,fun A A' w x vs h _=>h,fun A w x vs h=>by obtain⟨_,rfl⟩:=h;exact h1 x⟩
def Ce.vals(c:Ce):List Value:=[.int .i64 c.kind,.int .i64 c.n,.string c.s]
def Ce.Ok(c:Ce):Prop:=I64 c.kind/\I64 c.n/\c.s.size<=1048576
def Ce.rep:(Nat->Prop)->World->Ce->List Value->Prop:=Zjw Ce.vals Ce.Ok
theorem Ce.rep_lasts:Lasts Ce.rep:=ZbY fun x=>by simp[Ce.vals,Value.oneCell']
def Zln(n:Int):List Value:=[.int .i64 n]
def Zg0:(Nat->Prop)->World->Int->List Value->Prop:=Zjw Zln I64
theorem Zae:Lasts Zg0:=ZbY fun x=>by simp[Zln,Value.oneCell']
def Zno(b:Bool):List Value:=[.bool b]
abbrev CesR:=SlR 3 Ce.rep
abbrev Zbv:=SlR 1 Zg0
structure Hp where
  cells : List Ce
  trail : List Int
  deriving DecidableEq, Inhabited
def Hp.rep(A:Nat->Prop)(w:World)(h:Hp)(vs:List Value):Prop:=∃c t,vs=[c,t]/\CesR A w h.cells c/\Zbv A w h.trail t
theorem Hp.rep_lasts:Lasts Hp.rep:=by
 refine⟨fun A w w' x vs h hk=>?_,fun A A' w x vs h hA=>?_,fun A w x vs h=>?_⟩;·obtain⟨c,t,rfl,hc,ht⟩:=h;exact⟨c,t,rfl,hc.keeps Ce.rep_lasts hk,ht.keeps Zae hk⟩
 ·obtain⟨c,t,rfl,hc,ht⟩:=h;exact⟨c,t,rfl,hc.mono Ce.rep_lasts (by omega) hA,ht.mono Zae (by omega) hA⟩
 ·obtain⟨c,t,rfl,hc,ht⟩:=h;obtain⟨_,_,_,_,rfl,_⟩:=hc.at;obtain⟨_,_,_,_,rfl,_⟩:=ht.at;simp[Value.oneCell']
theorem Hp.rep.keeps{A:Nat->Prop}{w w':World}{h:Hp}{vs:List Value}(hh:Hp.rep A w h vs)(hk:Keeps A w w'):Hp.rep A w' h vs:=Hp.rep_lasts.1 _ _ _ _ _ hh hk
theorem Hp.rep.below{A:Nat->Prop}{w w':World}{h:Hp}{vs:List Value}(hh:Hp.rep A w h vs)(hk:Below w.heap.size w w'):Hp.rep A w' h vs:=hh.keeps (Keeps.ob hk)
theorem Hp.rep.mono{A A':Nat->Prop}{w:World}{h:Hp}{vs:List Value}(hh:Hp.rep A w h vs)(hA:∀b,b<w.heap.size->A b->A' b):Hp.rep A' w h vs:=Hp.rep_lasts.2.1 _ _ _ _ _ hh hA
theorem Hp.rep2{A:Nat->Prop}{w:World}{h:Hp}{vs:List Value}(hh:Hp.rep A w h vs):∃a cap b tap,vs=[.slice a h.cells.length cap,.slice b h.trail.length tap]/\h.cells.length<=cap/\cap<=maxLen/\h.cells.length<=1048576/\h.trail.length<=tap/\tap<=maxLen/\h.trail.length<=1048576/\CesR A w h.cells (.slice a h.cells.length cap)/\Zbv A w h.trail (.slice b h.trail.length tap):=by obtain⟨c,t,rfl,hc,ht⟩:=hh;obtain⟨a,cap,_,_,rfl,h1,h2,h3, -⟩:=hc.at;obtain⟨b,tap,_,_,rfl,h4,h5,h6, -⟩:=ht.at;exact⟨a,cap,b,tap,rfl,h1,h2,h3,h4,h5,h6,hc,ht⟩
theorem Znp{w:World}{b off:Nat}{v0 v1 v2:Value}(h:RowAt w b off [v0,v1,v2]):w.cell? ⟨b,off,none⟩=some v0/\w.cell? ⟨b,off+1,none⟩=some v1/\w.cell? ⟨b,off+2,none⟩=some v2:=⟨h 0 _ rfl,h 1 _ rfl,h 2 _ rfl⟩
theorem ZbJ{A:Nat->Prop}{w wr:World}{l:List Ce}{b off:Nat}(he:Elems A w 3 Ce.rep l b off)(hA:A b)(hk:Keeps A w wr){k:Nat}(hlt:k<l.length):wr.cell? ⟨b,off+k*3,none⟩=some (.int .i64 l[k].kind)/\wr.cell? ⟨b,off+k*3+1,none⟩=some (.int .i64 l[k].n)/\wr.cell? ⟨b,off+k*3+2,none⟩=some (.string l[k].s)/\I64 l[k].kind/\I64 l[k].n/\l[k].s.size<=1048576:=by obtain⟨vs,hvl,⟨⟨h1,h2,h3⟩,rfl⟩,hrow⟩:=he k _ (List.getElem?_eq_getElem hlt);obtain⟨c0,c1,c2⟩:=Znp (RowAt.keeps hA hrow hk);exact⟨c0,c1,c2,h1,h2,h3⟩
theorem Zcw{A:Nat->Prop}{w wr:World}{l:List Int}{b off:Nat}(he:Elems A w 1 Zg0 l b off)(hA:A b)(hk:Keeps A w wr){k:Nat}(hlt:k<l.length):wr.cell? ⟨b,off+k,none⟩=some (.int .i64 l[k])/\I64 l[k]:=by obtain⟨vs,hvl,⟨h1,rfl⟩,hrow⟩:=he k _ (List.getElem?_eq_getElem hlt);have :=(RowAt.keeps hA hrow hk) 0 _ rfl;exact⟨by simpa using this,h1⟩
def Tells(w:World)(p:Prop)(e:Ending)(w':World):Prop:=∃r,e= .returned (.bool r)/\(r=true↔p)/\w=w'
def Zfm(s:ByteArray):Prop:=s=⟨#[33]⟩\/(1<=s.size/\s.size<=8/\∀i(h:i<s.size),97<=(s[i].toNat:Int)/\(s[i].toNat:Int)<=122)
theorem ZcP{s s':ByteArray}(h:s.toList=s'.toList):s=s':=by rw[ByteArray.toList_eq,ByteArray.toList_eq]at h;cases s;cases s';congr 1;exact Array.toList_inj.1 h
theorem ZiA(s:ByteArray)(w:World)(hs:s.size<=1048576):Calls Try.prog 73 #[.string s] w (Tells w (Zfm s)):=by
 have hc:(⟨#[33]⟩:ByteArray).toList=[33]:=by decide+kernel
 by_cases h1:s.toList=(⟨#[33]⟩:ByteArray).toList
 ·have h1b:(s.toList==[33])=true:=by rw[h1,hc];rfl
  have hn:Zfm s:= .inl (ZcP h1);have HN:=zh hn;clear hn h1 hc;go_enter Try.func73,Try.ntmps73;go_wp2_with fail;go_ret;exact⟨true,rfl,by simp[HN.o],rfl⟩
 ·have h1':¬s=⟨#[33]⟩:=fun e=>h1 (by rw[e]);have h1b:(s.toList==[33])=false:=by rw[hc]at h1;simpa using h1
  have HN:=zh h1';clear h1' h1 hc;go_enter Try.func73,Try.ntmps73;go_wp2_with fail;go_loop[8](fun i=>∃k:Nat,k<=s.size/\i= .int .i64 k/\∀j(h:j<s.size),j<k->97<=(s[j].toNat:Int)/\(s[j].toNat:Int)<=122)(fun i=>s.size - (intOf i).toNat);case atStart=>exact⟨0,Nat.zero_le _,rfl,fun j _ h=>by omega⟩
  case round=>
   obtain⟨k,hk,rfl,hp⟩:=hrel;have HP:=zh hp;clear hp;by_cases hlt:k<s.size
   ·by_cases g1:(s[k].toNat:Int)<97
    ·go_wp2_with fail;go_ret;refine⟨false,rfl,?_,rfl⟩;simp only[Bool.false_eq_true,false_iff];rintro(h|⟨_,_,h⟩);·exact HN.o h
     ·have :=h k hlt;omega
    ·by_cases g2:122<(s[k].toNat:Int)
     ·go_wp2_with fail;go_ret;refine⟨false,rfl,?_,rfl⟩;simp only[Bool.false_eq_true,false_iff];rintro(h|⟨_,_,h⟩);·exact HN.o h
      ·have :=h k hlt;omega
     ·go_wp2_with fail;go_round;case rel=>
       refine⟨k+1,by omega,by go_num,fun j h hj=>?_⟩;by_cases hjk:j=k;·subst hjk;omega
       ·exact HP.o j h (by omega)
      case measure=>simp[intOf];omega
   ·have :k=s.size:=by omega
    subst this;by_cases g1:1<=s.size
    ·go_wp2_with fail;go_ret;refine⟨decide ((s.size:Int)<=8),by simp,?_,rfl⟩;rw[decide_eq_true_iff];constructor;·exact fun h=> .inr ⟨g1,by omega,fun i hi=>HP.o i hi hi⟩
     ·rintro(h|⟨_,h,_⟩);·exact absurd h HN.o
      ·omega
    ·have g1':decide ((1:Int)<=(s.size:Int))=false:=by simp;omega
     go_wp2_with fail;go_ret;refine⟨false,by simp,?_,rfl⟩;simp only[Bool.false_eq_true,false_iff];rintro(h|⟨h,_,_⟩);·exact HN.o h
     ·omega
theorem Zke(k n:Int)(hn:0<n):(k.tmod n<0->k.tmod n+n=k%n)/\(¬k.tmod n<0->k.tmod n=k%n):=by
 have h1:=Int.emod_nonneg k (Int.ne_of_gt hn);have h2:=Int.emod_lt_of_pos k hn;rcases Int.le_total 0 k with h|h;·rw[Int.tmod_eq_emod_of_nonneg h];omega
 ·obtain⟨m,rfl⟩:∃m,k= -m:=⟨-k,by omega⟩;rw[Int.neg_tmod,Int.tmod_eq_emod_of_nonneg (by omega)];have h3:=Int.emod_nonneg m (Int.ne_of_gt hn);have h4:=Int.emod_lt_of_pos m hn;have h5:(-m)%n=(-(m%n))%n:=by conv=>lhs;rw[<-Int.emod_add_mul_ediv m n,Int.neg_add,<-Int.mul_neg,Int.add_mul_emod_self_left]
  by_cases h6:m%n=0;·rw[h5,h6];simp
  ·have h7:(-(m%n))%n=n - m%n:=by rw[show -(m%n)=(n - m%n)+n*(-1)by rw[Int.mul_neg,Int.mul_one];omega,Int.add_mul_emod_self_left];exact Int.emod_eq_of_lt (by omega) (by omega)
   rw[h5,h7];omega
theorem ZmK(k n:Int)(hk:I64 k)(hn:0<n)(hn2:n<=1048576)(w:World):Calls Try.prog 6 #[.int .i64 k,.int .i64 n] w fun e w'=>e= .returned (.int .i64 (k%n))/\w=w':=by
 obtain⟨p1,p2⟩:=Zke k n hn;have b1:=Int.emod_nonneg k (Int.ne_of_gt hn);have b2:=Int.emod_lt_of_pos k hn;have hkb: -9223372036854775808<=k/\k<=9223372036854775807:=hk;have H1:=zh p1;have H2:=zh p2;have hb: -n<=k.tmod n/\k.tmod n<n:=by
  by_cases h:k.tmod n<0;·have :=p1 h;omega
  ·have :=p2 h;omega
 clear p1 p2 hk;by_cases hneg:k.tmod n<0;·go_enter Try.func6,Try.ntmps6;go_wp2_with fail;go_ret;exact⟨by rw[<-H1.o hneg];rfl,rfl⟩
 ·go_enter Try.func6,Try.ntmps6;go_wp2_with fail;go_ret;exact⟨by rw[<-H2.o hneg];rfl,rfl⟩
end Go.Proofs.Ytlpmfkpefoegeac
