import Derived.Test.YtlpmfkpefoegeacGreatDoorQRd1
import Derived.Stop.LaidErr
namespace Go.Proofs.YtlpmfkpefoegeacGreatDoor
set_option maxRecDepth 99999
set_option maxHeartbeats 0
set_option linter.all false
open Go.RowKit Go.ChangeShapes Go.WideShapes
theorem QU{n:String}{w w':World}{cs:Array Value}(h:w.var? Tryz.prog n=some cs)(hk:ag (fun b=>b<w.heap.size) w w'):w'.var? Tryz.prog n=some cs:=by
 unfold World.var? at h ⊢;cases hg:Program.globalNamed Tryz.prog n with
  |none=>simp[hg]at h
  |some g=>
   simp only[hg,Option.bind_some]at h ⊢;have hlt:g<w.heap.size:=by
    rcases Nat.lt_or_ge g w.heap.size with h'|h';·exact h'
    ·simp[Cr h']at h
   rw[hk.block g hlt hlt];exact h
theorem YV: "*" ++ "errors.errorString" = "*errors.errorString" :=by decide
theorem YW(u:TypeId)(h:Program.typeName? Tryz.prog 3 u=some "*errors.errorString"):u=246:=typeName_ptr_named (nm:= "errors.errorString") (by rw[YV];kernel_rfl) (by kernel_rfl) (by decide) u (by rw[YV];exact h)
theorem YX:Program.cellsOf Tryz.prog 248=1:=by kernel_rfl
theorem QV:Program.cellsOf Tryz.prog 9=1:=by kernel_rfl
theorem ahE:Program.cellsOf Tryz.prog 200=1:=by kernel_rfl
theorem ahF:Program.cellsOf Tryz.prog 214=20:=by kernel_rfl
theorem ahG{r:List (String×DataW Unit)}{W:World}(h:laidMet Tryz.prog (("internal/strconv.uint64pow10",Lib.tabData .u64 Lib.pow10Tab)::r) W):Lib.TabIs Tryz.prog W "internal/strconv.uint64pow10" .u64 Lib.pow10Tab:=Lib.tabIs_of_head (g:=2) (by kernel_rfl) (by kernel_rfl) Tryz.underlying214 Tryz.underlying200 ahE ahF h
theorem ahH{text:List UInt8}{r:List (String×DataW Unit)}{W:World}(h:laidMet Tryz.prog (("strconv.ErrRange",.iface "*errors.errorString" (.ptr (.agg [.lit (.string text)])))::r) W):∃tp p,W.var? Tryz.prog "strconv.ErrRange" =some #[.iface tp p]:=by obtain⟨a,s,hv, -, -, -⟩:=laid_sentinel (g:=4) h (by kernel_rfl) (by kernel_rfl) Tryz.underlying150 YW Tryz.underlying246 Tryz.underlying248 rfl rfl Tryz.underlying9 YX QV;exact⟨_,_,hv⟩
theorem ahI{text:List UInt8}{r:List (String×DataW Unit)}{W:World}(h:laidMet Tryz.prog (("strconv.ErrSyntax",.iface "*errors.errorString" (.ptr (.agg [.lit (.string text)])))::r) W):∃tp p,W.var? Tryz.prog "strconv.ErrSyntax" =some #[.iface tp p]:=by obtain⟨a,s,hv, -, -, -⟩:=laid_sentinel (g:=3) h (by kernel_rfl) (by kernel_rfl) Tryz.underlying150 YW Tryz.underlying246 Tryz.underlying248 rfl rfl Tryz.underlying9 YX QV;exact⟨_,_,hv⟩
theorem ahJ{W:World}(h1:Lib.TabIs Tryz.prog W "internal/strconv.uint64pow10" .u64 Lib.pow10Tab)(h2:∃tp p,W.var? Tryz.prog "strconv.ErrSyntax" =some #[.iface tp p])(h3:∃tp p,W.var? Tryz.prog "strconv.ErrRange" =some #[.iface tp p]):mO W.heap.size W:=by intro w' hk;obtain⟨t2,p2,e2⟩:=h2;obtain⟨t3,p3,e3⟩:=h3;exact⟨QU h1 hk,⟨_,_,QU e2 hk⟩,⟨_,_,QU e3 hk⟩⟩
