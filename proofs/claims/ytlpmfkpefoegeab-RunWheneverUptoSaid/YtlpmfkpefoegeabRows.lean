/-
  NARROWER THAN 'FOR EVERY INPUT', by the rows' own cells (each row's printed sentence says how): CodeTerms: loops · SolveEnds: loops · SolveMore: loops · SolveGrows: loops · RunWhenever: loops.
  DERIVED. THE GIVEN ROWS OF THIS SEAT. 6 by the template 'for every input the law returns true; each argument reads behind the call as it read before'; 0 by the template 'total and deterministic' (their statements: YtlpmfkpefoegeabTotals.lean).
  GIVEN WITH THE SEED: the statements are not yours to turn. If you find one false, say at which input.
  Laid BY PROGRAM, IN A SANDBOX (cutbox-rows.mjs): the forced cells as the released guide's own fill.sh prints them over the translation 312263f518a2ff02… (all of the seat's roots in one cut). By AI agents, Wed Nov 11 2026. No macro, syntax, notation, axiom, sorry.
-/
import Derived.Test.YtlpmfkpefoegeabChecked
import GoSem.Claim
import GoSem.ClaimJoined
import GoSem.ClaimMapViews
import Derived.JoinedTies
import Derived.KernelRfl
namespace Go.Proofs.Ytlpmfkpefoegeab
/- THE CELL 'sum', in the pinned program and in every row, IS THE sha256 OF THE DUMP (.gsa) THAT YtlpmfkpefoegeabProg.lean LOADS. Nothing in Lean hashes anything: it is a label: what it is worth is what the hold of that sum in a sandbox is worth. -/
noncomputable def Try.pinned : Pinned := { name := "ytlpmfkpefoegeab", sum := "312263f518a2ff02edb1e465582c049aa13ffa0151e84b009213718fd798a20a", checked := Try.checked }
namespace Rows
def none {H : Type} : Left H := { results := [], args := [] }

/-- 'queristkeep.CodeTerms': WHATEVER THE INPUT: true; the input reads as it did. -/
def codeTermsSpec : ChangeSpec := { name := "codeTerms", fn := fun _ => fun
  | [d1, d2] => { results := [.lit (.bool true)], args := [d1, d2] }
  | _ => none }
def codeTermsRow : OpenClaim := { program := "ytlpmfkpefoegeab", sum := "312263f518a2ff02edb1e465582c049aa13ffa0151e84b009213718fd798a20a", func := "querist/queristkeep.CodeTerms", spec := "codeTerms", unfollowed := true, recurses := true, loops := true, apart := false }
def CodeTermsSaid : Prop := codeTermsRow.holds Try.pinned (OpenSpec.ofChange codeTermsSpec)

/-- ITS FALSE NEIGHBOUR: 'it returns false'. Refute it at one input. -/
def codeTermsWrong : ChangeSpec := { name := "codeTerms", fn := fun _ => fun
  | [d1, d2] => { results := [.lit (.bool false)], args := [d1, d2] }
  | _ => none }
def CodeTermsWrongFalsely : Prop := codeTermsRow.holds Try.pinned (OpenSpec.ofChange codeTermsWrong)

/-- 'queristkeep.HeapKeeps': WHATEVER THE INPUT: true; the input reads as it did. -/
def heapKeepsSpec : ChangeSpec := { name := "heapKeeps", fn := fun _ => fun
  | [d1, d2, d3] => { results := [.lit (.bool true)], args := [d1, d2, d3] }
  | _ => none }
def heapKeepsRow : OpenClaim := { program := "ytlpmfkpefoegeab", sum := "312263f518a2ff02edb1e465582c049aa13ffa0151e84b009213718fd798a20a", func := "querist/queristkeep.HeapKeeps", spec := "heapKeeps", unfollowed := true, recurses := true, apart := false }
def HeapKeepsSaid : Prop := heapKeepsRow.holds Try.pinned (OpenSpec.ofChange heapKeepsSpec)

/-- ITS FALSE NEIGHBOUR: 'it returns false'. Refute it at one input. -/
def heapKeepsWrong : ChangeSpec := { name := "heapKeeps", fn := fun _ => fun
  | [d1, d2, d3] => { results := [.lit (.bool false)], args := [d1, d2, d3] }
  | _ => none }
def HeapKeepsWrongFalsely : Prop := heapKeepsRow.holds Try.pinned (OpenSpec.ofChange heapKeepsWrong)

/-- 'queristkeep.SolveEnds': WHATEVER THE INPUT: true; the input reads as it did. -/
def solveEndsSpec : ChangeSpec := { name := "solveEnds", fn := fun _ => fun
  | [d1, d2, d3, d4] => { results := [.lit (.bool true)], args := [d1, d2, d3, d4] }
  | _ => none }
def solveEndsRow : OpenClaim := { program := "ytlpmfkpefoegeab", sum := "312263f518a2ff02edb1e465582c049aa13ffa0151e84b009213718fd798a20a", func := "querist/queristkeep.SolveEnds", spec := "solveEnds", unfollowed := true, recurses := true, loops := true, apart := false }
def SolveEndsSaid : Prop := solveEndsRow.holds Try.pinned (OpenSpec.ofChange solveEndsSpec)

/-- ITS FALSE NEIGHBOUR: 'it returns false'. Refute it at one input. -/
def solveEndsWrong : ChangeSpec := { name := "solveEnds", fn := fun _ => fun
  | [d1, d2, d3, d4] => { results := [.lit (.bool false)], args := [d1, d2, d3, d4] }
  | _ => none }
def SolveEndsWrongFalsely : Prop := solveEndsRow.holds Try.pinned (OpenSpec.ofChange solveEndsWrong)

/-- 'queristkeep.SolveMore': WHATEVER THE INPUT: true; the input reads as it did. -/
def solveMoreSpec : ChangeSpec := { name := "solveMore", fn := fun _ => fun
  | [d1, d2, d3, d4, d5] => { results := [.lit (.bool true)], args := [d1, d2, d3, d4, d5] }
  | _ => none }
def solveMoreRow : OpenClaim := { program := "ytlpmfkpefoegeab", sum := "312263f518a2ff02edb1e465582c049aa13ffa0151e84b009213718fd798a20a", func := "querist/queristkeep.SolveMore", spec := "solveMore", unfollowed := true, recurses := true, loops := true, apart := false }
def SolveMoreSaid : Prop := solveMoreRow.holds Try.pinned (OpenSpec.ofChange solveMoreSpec)

/-- ITS FALSE NEIGHBOUR: 'it returns false'. Refute it at one input. -/
def solveMoreWrong : ChangeSpec := { name := "solveMore", fn := fun _ => fun
  | [d1, d2, d3, d4, d5] => { results := [.lit (.bool false)], args := [d1, d2, d3, d4, d5] }
  | _ => none }
def SolveMoreWrongFalsely : Prop := solveMoreRow.holds Try.pinned (OpenSpec.ofChange solveMoreWrong)

/-- 'queristkeep.SolveGrows': WHATEVER THE INPUT: true; the input reads as it did. -/
def solveGrowsSpec : ChangeSpec := { name := "solveGrows", fn := fun _ => fun
  | [d1, d2, d3, d4, d5] => { results := [.lit (.bool true)], args := [d1, d2, d3, d4, d5] }
  | _ => none }
def solveGrowsRow : OpenClaim := { program := "ytlpmfkpefoegeab", sum := "312263f518a2ff02edb1e465582c049aa13ffa0151e84b009213718fd798a20a", func := "querist/queristkeep.SolveGrows", spec := "solveGrows", unfollowed := true, recurses := true, loops := true, apart := false }
def SolveGrowsSaid : Prop := solveGrowsRow.holds Try.pinned (OpenSpec.ofChange solveGrowsSpec)

/-- ITS FALSE NEIGHBOUR: 'it returns false'. Refute it at one input. -/
def solveGrowsWrong : ChangeSpec := { name := "solveGrows", fn := fun _ => fun
  | [d1, d2, d3, d4, d5] => { results := [.lit (.bool false)], args := [d1, d2, d3, d4, d5] }
  | _ => none }
def SolveGrowsWrongFalsely : Prop := solveGrowsRow.holds Try.pinned (OpenSpec.ofChange solveGrowsWrong)

/-- 'queristkeep.RunWhenever': WHATEVER THE INPUT: true; the input reads as it did. -/
def runWheneverSpec : ChangeSpec := { name := "runWhenever", fn := fun _ => fun
  | [d1, d2, d3, d4, d5, d6] => { results := [.lit (.bool true)], args := [d1, d2, d3, d4, d5, d6] }
  | _ => none }
def runWheneverRow : OpenClaim := { program := "ytlpmfkpefoegeab", sum := "312263f518a2ff02edb1e465582c049aa13ffa0151e84b009213718fd798a20a", func := "querist/queristkeep.RunWhenever", spec := "runWhenever", unfollowed := true, recurses := true, loops := true, apart := false }
def RunWheneverSaid : Prop := runWheneverRow.holds Try.pinned (OpenSpec.ofChange runWheneverSpec)

/-- ITS FALSE NEIGHBOUR: 'it returns false'. Refute it at one input. -/
def runWheneverWrong : ChangeSpec := { name := "runWhenever", fn := fun _ => fun
  | [d1, d2, d3, d4, d5, d6] => { results := [.lit (.bool false)], args := [d1, d2, d3, d4, d5, d6] }
  | _ => none }
def RunWheneverWrongFalsely : Prop := runWheneverRow.holds Try.pinned (OpenSpec.ofChange runWheneverWrong)

/- THE SECOND FORM. 'bulk': how many values and letters a reading holds, each counted each time it is reached (what is shared counts as often as it is met; a slice's spare places count too). A statement '..UptoSaid' is the law's where the arguments, and the package variables that the reading takes, are together of bulk at most 1048576: NARROWER than '..Said'. Prove '..Said' where nothing that the law and all that it calls make is longer than what came in: it says more and counts as full. Else prove '..UptoSaid'. A law counts once. -/
mutual
def uptoBulk {H : Type} : DataW H → Nat
  | .lit (.string bytes) => bytes.length + 1
  | .lit _ => 1
  | .nil => 1
  | .ptr d => uptoBulk d + 1
  | .slice elems spare => uptoBulkAll elems + uptoBulkAll spare + 1
  | .agg parts => uptoBulkAll parts + 1
  | .iface _ d => uptoBulk d + 1
  | .map entries => uptoBulkEntries entries + 1
  | .held _ => 1
def uptoBulkAll {H : Type} : List (DataW H) → Nat
  | [] => 0
  | d :: r => uptoBulk d + uptoBulkAll r
def uptoBulkEntries {H : Type} : List (Lit × DataW H) → Nat
  | [] => 0
  | x :: r => uptoBulkEntry x + uptoBulkEntries r
def uptoBulkEntry {H : Type} : Lit × DataW H → Nat
  | (.string bytes, d) => bytes.length + uptoBulk d + 1
  | (_, d) => uptoBulk d + 1
 end
def uptoSmall : (H : Type) → List (DataW H) → Bool := fun _ ds => decide (uptoBulkAll ds ≤ 1048576)
def OpenSpec.upto (s : _root_.Go.ChangeSpec) : _root_.Go.OpenSpec := { _root_.Go.OpenSpec.ofChange s with cond := some uptoSmall }

/-- 'queristkeep.CodeTerms', WHERE WHAT IT READS IS OF BULK AT MOST 1048576: true; the input reads as it did. -/
def codeTermsUptoRow : OpenClaim := { program := "ytlpmfkpefoegeab", sum := "312263f518a2ff02edb1e465582c049aa13ffa0151e84b009213718fd798a20a", func := "querist/queristkeep.CodeTerms", spec := "codeTerms", unfollowed := true, recurses := true, loops := true, apart := false, narrowed := true }
def CodeTermsUptoSaid : Prop := codeTermsUptoRow.holds Try.pinned (OpenSpec.upto codeTermsSpec)

/-- 'queristkeep.HeapKeeps', WHERE WHAT IT READS IS OF BULK AT MOST 1048576: true; the input reads as it did. -/
def heapKeepsUptoRow : OpenClaim := { program := "ytlpmfkpefoegeab", sum := "312263f518a2ff02edb1e465582c049aa13ffa0151e84b009213718fd798a20a", func := "querist/queristkeep.HeapKeeps", spec := "heapKeeps", unfollowed := true, recurses := true, apart := false, narrowed := true }
def HeapKeepsUptoSaid : Prop := heapKeepsUptoRow.holds Try.pinned (OpenSpec.upto heapKeepsSpec)

/-- 'queristkeep.SolveEnds', WHERE WHAT IT READS IS OF BULK AT MOST 1048576: true; the input reads as it did. -/
def solveEndsUptoRow : OpenClaim := { program := "ytlpmfkpefoegeab", sum := "312263f518a2ff02edb1e465582c049aa13ffa0151e84b009213718fd798a20a", func := "querist/queristkeep.SolveEnds", spec := "solveEnds", unfollowed := true, recurses := true, loops := true, apart := false, narrowed := true }
def SolveEndsUptoSaid : Prop := solveEndsUptoRow.holds Try.pinned (OpenSpec.upto solveEndsSpec)

/-- 'queristkeep.SolveMore', WHERE WHAT IT READS IS OF BULK AT MOST 1048576: true; the input reads as it did. -/
def solveMoreUptoRow : OpenClaim := { program := "ytlpmfkpefoegeab", sum := "312263f518a2ff02edb1e465582c049aa13ffa0151e84b009213718fd798a20a", func := "querist/queristkeep.SolveMore", spec := "solveMore", unfollowed := true, recurses := true, loops := true, apart := false, narrowed := true }
def SolveMoreUptoSaid : Prop := solveMoreUptoRow.holds Try.pinned (OpenSpec.upto solveMoreSpec)

/-- 'queristkeep.SolveGrows', WHERE WHAT IT READS IS OF BULK AT MOST 1048576: true; the input reads as it did. -/
def solveGrowsUptoRow : OpenClaim := { program := "ytlpmfkpefoegeab", sum := "312263f518a2ff02edb1e465582c049aa13ffa0151e84b009213718fd798a20a", func := "querist/queristkeep.SolveGrows", spec := "solveGrows", unfollowed := true, recurses := true, loops := true, apart := false, narrowed := true }
def SolveGrowsUptoSaid : Prop := solveGrowsUptoRow.holds Try.pinned (OpenSpec.upto solveGrowsSpec)

/-- 'queristkeep.RunWhenever', WHERE WHAT IT READS IS OF BULK AT MOST 1048576: true; the input reads as it did. -/
def runWheneverUptoRow : OpenClaim := { program := "ytlpmfkpefoegeab", sum := "312263f518a2ff02edb1e465582c049aa13ffa0151e84b009213718fd798a20a", func := "querist/queristkeep.RunWhenever", spec := "runWhenever", unfollowed := true, recurses := true, loops := true, apart := false, narrowed := true }
def RunWheneverUptoSaid : Prop := runWheneverUptoRow.holds Try.pinned (OpenSpec.upto runWheneverSpec)

end Rows
end Go.Proofs.Ytlpmfkpefoegeab
