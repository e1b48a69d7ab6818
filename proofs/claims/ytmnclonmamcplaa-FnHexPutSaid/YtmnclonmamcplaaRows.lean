/-
  No cell of these rows narrows 'for every input' (looked for: loops, veiled, ifaces, maps, wideKeys, modest, calm, conditions, laid).
  DERIVED. THE GIVEN ROWS OF THIS SEAT. 5 by the template 'for every input the law returns true; each argument reads behind the call as it read before'; 0 by the template 'total and deterministic' (their statements: YtmnclonmamcplaaTotals.lean).
  GIVEN WITH THE SEED: the statements are not yours to turn. If you find one false, say at which input.
  Laid BY PROGRAM, IN A SANDBOX (cutbox-rows.mjs): the forced cells as the released guide's own fill.sh prints them over the translation 67acce3e69bb2b1c… (all of the seat's roots in one cut). By AI agents, Wed Nov 11 2026. No macro, syntax, notation, axiom, sorry.
-/
import Derived.Test.YtmnclonmamcplaaChecked
import GoSem.Claim
import GoSem.ClaimJoined
import GoSem.ClaimMapViews
import Derived.JoinedTies
import Derived.KernelRfl
namespace Go.Proofs.Ytmnclonmamcplaa
/- THE CELL 'sum', in the pinned program and in every row, IS THE sha256 OF THE DUMP (.gsa) THAT YtmnclonmamcplaaProg.lean LOADS. Nothing in Lean hashes anything: it is a label: what it is worth is what the hold of that sum in a sandbox is worth. -/
noncomputable def Try.pinned : Pinned := { name := "ytmnclonmamcplaa", sum := "67acce3e69bb2b1cf87252db8af590a18cfe035426638dc32f8d894e8bf36252", checked := Try.checked }
namespace Rows
def none {H : Type} : Left H := { results := [], args := [] }

/-- 'laws.FnHexGetOdd': WHATEVER THE INPUT: true; the input reads as it did. -/
def fnHexGetOddSpec : ChangeSpec := { name := "fnHexGetOdd", fn := fun _ => fun
  | [d] => { results := [.lit (.bool true)], args := [d] }
  | _ => none }
def fnHexGetOddRow : OpenClaim := { program := "ytmnclonmamcplaa", sum := "67acce3e69bb2b1cf87252db8af590a18cfe035426638dc32f8d894e8bf36252", func := "loop.example/capturemonitor/laws.FnHexGetOdd", spec := "fnHexGetOdd", apart := false }
def FnHexGetOddSaid : Prop := fnHexGetOddRow.holds Try.pinned (OpenSpec.ofChange fnHexGetOddSpec)

/-- ITS FALSE NEIGHBOUR: 'it returns false'. Refute it at one input. -/
def fnHexGetOddWrong : ChangeSpec := { name := "fnHexGetOdd", fn := fun _ => fun
  | [d] => { results := [.lit (.bool false)], args := [d] }
  | _ => none }
def FnHexGetOddWrongFalsely : Prop := fnHexGetOddRow.holds Try.pinned (OpenSpec.ofChange fnHexGetOddWrong)

/-- 'laws.FnHexGet': WHATEVER THE INPUT: true; the input reads as it did. -/
def fnHexGetSpec : ChangeSpec := { name := "fnHexGet", fn := fun _ => fun
  | [d] => { results := [.lit (.bool true)], args := [d] }
  | _ => none }
def fnHexGetRow : OpenClaim := { program := "ytmnclonmamcplaa", sum := "67acce3e69bb2b1cf87252db8af590a18cfe035426638dc32f8d894e8bf36252", func := "loop.example/capturemonitor/laws.FnHexGet", spec := "fnHexGet", apart := false }
def FnHexGetSaid : Prop := fnHexGetRow.holds Try.pinned (OpenSpec.ofChange fnHexGetSpec)

/-- ITS FALSE NEIGHBOUR: 'it returns false'. Refute it at one input. -/
def fnHexGetWrong : ChangeSpec := { name := "fnHexGet", fn := fun _ => fun
  | [d] => { results := [.lit (.bool false)], args := [d] }
  | _ => none }
def FnHexGetWrongFalsely : Prop := fnHexGetRow.holds Try.pinned (OpenSpec.ofChange fnHexGetWrong)

/-- 'laws.FnHexJoin': WHATEVER THE INPUT: true; the input reads as it did. -/
def fnHexJoinSpec : ChangeSpec := { name := "fnHexJoin", fn := fun _ => fun
  | [d1, d2] => { results := [.lit (.bool true)], args := [d1, d2] }
  | _ => none }
def fnHexJoinRow : OpenClaim := { program := "ytmnclonmamcplaa", sum := "67acce3e69bb2b1cf87252db8af590a18cfe035426638dc32f8d894e8bf36252", func := "loop.example/capturemonitor/laws.FnHexJoin", spec := "fnHexJoin", apart := false }
def FnHexJoinSaid : Prop := fnHexJoinRow.holds Try.pinned (OpenSpec.ofChange fnHexJoinSpec)

/-- ITS FALSE NEIGHBOUR: 'it returns false'. Refute it at one input. -/
def fnHexJoinWrong : ChangeSpec := { name := "fnHexJoin", fn := fun _ => fun
  | [d1, d2] => { results := [.lit (.bool false)], args := [d1, d2] }
  | _ => none }
def FnHexJoinWrongFalsely : Prop := fnHexJoinRow.holds Try.pinned (OpenSpec.ofChange fnHexJoinWrong)

/-- 'laws.FnHexPutLong': WHATEVER THE INPUT: true; the input reads as it did. -/
def fnHexPutLongSpec : ChangeSpec := { name := "fnHexPutLong", fn := fun _ => fun
  | [d] => { results := [.lit (.bool true)], args := [d] }
  | _ => none }
def fnHexPutLongRow : OpenClaim := { program := "ytmnclonmamcplaa", sum := "67acce3e69bb2b1cf87252db8af590a18cfe035426638dc32f8d894e8bf36252", func := "loop.example/capturemonitor/laws.FnHexPutLong", spec := "fnHexPutLong", apart := false }
def FnHexPutLongSaid : Prop := fnHexPutLongRow.holds Try.pinned (OpenSpec.ofChange fnHexPutLongSpec)

/-- ITS FALSE NEIGHBOUR: 'it returns false'. Refute it at one input. -/
def fnHexPutLongWrong : ChangeSpec := { name := "fnHexPutLong", fn := fun _ => fun
  | [d] => { results := [.lit (.bool false)], args := [d] }
  | _ => none }
def FnHexPutLongWrongFalsely : Prop := fnHexPutLongRow.holds Try.pinned (OpenSpec.ofChange fnHexPutLongWrong)

/-- 'laws.FnHexPut': WHATEVER THE INPUT: true; the input reads as it did. -/
def fnHexPutSpec : ChangeSpec := { name := "fnHexPut", fn := fun _ => fun
  | [d] => { results := [.lit (.bool true)], args := [d] }
  | _ => none }
def fnHexPutRow : OpenClaim := { program := "ytmnclonmamcplaa", sum := "67acce3e69bb2b1cf87252db8af590a18cfe035426638dc32f8d894e8bf36252", func := "loop.example/capturemonitor/laws.FnHexPut", spec := "fnHexPut", apart := false }
def FnHexPutSaid : Prop := fnHexPutRow.holds Try.pinned (OpenSpec.ofChange fnHexPutSpec)

/-- ITS FALSE NEIGHBOUR: 'it returns false'. Refute it at one input. -/
def fnHexPutWrong : ChangeSpec := { name := "fnHexPut", fn := fun _ => fun
  | [d] => { results := [.lit (.bool false)], args := [d] }
  | _ => none }
def FnHexPutWrongFalsely : Prop := fnHexPutRow.holds Try.pinned (OpenSpec.ofChange fnHexPutWrong)

/- THE SECOND FORM. 'bulk': how many values and letters a reading holds, each counted each time it is reached (what is shared counts as often as it is met; a slice's spare places count too). A statement '..UptoSaid' is the law's where the arguments, and the package variables that the reading takes, are together of bulk at most 1048576: NARROWER than '..Said'. Prove '..Said' where nothing that the law and all that it calls make is longer than what came in: it says more and counts as full. Else prove '..UptoSaid'. A law counts once. -/
mutual
def uptoBulk {H : Type} : DataW H → Nat
  | .lit (.string bytes) => bytes.length + 1
  | .lit _ => 1
  | .nil => 1
  | .ptr d => uptoBulk d + 1
  | .slice elems spare => uptoBulkAll elems + uptoBulkAll spare + 1
  | .agg parts => uptoBulkAll parts + 1
  | .iface _ d => uptoBulk d + 1
  | .map entries => uptoBulkEntries entries + 1
  | .held _ => 1
def uptoBulkAll {H : Type} : List (DataW H) → Nat
  | [] => 0
  | d :: r => uptoBulk d + uptoBulkAll r
def uptoBulkEntries {H : Type} : List (Lit × DataW H) → Nat
  | [] => 0
  | x :: r => uptoBulkEntry x + uptoBulkEntries r
def uptoBulkEntry {H : Type} : Lit × DataW H → Nat
  | (.string bytes, d) => bytes.length + uptoBulk d + 1
  | (_, d) => uptoBulk d + 1
 end
def uptoSmall : (H : Type) → List (DataW H) → Bool := fun _ ds => decide (uptoBulkAll ds ≤ 1048576)
def OpenSpec.upto (s : _root_.Go.ChangeSpec) : _root_.Go.OpenSpec := { _root_.Go.OpenSpec.ofChange s with cond := some uptoSmall }

/-- 'laws.FnHexGetOdd', WHERE WHAT IT READS IS OF BULK AT MOST 1048576: true; the input reads as it did. -/
def fnHexGetOddUptoRow : OpenClaim := { program := "ytmnclonmamcplaa", sum := "67acce3e69bb2b1cf87252db8af590a18cfe035426638dc32f8d894e8bf36252", func := "loop.example/capturemonitor/laws.FnHexGetOdd", spec := "fnHexGetOdd", apart := false, narrowed := true }
def FnHexGetOddUptoSaid : Prop := fnHexGetOddUptoRow.holds Try.pinned (OpenSpec.upto fnHexGetOddSpec)

/-- 'laws.FnHexGet', WHERE WHAT IT READS IS OF BULK AT MOST 1048576: true; the input reads as it did. -/
def fnHexGetUptoRow : OpenClaim := { program := "ytmnclonmamcplaa", sum := "67acce3e69bb2b1cf87252db8af590a18cfe035426638dc32f8d894e8bf36252", func := "loop.example/capturemonitor/laws.FnHexGet", spec := "fnHexGet", apart := false, narrowed := true }
def FnHexGetUptoSaid : Prop := fnHexGetUptoRow.holds Try.pinned (OpenSpec.upto fnHexGetSpec)

/-- 'laws.FnHexJoin', WHERE WHAT IT READS IS OF BULK AT MOST 1048576: true; the input reads as it did. -/
def fnHexJoinUptoRow : OpenClaim := { program := "ytmnclonmamcplaa", sum := "67acce3e69bb2b1cf87252db8af590a18cfe035426638dc32f8d894e8bf36252", func := "loop.example/capturemonitor/laws.FnHexJoin", spec := "fnHexJoin", apart := false, narrowed := true }
def FnHexJoinUptoSaid : Prop := fnHexJoinUptoRow.holds Try.pinned (OpenSpec.upto fnHexJoinSpec)

/-- 'laws.FnHexPutLong', WHERE WHAT IT READS IS OF BULK AT MOST 1048576: true; the input reads as it did. -/
def fnHexPutLongUptoRow : OpenClaim := { program := "ytmnclonmamcplaa", sum := "67acce3e69bb2b1cf87252db8af590a18cfe035426638dc32f8d894e8bf36252", func := "loop.example/capturemonitor/laws.FnHexPutLong", spec := "fnHexPutLong", apart := false, narrowed := true }
def FnHexPutLongUptoSaid : Prop := fnHexPutLongUptoRow.holds Try.pinned (OpenSpec.upto fnHexPutLongSpec)

/-- 'laws.FnHexPut', WHERE WHAT IT READS IS OF BULK AT MOST 1048576: true; the input reads as it did. -/
def fnHexPutUptoRow : OpenClaim := { program := "ytmnclonmamcplaa", sum := "67acce3e69bb2b1cf87252db8af590a18cfe035426638dc32f8d894e8bf36252", func := "loop.example/capturemonitor/laws.FnHexPut", spec := "fnHexPut", apart := false, narrowed := true }
def FnHexPutUptoSaid : Prop := fnHexPutUptoRow.holds Try.pinned (OpenSpec.upto fnHexPutSpec)

end Rows
end Go.Proofs.Ytmnclonmamcplaa
