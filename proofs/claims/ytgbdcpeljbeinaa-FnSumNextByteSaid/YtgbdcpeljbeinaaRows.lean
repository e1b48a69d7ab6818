/-
  No cell of these rows narrows 'for every input' (looked for: loops, veiled, ifaces, maps, wideKeys, modest, calm, conditions, laid).
  DERIVED. THE GIVEN ROWS OF THIS SEAT. 10 by the template 'for every input the law returns true; each argument reads behind the call as it read before'; 0 by the template 'total and deterministic' (their statements: YtgbdcpeljbeinaaTotals.lean).
  GIVEN WITH THE SEED: the statements are not yours to turn. If you find one false, say at which input.
  Laid BY PROGRAM, IN A SANDBOX (cutbox-rows.mjs): the forced cells as the released guide's own fill.sh prints them over the translation 4355611e6bccd8d9… (all of the seat's roots in one cut). By AI agents, Wed Nov 11 2026. No macro, syntax, notation, axiom, sorry.
-/
import Derived.Test.YtgbdcpeljbeinaaChecked
import GoSem.Claim
import GoSem.ClaimJoined
import GoSem.ClaimMapViews
import Derived.JoinedTies
import Derived.KernelRfl
namespace Go.Proofs.Ytgbdcpeljbeinaa
/- THE CELL 'sum', in the pinned program and in every row, IS THE sha256 OF THE DUMP (.gsa) THAT YtgbdcpeljbeinaaProg.lean LOADS. Nothing in Lean hashes anything: it is a label: what it is worth is what the hold of that sum in a sandbox is worth. -/
noncomputable def Try.pinned : Pinned := { name := "ytgbdcpeljbeinaa", sum := "4355611e6bccd8d9a4ebe8d841cab2066665725dc1ac6fa01d44d7cec680bd0a", checked := Try.checked }
namespace Rows
def none {H : Type} : Left H := { results := [], args := [] }

/-- 'laws.FnSumByte': WHATEVER THE INPUT: true; the input reads as it did. -/
def fnSumByteSpec : ChangeSpec := { name := "fnSumByte", fn := fun _ => fun
  | [d1, d2] => { results := [.lit (.bool true)], args := [d1, d2] }
  | _ => none }
def fnSumByteRow : OpenClaim := { program := "ytgbdcpeljbeinaa", sum := "4355611e6bccd8d9a4ebe8d841cab2066665725dc1ac6fa01d44d7cec680bd0a", func := "loop.example/capturemonitor/laws.FnSumByte", spec := "fnSumByte", apart := false }
def FnSumByteSaid : Prop := fnSumByteRow.holds Try.pinned (OpenSpec.ofChange fnSumByteSpec)

/-- ITS FALSE NEIGHBOUR: 'it returns false'. Refute it at one input. -/
def fnSumByteWrong : ChangeSpec := { name := "fnSumByte", fn := fun _ => fun
  | [d1, d2] => { results := [.lit (.bool false)], args := [d1, d2] }
  | _ => none }
def FnSumByteWrongFalsely : Prop := fnSumByteRow.holds Try.pinned (OpenSpec.ofChange fnSumByteWrong)

/-- 'laws.FnSumSwap': WHATEVER THE INPUT: true; the input reads as it did. -/
def fnSumSwapSpec : ChangeSpec := { name := "fnSumSwap", fn := fun _ => fun
  | [d1, d2] => { results := [.lit (.bool true)], args := [d1, d2] }
  | _ => none }
def fnSumSwapRow : OpenClaim := { program := "ytgbdcpeljbeinaa", sum := "4355611e6bccd8d9a4ebe8d841cab2066665725dc1ac6fa01d44d7cec680bd0a", func := "loop.example/capturemonitor/laws.FnSumSwap", spec := "fnSumSwap", apart := false }
def FnSumSwapSaid : Prop := fnSumSwapRow.holds Try.pinned (OpenSpec.ofChange fnSumSwapSpec)

/-- ITS FALSE NEIGHBOUR: 'it returns false'. Refute it at one input. -/
def fnSumSwapWrong : ChangeSpec := { name := "fnSumSwap", fn := fun _ => fun
  | [d1, d2] => { results := [.lit (.bool false)], args := [d1, d2] }
  | _ => none }
def FnSumSwapWrongFalsely : Prop := fnSumSwapRow.holds Try.pinned (OpenSpec.ofChange fnSumSwapWrong)

/-- 'laws.FnSumZero': WHATEVER THE INPUT: true; the input reads as it did. -/
def fnSumZeroSpec : ChangeSpec := { name := "fnSumZero", fn := fun _ => fun
  | [d] => { results := [.lit (.bool true)], args := [d] }
  | _ => none }
def fnSumZeroRow : OpenClaim := { program := "ytgbdcpeljbeinaa", sum := "4355611e6bccd8d9a4ebe8d841cab2066665725dc1ac6fa01d44d7cec680bd0a", func := "loop.example/capturemonitor/laws.FnSumZero", spec := "fnSumZero", apart := false }
def FnSumZeroSaid : Prop := fnSumZeroRow.holds Try.pinned (OpenSpec.ofChange fnSumZeroSpec)

/-- ITS FALSE NEIGHBOUR: 'it returns false'. Refute it at one input. -/
def fnSumZeroWrong : ChangeSpec := { name := "fnSumZero", fn := fun _ => fun
  | [d] => { results := [.lit (.bool false)], args := [d] }
  | _ => none }
def FnSumZeroWrongFalsely : Prop := fnSumZeroRow.holds Try.pinned (OpenSpec.ofChange fnSumZeroWrong)

/-- 'laws.FnSumText': WHATEVER THE INPUT: true; the input reads as it did. -/
def fnSumTextSpec : ChangeSpec := { name := "fnSumText", fn := fun _ => fun
  | [d] => { results := [.lit (.bool true)], args := [d] }
  | _ => none }
def fnSumTextRow : OpenClaim := { program := "ytgbdcpeljbeinaa", sum := "4355611e6bccd8d9a4ebe8d841cab2066665725dc1ac6fa01d44d7cec680bd0a", func := "loop.example/capturemonitor/laws.FnSumText", spec := "fnSumText", apart := false }
def FnSumTextSaid : Prop := fnSumTextRow.holds Try.pinned (OpenSpec.ofChange fnSumTextSpec)

/-- ITS FALSE NEIGHBOUR: 'it returns false'. Refute it at one input. -/
def fnSumTextWrong : ChangeSpec := { name := "fnSumText", fn := fun _ => fun
  | [d] => { results := [.lit (.bool false)], args := [d] }
  | _ => none }
def FnSumTextWrongFalsely : Prop := fnSumTextRow.holds Try.pinned (OpenSpec.ofChange fnSumTextWrong)

/-- 'laws.FnSumEmpty': WHATEVER THE INPUT: true; the input reads as it did. -/
def fnSumEmptySpec : ChangeSpec := { name := "fnSumEmpty", fn := fun _ => fun
  | [d] => { results := [.lit (.bool true)], args := [d] }
  | _ => none }
def fnSumEmptyRow : OpenClaim := { program := "ytgbdcpeljbeinaa", sum := "4355611e6bccd8d9a4ebe8d841cab2066665725dc1ac6fa01d44d7cec680bd0a", func := "loop.example/capturemonitor/laws.FnSumEmpty", spec := "fnSumEmpty", apart := false }
def FnSumEmptySaid : Prop := fnSumEmptyRow.holds Try.pinned (OpenSpec.ofChange fnSumEmptySpec)

/-- ITS FALSE NEIGHBOUR: 'it returns false'. Refute it at one input. -/
def fnSumEmptyWrong : ChangeSpec := { name := "fnSumEmpty", fn := fun _ => fun
  | [d] => { results := [.lit (.bool false)], args := [d] }
  | _ => none }
def FnSumEmptyWrongFalsely : Prop := fnSumEmptyRow.holds Try.pinned (OpenSpec.ofChange fnSumEmptyWrong)

/-- 'laws.FnSumJoin': WHATEVER THE INPUT: true; the input reads as it did. -/
def fnSumJoinSpec : ChangeSpec := { name := "fnSumJoin", fn := fun _ => fun
  | [d1, d2] => { results := [.lit (.bool true)], args := [d1, d2] }
  | _ => none }
def fnSumJoinRow : OpenClaim := { program := "ytgbdcpeljbeinaa", sum := "4355611e6bccd8d9a4ebe8d841cab2066665725dc1ac6fa01d44d7cec680bd0a", func := "loop.example/capturemonitor/laws.FnSumJoin", spec := "fnSumJoin", apart := false }
def FnSumJoinSaid : Prop := fnSumJoinRow.holds Try.pinned (OpenSpec.ofChange fnSumJoinSpec)

/-- ITS FALSE NEIGHBOUR: 'it returns false'. Refute it at one input. -/
def fnSumJoinWrong : ChangeSpec := { name := "fnSumJoin", fn := fun _ => fun
  | [d1, d2] => { results := [.lit (.bool false)], args := [d1, d2] }
  | _ => none }
def FnSumJoinWrongFalsely : Prop := fnSumJoinRow.holds Try.pinned (OpenSpec.ofChange fnSumJoinWrong)

/-- 'laws.FnSumValid': WHATEVER THE INPUT: true; the input reads as it did. -/
def fnSumValidSpec : ChangeSpec := { name := "fnSumValid", fn := fun _ => fun
  | [d] => { results := [.lit (.bool true)], args := [d] }
  | _ => none }
def fnSumValidRow : OpenClaim := { program := "ytgbdcpeljbeinaa", sum := "4355611e6bccd8d9a4ebe8d841cab2066665725dc1ac6fa01d44d7cec680bd0a", func := "loop.example/capturemonitor/laws.FnSumValid", spec := "fnSumValid", apart := false }
def FnSumValidSaid : Prop := fnSumValidRow.holds Try.pinned (OpenSpec.ofChange fnSumValidSpec)

/-- ITS FALSE NEIGHBOUR: 'it returns false'. Refute it at one input. -/
def fnSumValidWrong : ChangeSpec := { name := "fnSumValid", fn := fun _ => fun
  | [d] => { results := [.lit (.bool false)], args := [d] }
  | _ => none }
def FnSumValidWrongFalsely : Prop := fnSumValidRow.holds Try.pinned (OpenSpec.ofChange fnSumValidWrong)

/-- 'laws.FnSumNext': WHATEVER THE INPUT: true; the input reads as it did. -/
def fnSumNextSpec : ChangeSpec := { name := "fnSumNext", fn := fun _ => fun
  | [d] => { results := [.lit (.bool true)], args := [d] }
  | _ => none }
def fnSumNextRow : OpenClaim := { program := "ytgbdcpeljbeinaa", sum := "4355611e6bccd8d9a4ebe8d841cab2066665725dc1ac6fa01d44d7cec680bd0a", func := "loop.example/capturemonitor/laws.FnSumNext", spec := "fnSumNext", apart := false }
def FnSumNextSaid : Prop := fnSumNextRow.holds Try.pinned (OpenSpec.ofChange fnSumNextSpec)

/-- ITS FALSE NEIGHBOUR: 'it returns false'. Refute it at one input. -/
def fnSumNextWrong : ChangeSpec := { name := "fnSumNext", fn := fun _ => fun
  | [d] => { results := [.lit (.bool false)], args := [d] }
  | _ => none }
def FnSumNextWrongFalsely : Prop := fnSumNextRow.holds Try.pinned (OpenSpec.ofChange fnSumNextWrong)

/-- 'laws.FnSumNextJoin': WHATEVER THE INPUT: true; the input reads as it did. -/
def fnSumNextJoinSpec : ChangeSpec := { name := "fnSumNextJoin", fn := fun _ => fun
  | [d1, d2] => { results := [.lit (.bool true)], args := [d1, d2] }
  | _ => none }
def fnSumNextJoinRow : OpenClaim := { program := "ytgbdcpeljbeinaa", sum := "4355611e6bccd8d9a4ebe8d841cab2066665725dc1ac6fa01d44d7cec680bd0a", func := "loop.example/capturemonitor/laws.FnSumNextJoin", spec := "fnSumNextJoin", apart := false }
def FnSumNextJoinSaid : Prop := fnSumNextJoinRow.holds Try.pinned (OpenSpec.ofChange fnSumNextJoinSpec)

/-- ITS FALSE NEIGHBOUR: 'it returns false'. Refute it at one input. -/
def fnSumNextJoinWrong : ChangeSpec := { name := "fnSumNextJoin", fn := fun _ => fun
  | [d1, d2] => { results := [.lit (.bool false)], args := [d1, d2] }
  | _ => none }
def FnSumNextJoinWrongFalsely : Prop := fnSumNextJoinRow.holds Try.pinned (OpenSpec.ofChange fnSumNextJoinWrong)

/-- 'laws.FnSumNextByte': WHATEVER THE INPUT: true; the input reads as it did. -/
def fnSumNextByteSpec : ChangeSpec := { name := "fnSumNextByte", fn := fun _ => fun
  | [d] => { results := [.lit (.bool true)], args := [d] }
  | _ => none }
def fnSumNextByteRow : OpenClaim := { program := "ytgbdcpeljbeinaa", sum := "4355611e6bccd8d9a4ebe8d841cab2066665725dc1ac6fa01d44d7cec680bd0a", func := "loop.example/capturemonitor/laws.FnSumNextByte", spec := "fnSumNextByte", apart := false }
def FnSumNextByteSaid : Prop := fnSumNextByteRow.holds Try.pinned (OpenSpec.ofChange fnSumNextByteSpec)

/-- ITS FALSE NEIGHBOUR: 'it returns false'. Refute it at one input. -/
def fnSumNextByteWrong : ChangeSpec := { name := "fnSumNextByte", fn := fun _ => fun
  | [d] => { results := [.lit (.bool false)], args := [d] }
  | _ => none }
def FnSumNextByteWrongFalsely : Prop := fnSumNextByteRow.holds Try.pinned (OpenSpec.ofChange fnSumNextByteWrong)

/- THE SECOND FORM. 'bulk': how many values and letters a reading holds, each counted each time it is reached (what is shared counts as often as it is met; a slice's spare places count too). A statement '..UptoSaid' is the law's where the arguments, and the package variables that the reading takes, are together of bulk at most 1048576: NARROWER than '..Said'. Prove '..Said' where nothing that the law and all that it calls make is longer than what came in: it says more and counts as full. Else prove '..UptoSaid'. A law counts once. -/
mutual
def uptoBulk {H : Type} : DataW H → Nat
  | .lit (.string bytes) => bytes.length + 1
  | .lit _ => 1
  | .nil => 1
  | .ptr d => uptoBulk d + 1
  | .slice elems spare => uptoBulkAll elems + uptoBulkAll spare + 1
  | .agg parts => uptoBulkAll parts + 1
  | .iface _ d => uptoBulk d + 1
  | .map entries => uptoBulkEntries entries + 1
  | .held _ => 1
def uptoBulkAll {H : Type} : List (DataW H) → Nat
  | [] => 0
  | d :: r => uptoBulk d + uptoBulkAll r
def uptoBulkEntries {H : Type} : List (Lit × DataW H) → Nat
  | [] => 0
  | x :: r => uptoBulkEntry x + uptoBulkEntries r
def uptoBulkEntry {H : Type} : Lit × DataW H → Nat
  | (.string bytes, d) => bytes.length + uptoBulk d + 1
  | (_, d) => uptoBulk d + 1
 end
def uptoSmall : (H : Type) → List (DataW H) → Bool := fun _ ds => decide (uptoBulkAll ds ≤ 1048576)
def OpenSpec.upto (s : _root_.Go.ChangeSpec) : _root_.Go.OpenSpec := { _root_.Go.OpenSpec.ofChange s with cond := some uptoSmall }

/-- 'laws.FnSumByte', WHERE WHAT IT READS IS OF BULK AT MOST 1048576: true; the input reads as it did. -/
def fnSumByteUptoRow : OpenClaim := { program := "ytgbdcpeljbeinaa", sum := "4355611e6bccd8d9a4ebe8d841cab2066665725dc1ac6fa01d44d7cec680bd0a", func := "loop.example/capturemonitor/laws.FnSumByte", spec := "fnSumByte", apart := false, narrowed := true }
def FnSumByteUptoSaid : Prop := fnSumByteUptoRow.holds Try.pinned (OpenSpec.upto fnSumByteSpec)

/-- 'laws.FnSumSwap', WHERE WHAT IT READS IS OF BULK AT MOST 1048576: true; the input reads as it did. -/
def fnSumSwapUptoRow : OpenClaim := { program := "ytgbdcpeljbeinaa", sum := "4355611e6bccd8d9a4ebe8d841cab2066665725dc1ac6fa01d44d7cec680bd0a", func := "loop.example/capturemonitor/laws.FnSumSwap", spec := "fnSumSwap", apart := false, narrowed := true }
def FnSumSwapUptoSaid : Prop := fnSumSwapUptoRow.holds Try.pinned (OpenSpec.upto fnSumSwapSpec)

/-- 'laws.FnSumZero', WHERE WHAT IT READS IS OF BULK AT MOST 1048576: true; the input reads as it did. -/
def fnSumZeroUptoRow : OpenClaim := { program := "ytgbdcpeljbeinaa", sum := "4355611e6bccd8d9a4ebe8d841cab2066665725dc1ac6fa01d44d7cec680bd0a", func := "loop.example/capturemonitor/laws.FnSumZero", spec := "fnSumZero", apart := false, narrowed := true }
def FnSumZeroUptoSaid : Prop := fnSumZeroUptoRow.holds Try.pinned (OpenSpec.upto fnSumZeroSpec)

/-- 'laws.FnSumText', WHERE WHAT IT READS IS OF BULK AT MOST 1048576: true; the input reads as it did. -/
def fnSumTextUptoRow : OpenClaim := { program := "ytgbdcpeljbeinaa", sum := "4355611e6bccd8d9a4ebe8d841cab2066665725dc1ac6fa01d44d7cec680bd0a", func := "loop.example/capturemonitor/laws.FnSumText", spec := "fnSumText", apart := false, narrowed := true }
def FnSumTextUptoSaid : Prop := fnSumTextUptoRow.holds Try.pinned (OpenSpec.upto fnSumTextSpec)

/-- 'laws.FnSumEmpty', WHERE WHAT IT READS IS OF BULK AT MOST 1048576: true; the input reads as it did. -/
def fnSumEmptyUptoRow : OpenClaim := { program := "ytgbdcpeljbeinaa", sum := "4355611e6bccd8d9a4ebe8d841cab2066665725dc1ac6fa01d44d7cec680bd0a", func := "loop.example/capturemonitor/laws.FnSumEmpty", spec := "fnSumEmpty", apart := false, narrowed := true }
def FnSumEmptyUptoSaid : Prop := fnSumEmptyUptoRow.holds Try.pinned (OpenSpec.upto fnSumEmptySpec)

/-- 'laws.FnSumJoin', WHERE WHAT IT READS IS OF BULK AT MOST 1048576: true; the input reads as it did. -/
def fnSumJoinUptoRow : OpenClaim := { program := "ytgbdcpeljbeinaa", sum := "4355611e6bccd8d9a4ebe8d841cab2066665725dc1ac6fa01d44d7cec680bd0a", func := "loop.example/capturemonitor/laws.FnSumJoin", spec := "fnSumJoin", apart := false, narrowed := true }
def FnSumJoinUptoSaid : Prop := fnSumJoinUptoRow.holds Try.pinned (OpenSpec.upto fnSumJoinSpec)

/-- 'laws.FnSumValid', WHERE WHAT IT READS IS OF BULK AT MOST 1048576: true; the input reads as it did. -/
def fnSumValidUptoRow : OpenClaim := { program := "ytgbdcpeljbeinaa", sum := "4355611e6bccd8d9a4ebe8d841cab2066665725dc1ac6fa01d44d7cec680bd0a", func := "loop.example/capturemonitor/laws.FnSumValid", spec := "fnSumValid", apart := false, narrowed := true }
def FnSumValidUptoSaid : Prop := fnSumValidUptoRow.holds Try.pinned (OpenSpec.upto fnSumValidSpec)

/-- 'laws.FnSumNext', WHERE WHAT IT READS IS OF BULK AT MOST 1048576: true; the input reads as it did. -/
def fnSumNextUptoRow : OpenClaim := { program := "ytgbdcpeljbeinaa", sum := "4355611e6bccd8d9a4ebe8d841cab2066665725dc1ac6fa01d44d7cec680bd0a", func := "loop.example/capturemonitor/laws.FnSumNext", spec := "fnSumNext", apart := false, narrowed := true }
def FnSumNextUptoSaid : Prop := fnSumNextUptoRow.holds Try.pinned (OpenSpec.upto fnSumNextSpec)

/-- 'laws.FnSumNextJoin', WHERE WHAT IT READS IS OF BULK AT MOST 1048576: true; the input reads as it did. -/
def fnSumNextJoinUptoRow : OpenClaim := { program := "ytgbdcpeljbeinaa", sum := "4355611e6bccd8d9a4ebe8d841cab2066665725dc1ac6fa01d44d7cec680bd0a", func := "loop.example/capturemonitor/laws.FnSumNextJoin", spec := "fnSumNextJoin", apart := false, narrowed := true }
def FnSumNextJoinUptoSaid : Prop := fnSumNextJoinUptoRow.holds Try.pinned (OpenSpec.upto fnSumNextJoinSpec)

/-- 'laws.FnSumNextByte', WHERE WHAT IT READS IS OF BULK AT MOST 1048576: true; the input reads as it did. -/
def fnSumNextByteUptoRow : OpenClaim := { program := "ytgbdcpeljbeinaa", sum := "4355611e6bccd8d9a4ebe8d841cab2066665725dc1ac6fa01d44d7cec680bd0a", func := "loop.example/capturemonitor/laws.FnSumNextByte", spec := "fnSumNextByte", apart := false, narrowed := true }
def FnSumNextByteUptoSaid : Prop := fnSumNextByteUptoRow.holds Try.pinned (OpenSpec.upto fnSumNextByteSpec)

end Rows
end Go.Proofs.Ytgbdcpeljbeinaa
