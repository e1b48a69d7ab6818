/-
  No cell of these rows narrows 'for every input' (looked for: loops, veiled, ifaces, maps, wideKeys, modest, calm, conditions, laid).
  DERIVED. THE GIVEN ROWS OF THIS SEAT. 6 by the template 'for every input the law returns true; each argument reads behind the call as it read before'; 0 by the template 'total and deterministic' (their statements: YtlppoodfghimkaaTotals.lean).
  GIVEN WITH THE SEED: the statements are not yours to turn. If you find one false, say at which input.
  Laid BY PROGRAM, IN A SANDBOX (cutbox-rows.mjs): the forced cells as the released guide's own fill.sh prints them over the translation a160033be7f73586… (all of the seat's roots in one cut). By AI agents, Wed Nov 11 2026. No macro, syntax, notation, axiom, sorry.
-/
import Derived.Test.YtlppoodfghimkaaChecked
import GoSem.Claim
import GoSem.ClaimJoined
import GoSem.ClaimMapViews
import Derived.JoinedTies
import Derived.KernelRfl
namespace Go.Proofs.Ytlppoodfghimkaa
/- THE CELL 'sum', in the pinned program and in every row, IS THE sha256 OF THE DUMP (.gsa) THAT YtlppoodfghimkaaProg.lean LOADS. Nothing in Lean hashes anything: it is a label: what it is worth is what the hold of that sum in a sandbox is worth. -/
noncomputable def Try.pinned : Pinned := { name := "ytlppoodfghimkaa", sum := "a160033be7f735861a6609838a0c7288cd9924e24cc7ecdeaadfb2b5306f4486", checked := Try.checked }
namespace Rows
def none {H : Type} : Left H := { results := [], args := [] }

/-- 'laws.FnSerialAdd': WHATEVER THE INPUT: true; the input reads as it did. -/
def fnSerialAddSpec : ChangeSpec := { name := "fnSerialAdd", fn := fun _ => fun
  | [d] => { results := [.lit (.bool true)], args := [d] }
  | _ => none }
def fnSerialAddRow : OpenClaim := { program := "ytlppoodfghimkaa", sum := "a160033be7f735861a6609838a0c7288cd9924e24cc7ecdeaadfb2b5306f4486", func := "loop.example/capturemonitor/laws.FnSerialAdd", spec := "fnSerialAdd", apart := false }
def FnSerialAddSaid : Prop := fnSerialAddRow.holds Try.pinned (OpenSpec.ofChange fnSerialAddSpec)

/-- ITS FALSE NEIGHBOUR: 'it returns false'. Refute it at one input. -/
def fnSerialAddWrong : ChangeSpec := { name := "fnSerialAdd", fn := fun _ => fun
  | [d] => { results := [.lit (.bool false)], args := [d] }
  | _ => none }
def FnSerialAddWrongFalsely : Prop := fnSerialAddRow.holds Try.pinned (OpenSpec.ofChange fnSerialAddWrong)

/-- 'laws.FnSerialAddBad': WHATEVER THE INPUT: true; the input reads as it did. -/
def fnSerialAddBadSpec : ChangeSpec := { name := "fnSerialAddBad", fn := fun _ => fun
  | [d] => { results := [.lit (.bool true)], args := [d] }
  | _ => none }
def fnSerialAddBadRow : OpenClaim := { program := "ytlppoodfghimkaa", sum := "a160033be7f735861a6609838a0c7288cd9924e24cc7ecdeaadfb2b5306f4486", func := "loop.example/capturemonitor/laws.FnSerialAddBad", spec := "fnSerialAddBad", apart := false }
def FnSerialAddBadSaid : Prop := fnSerialAddBadRow.holds Try.pinned (OpenSpec.ofChange fnSerialAddBadSpec)

/-- ITS FALSE NEIGHBOUR: 'it returns false'. Refute it at one input. -/
def fnSerialAddBadWrong : ChangeSpec := { name := "fnSerialAddBad", fn := fun _ => fun
  | [d] => { results := [.lit (.bool false)], args := [d] }
  | _ => none }
def FnSerialAddBadWrongFalsely : Prop := fnSerialAddBadRow.holds Try.pinned (OpenSpec.ofChange fnSerialAddBadWrong)

/-- 'laws.FnSerialAddSize': WHATEVER THE INPUT: true; the input reads as it did. -/
def fnSerialAddSizeSpec : ChangeSpec := { name := "fnSerialAddSize", fn := fun _ => fun
  | [d] => { results := [.lit (.bool true)], args := [d] }
  | _ => none }
def fnSerialAddSizeRow : OpenClaim := { program := "ytlppoodfghimkaa", sum := "a160033be7f735861a6609838a0c7288cd9924e24cc7ecdeaadfb2b5306f4486", func := "loop.example/capturemonitor/laws.FnSerialAddSize", spec := "fnSerialAddSize", apart := false }
def FnSerialAddSizeSaid : Prop := fnSerialAddSizeRow.holds Try.pinned (OpenSpec.ofChange fnSerialAddSizeSpec)

/-- ITS FALSE NEIGHBOUR: 'it returns false'. Refute it at one input. -/
def fnSerialAddSizeWrong : ChangeSpec := { name := "fnSerialAddSize", fn := fun _ => fun
  | [d] => { results := [.lit (.bool false)], args := [d] }
  | _ => none }
def FnSerialAddSizeWrongFalsely : Prop := fnSerialAddSizeRow.holds Try.pinned (OpenSpec.ofChange fnSerialAddSizeWrong)

/-- 'laws.FnSerialAddSum': WHATEVER THE INPUT: true; the input reads as it did. -/
def fnSerialAddSumSpec : ChangeSpec := { name := "fnSerialAddSum", fn := fun _ => fun
  | [d1, d2] => { results := [.lit (.bool true)], args := [d1, d2] }
  | _ => none }
def fnSerialAddSumRow : OpenClaim := { program := "ytlppoodfghimkaa", sum := "a160033be7f735861a6609838a0c7288cd9924e24cc7ecdeaadfb2b5306f4486", func := "loop.example/capturemonitor/laws.FnSerialAddSum", spec := "fnSerialAddSum", apart := false }
def FnSerialAddSumSaid : Prop := fnSerialAddSumRow.holds Try.pinned (OpenSpec.ofChange fnSerialAddSumSpec)

/-- ITS FALSE NEIGHBOUR: 'it returns false'. Refute it at one input. -/
def fnSerialAddSumWrong : ChangeSpec := { name := "fnSerialAddSum", fn := fun _ => fun
  | [d1, d2] => { results := [.lit (.bool false)], args := [d1, d2] }
  | _ => none }
def FnSerialAddSumWrongFalsely : Prop := fnSerialAddSumRow.holds Try.pinned (OpenSpec.ofChange fnSerialAddSumWrong)

/-- 'laws.FnSerialInEnds': WHATEVER THE INPUT: true; the input reads as it did. -/
def fnSerialInEndsSpec : ChangeSpec := { name := "fnSerialInEnds", fn := fun _ => fun
  | [d] => { results := [.lit (.bool true)], args := [d] }
  | _ => none }
def fnSerialInEndsRow : OpenClaim := { program := "ytlppoodfghimkaa", sum := "a160033be7f735861a6609838a0c7288cd9924e24cc7ecdeaadfb2b5306f4486", func := "loop.example/capturemonitor/laws.FnSerialInEnds", spec := "fnSerialInEnds", apart := false }
def FnSerialInEndsSaid : Prop := fnSerialInEndsRow.holds Try.pinned (OpenSpec.ofChange fnSerialInEndsSpec)

/-- ITS FALSE NEIGHBOUR: 'it returns false'. Refute it at one input. -/
def fnSerialInEndsWrong : ChangeSpec := { name := "fnSerialInEnds", fn := fun _ => fun
  | [d] => { results := [.lit (.bool false)], args := [d] }
  | _ => none }
def FnSerialInEndsWrongFalsely : Prop := fnSerialInEndsRow.holds Try.pinned (OpenSpec.ofChange fnSerialInEndsWrong)

/-- 'laws.FnSerialIn': WHATEVER THE INPUT: true; the input reads as it did. -/
def fnSerialInSpec : ChangeSpec := { name := "fnSerialIn", fn := fun _ => fun
  | [d] => { results := [.lit (.bool true)], args := [d] }
  | _ => none }
def fnSerialInRow : OpenClaim := { program := "ytlppoodfghimkaa", sum := "a160033be7f735861a6609838a0c7288cd9924e24cc7ecdeaadfb2b5306f4486", func := "loop.example/capturemonitor/laws.FnSerialIn", spec := "fnSerialIn", apart := false }
def FnSerialInSaid : Prop := fnSerialInRow.holds Try.pinned (OpenSpec.ofChange fnSerialInSpec)

/-- ITS FALSE NEIGHBOUR: 'it returns false'. Refute it at one input. -/
def fnSerialInWrong : ChangeSpec := { name := "fnSerialIn", fn := fun _ => fun
  | [d] => { results := [.lit (.bool false)], args := [d] }
  | _ => none }
def FnSerialInWrongFalsely : Prop := fnSerialInRow.holds Try.pinned (OpenSpec.ofChange fnSerialInWrong)

/- THE SECOND FORM. 'bulk': how many values and letters a reading holds, each counted each time it is reached (what is shared counts as often as it is met; a slice's spare places count too). A statement '..UptoSaid' is the law's where the arguments, and the package variables that the reading takes, are together of bulk at most 1048576: NARROWER than '..Said'. Prove '..Said' where nothing that the law and all that it calls make is longer than what came in: it says more and counts as full. Else prove '..UptoSaid'. A law counts once. -/
mutual
def uptoBulk {H : Type} : DataW H → Nat
  | .lit (.string bytes) => bytes.length + 1
  | .lit _ => 1
  | .nil => 1
  | .ptr d => uptoBulk d + 1
  | .slice elems spare => uptoBulkAll elems + uptoBulkAll spare + 1
  | .agg parts => uptoBulkAll parts + 1
  | .iface _ d => uptoBulk d + 1
  | .map entries => uptoBulkEntries entries + 1
  | .held _ => 1
def uptoBulkAll {H : Type} : List (DataW H) → Nat
  | [] => 0
  | d :: r => uptoBulk d + uptoBulkAll r
def uptoBulkEntries {H : Type} : List (Lit × DataW H) → Nat
  | [] => 0
  | x :: r => uptoBulkEntry x + uptoBulkEntries r
def uptoBulkEntry {H : Type} : Lit × DataW H → Nat
  | (.string bytes, d) => bytes.length + uptoBulk d + 1
  | (_, d) => uptoBulk d + 1
 end
def uptoSmall : (H : Type) → List (DataW H) → Bool := fun _ ds => decide (uptoBulkAll ds ≤ 1048576)
def OpenSpec.upto (s : _root_.Go.ChangeSpec) : _root_.Go.OpenSpec := { _root_.Go.OpenSpec.ofChange s with cond := some uptoSmall }

/-- 'laws.FnSerialAdd', WHERE WHAT IT READS IS OF BULK AT MOST 1048576: true; the input reads as it did. -/
def fnSerialAddUptoRow : OpenClaim := { program := "ytlppoodfghimkaa", sum := "a160033be7f735861a6609838a0c7288cd9924e24cc7ecdeaadfb2b5306f4486", func := "loop.example/capturemonitor/laws.FnSerialAdd", spec := "fnSerialAdd", apart := false, narrowed := true }
def FnSerialAddUptoSaid : Prop := fnSerialAddUptoRow.holds Try.pinned (OpenSpec.upto fnSerialAddSpec)

/-- 'laws.FnSerialAddBad', WHERE WHAT IT READS IS OF BULK AT MOST 1048576: true; the input reads as it did. -/
def fnSerialAddBadUptoRow : OpenClaim := { program := "ytlppoodfghimkaa", sum := "a160033be7f735861a6609838a0c7288cd9924e24cc7ecdeaadfb2b5306f4486", func := "loop.example/capturemonitor/laws.FnSerialAddBad", spec := "fnSerialAddBad", apart := false, narrowed := true }
def FnSerialAddBadUptoSaid : Prop := fnSerialAddBadUptoRow.holds Try.pinned (OpenSpec.upto fnSerialAddBadSpec)

/-- 'laws.FnSerialAddSize', WHERE WHAT IT READS IS OF BULK AT MOST 1048576: true; the input reads as it did. -/
def fnSerialAddSizeUptoRow : OpenClaim := { program := "ytlppoodfghimkaa", sum := "a160033be7f735861a6609838a0c7288cd9924e24cc7ecdeaadfb2b5306f4486", func := "loop.example/capturemonitor/laws.FnSerialAddSize", spec := "fnSerialAddSize", apart := false, narrowed := true }
def FnSerialAddSizeUptoSaid : Prop := fnSerialAddSizeUptoRow.holds Try.pinned (OpenSpec.upto fnSerialAddSizeSpec)

/-- 'laws.FnSerialAddSum', WHERE WHAT IT READS IS OF BULK AT MOST 1048576: true; the input reads as it did. -/
def fnSerialAddSumUptoRow : OpenClaim := { program := "ytlppoodfghimkaa", sum := "a160033be7f735861a6609838a0c7288cd9924e24cc7ecdeaadfb2b5306f4486", func := "loop.example/capturemonitor/laws.FnSerialAddSum", spec := "fnSerialAddSum", apart := false, narrowed := true }
def FnSerialAddSumUptoSaid : Prop := fnSerialAddSumUptoRow.holds Try.pinned (OpenSpec.upto fnSerialAddSumSpec)

/-- 'laws.FnSerialInEnds', WHERE WHAT IT READS IS OF BULK AT MOST 1048576: true; the input reads as it did. -/
def fnSerialInEndsUptoRow : OpenClaim := { program := "ytlppoodfghimkaa", sum := "a160033be7f735861a6609838a0c7288cd9924e24cc7ecdeaadfb2b5306f4486", func := "loop.example/capturemonitor/laws.FnSerialInEnds", spec := "fnSerialInEnds", apart := false, narrowed := true }
def FnSerialInEndsUptoSaid : Prop := fnSerialInEndsUptoRow.holds Try.pinned (OpenSpec.upto fnSerialInEndsSpec)

/-- 'laws.FnSerialIn', WHERE WHAT IT READS IS OF BULK AT MOST 1048576: true; the input reads as it did. -/
def fnSerialInUptoRow : OpenClaim := { program := "ytlppoodfghimkaa", sum := "a160033be7f735861a6609838a0c7288cd9924e24cc7ecdeaadfb2b5306f4486", func := "loop.example/capturemonitor/laws.FnSerialIn", spec := "fnSerialIn", apart := false, narrowed := true }
def FnSerialInUptoSaid : Prop := fnSerialInUptoRow.holds Try.pinned (OpenSpec.upto fnSerialInSpec)

end Rows
end Go.Proofs.Ytlppoodfghimkaa
