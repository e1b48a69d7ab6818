/-
  No cell of these rows narrows 'for every input' (looked for: loops, veiled, ifaces, maps, wideKeys, modest, calm, conditions, laid).
  DERIVED. THE GIVEN ROWS OF THIS SEAT. 8 by the template 'for every input the law returns true; each argument reads behind the call as it read before'; 0 by the template 'total and deterministic' (their statements: YtfmgigmijifnjaaTotals.lean).
  GIVEN WITH THE SEED: the statements are not yours to turn. If you find one false, say at which input.
  Laid BY PROGRAM, IN A SANDBOX (cutbox-rows.mjs): the forced cells as the released guide's own fill.sh prints them over the translation 6aeecd040622876d… (all of the seat's roots in one cut). By AI agents, Wed Nov 11 2026. No macro, syntax, notation, axiom, sorry.
-/
import Derived.Test.YtfmgigmijifnjaaChecked
import GoSem.Claim
import GoSem.ClaimJoined
import GoSem.ClaimMapViews
import Derived.JoinedTies
import Derived.KernelRfl
namespace Go.Proofs.Ytfmgigmijifnjaa
/- THE CELL 'sum', in the pinned program and in every row, IS THE sha256 OF THE DUMP (.gsa) THAT YtfmgigmijifnjaaProg.lean LOADS. Nothing in Lean hashes anything: it is a label: what it is worth is what the hold of that sum in a sandbox is worth. -/
noncomputable def Try.pinned : Pinned := { name := "ytfmgigmijifnjaa", sum := "6aeecd040622876de6b4cb4dfab9a6fd3443b615ba892b5ee4b1f9ceebfdb15b", checked := Try.checked }
namespace Rows
def none {H : Type} : Left H := { results := [], args := [] }

/-- 'laws.FnExactSumValid': WHATEVER THE INPUT: true; the input reads as it did. -/
def fnExactSumValidSpec : ChangeSpec := { name := "fnExactSumValid", fn := fun _ => fun
  | [d] => { results := [.lit (.bool true)], args := [d] }
  | _ => none }
def fnExactSumValidRow : OpenClaim := { program := "ytfmgigmijifnjaa", sum := "6aeecd040622876de6b4cb4dfab9a6fd3443b615ba892b5ee4b1f9ceebfdb15b", func := "loop.example/capturemonitor/laws.FnExactSumValid", spec := "fnExactSumValid", apart := false }
def FnExactSumValidSaid : Prop := fnExactSumValidRow.holds Try.pinned (OpenSpec.ofChange fnExactSumValidSpec)

/-- ITS FALSE NEIGHBOUR: 'it returns false'. Refute it at one input. -/
def fnExactSumValidWrong : ChangeSpec := { name := "fnExactSumValid", fn := fun _ => fun
  | [d] => { results := [.lit (.bool false)], args := [d] }
  | _ => none }
def FnExactSumValidWrongFalsely : Prop := fnExactSumValidRow.holds Try.pinned (OpenSpec.ofChange fnExactSumValidWrong)

/-- 'laws.FnExactSumText': WHATEVER THE INPUT: true; the input reads as it did. -/
def fnExactSumTextSpec : ChangeSpec := { name := "fnExactSumText", fn := fun _ => fun
  | [d] => { results := [.lit (.bool true)], args := [d] }
  | _ => none }
def fnExactSumTextRow : OpenClaim := { program := "ytfmgigmijifnjaa", sum := "6aeecd040622876de6b4cb4dfab9a6fd3443b615ba892b5ee4b1f9ceebfdb15b", func := "loop.example/capturemonitor/laws.FnExactSumText", spec := "fnExactSumText", apart := false }
def FnExactSumTextSaid : Prop := fnExactSumTextRow.holds Try.pinned (OpenSpec.ofChange fnExactSumTextSpec)

/-- ITS FALSE NEIGHBOUR: 'it returns false'. Refute it at one input. -/
def fnExactSumTextWrong : ChangeSpec := { name := "fnExactSumText", fn := fun _ => fun
  | [d] => { results := [.lit (.bool false)], args := [d] }
  | _ => none }
def FnExactSumTextWrongFalsely : Prop := fnExactSumTextRow.holds Try.pinned (OpenSpec.ofChange fnExactSumTextWrong)

/-- 'laws.FnExactSumNext': WHATEVER THE INPUT: true; the input reads as it did. -/
def fnExactSumNextSpec : ChangeSpec := { name := "fnExactSumNext", fn := fun _ => fun
  | [d1, d2] => { results := [.lit (.bool true)], args := [d1, d2] }
  | _ => none }
def fnExactSumNextRow : OpenClaim := { program := "ytfmgigmijifnjaa", sum := "6aeecd040622876de6b4cb4dfab9a6fd3443b615ba892b5ee4b1f9ceebfdb15b", func := "loop.example/capturemonitor/laws.FnExactSumNext", spec := "fnExactSumNext", apart := false }
def FnExactSumNextSaid : Prop := fnExactSumNextRow.holds Try.pinned (OpenSpec.ofChange fnExactSumNextSpec)

/-- ITS FALSE NEIGHBOUR: 'it returns false'. Refute it at one input. -/
def fnExactSumNextWrong : ChangeSpec := { name := "fnExactSumNext", fn := fun _ => fun
  | [d1, d2] => { results := [.lit (.bool false)], args := [d1, d2] }
  | _ => none }
def FnExactSumNextWrongFalsely : Prop := fnExactSumNextRow.holds Try.pinned (OpenSpec.ofChange fnExactSumNextWrong)

/-- 'laws.FnExactSerialIn': WHATEVER THE INPUT: true; the input reads as it did. -/
def fnExactSerialInSpec : ChangeSpec := { name := "fnExactSerialIn", fn := fun _ => fun
  | [d1, d2, d3] => { results := [.lit (.bool true)], args := [d1, d2, d3] }
  | _ => none }
def fnExactSerialInRow : OpenClaim := { program := "ytfmgigmijifnjaa", sum := "6aeecd040622876de6b4cb4dfab9a6fd3443b615ba892b5ee4b1f9ceebfdb15b", func := "loop.example/capturemonitor/laws.FnExactSerialIn", spec := "fnExactSerialIn", apart := false }
def FnExactSerialInSaid : Prop := fnExactSerialInRow.holds Try.pinned (OpenSpec.ofChange fnExactSerialInSpec)

/-- ITS FALSE NEIGHBOUR: 'it returns false'. Refute it at one input. -/
def fnExactSerialInWrong : ChangeSpec := { name := "fnExactSerialIn", fn := fun _ => fun
  | [d1, d2, d3] => { results := [.lit (.bool false)], args := [d1, d2, d3] }
  | _ => none }
def FnExactSerialInWrongFalsely : Prop := fnExactSerialInRow.holds Try.pinned (OpenSpec.ofChange fnExactSerialInWrong)

/-- 'laws.FnExactSerialAdd': WHATEVER THE INPUT: true; the input reads as it did. -/
def fnExactSerialAddSpec : ChangeSpec := { name := "fnExactSerialAdd", fn := fun _ => fun
  | [d1, d2] => { results := [.lit (.bool true)], args := [d1, d2] }
  | _ => none }
def fnExactSerialAddRow : OpenClaim := { program := "ytfmgigmijifnjaa", sum := "6aeecd040622876de6b4cb4dfab9a6fd3443b615ba892b5ee4b1f9ceebfdb15b", func := "loop.example/capturemonitor/laws.FnExactSerialAdd", spec := "fnExactSerialAdd", apart := false }
def FnExactSerialAddSaid : Prop := fnExactSerialAddRow.holds Try.pinned (OpenSpec.ofChange fnExactSerialAddSpec)

/-- ITS FALSE NEIGHBOUR: 'it returns false'. Refute it at one input. -/
def fnExactSerialAddWrong : ChangeSpec := { name := "fnExactSerialAdd", fn := fun _ => fun
  | [d1, d2] => { results := [.lit (.bool false)], args := [d1, d2] }
  | _ => none }
def FnExactSerialAddWrongFalsely : Prop := fnExactSerialAddRow.holds Try.pinned (OpenSpec.ofChange fnExactSerialAddWrong)

/-- 'laws.FnExactSerialDiff': WHATEVER THE INPUT: true; the input reads as it did. -/
def fnExactSerialDiffSpec : ChangeSpec := { name := "fnExactSerialDiff", fn := fun _ => fun
  | [d1, d2] => { results := [.lit (.bool true)], args := [d1, d2] }
  | _ => none }
def fnExactSerialDiffRow : OpenClaim := { program := "ytfmgigmijifnjaa", sum := "6aeecd040622876de6b4cb4dfab9a6fd3443b615ba892b5ee4b1f9ceebfdb15b", func := "loop.example/capturemonitor/laws.FnExactSerialDiff", spec := "fnExactSerialDiff", apart := false }
def FnExactSerialDiffSaid : Prop := fnExactSerialDiffRow.holds Try.pinned (OpenSpec.ofChange fnExactSerialDiffSpec)

/-- ITS FALSE NEIGHBOUR: 'it returns false'. Refute it at one input. -/
def fnExactSerialDiffWrong : ChangeSpec := { name := "fnExactSerialDiff", fn := fun _ => fun
  | [d1, d2] => { results := [.lit (.bool false)], args := [d1, d2] }
  | _ => none }
def FnExactSerialDiffWrongFalsely : Prop := fnExactSerialDiffRow.holds Try.pinned (OpenSpec.ofChange fnExactSerialDiffWrong)

/-- 'laws.FnExactSerialLess': WHATEVER THE INPUT: true; the input reads as it did. -/
def fnExactSerialLessSpec : ChangeSpec := { name := "fnExactSerialLess", fn := fun _ => fun
  | [d1, d2] => { results := [.lit (.bool true)], args := [d1, d2] }
  | _ => none }
def fnExactSerialLessRow : OpenClaim := { program := "ytfmgigmijifnjaa", sum := "6aeecd040622876de6b4cb4dfab9a6fd3443b615ba892b5ee4b1f9ceebfdb15b", func := "loop.example/capturemonitor/laws.FnExactSerialLess", spec := "fnExactSerialLess", apart := false }
def FnExactSerialLessSaid : Prop := fnExactSerialLessRow.holds Try.pinned (OpenSpec.ofChange fnExactSerialLessSpec)

/-- ITS FALSE NEIGHBOUR: 'it returns false'. Refute it at one input. -/
def fnExactSerialLessWrong : ChangeSpec := { name := "fnExactSerialLess", fn := fun _ => fun
  | [d1, d2] => { results := [.lit (.bool false)], args := [d1, d2] }
  | _ => none }
def FnExactSerialLessWrongFalsely : Prop := fnExactSerialLessRow.holds Try.pinned (OpenSpec.ofChange fnExactSerialLessWrong)

/-- 'laws.FnExactSerialLast': WHATEVER THE INPUT: true; the input reads as it did. -/
def fnExactSerialLastSpec : ChangeSpec := { name := "fnExactSerialLast", fn := fun _ => fun
  | [d1, d2] => { results := [.lit (.bool true)], args := [d1, d2] }
  | _ => none }
def fnExactSerialLastRow : OpenClaim := { program := "ytfmgigmijifnjaa", sum := "6aeecd040622876de6b4cb4dfab9a6fd3443b615ba892b5ee4b1f9ceebfdb15b", func := "loop.example/capturemonitor/laws.FnExactSerialLast", spec := "fnExactSerialLast", apart := false }
def FnExactSerialLastSaid : Prop := fnExactSerialLastRow.holds Try.pinned (OpenSpec.ofChange fnExactSerialLastSpec)

/-- ITS FALSE NEIGHBOUR: 'it returns false'. Refute it at one input. -/
def fnExactSerialLastWrong : ChangeSpec := { name := "fnExactSerialLast", fn := fun _ => fun
  | [d1, d2] => { results := [.lit (.bool false)], args := [d1, d2] }
  | _ => none }
def FnExactSerialLastWrongFalsely : Prop := fnExactSerialLastRow.holds Try.pinned (OpenSpec.ofChange fnExactSerialLastWrong)

/- THE SECOND FORM. 'bulk': how many values and letters a reading holds, each counted each time it is reached (what is shared counts as often as it is met; a slice's spare places count too). A statement '..UptoSaid' is the law's where the arguments, and the package variables that the reading takes, are together of bulk at most 1048576: NARROWER than '..Said'. Prove '..Said' where nothing that the law and all that it calls make is longer than what came in: it says more and counts as full. Else prove '..UptoSaid'. A law counts once. -/
mutual
def uptoBulk {H : Type} : DataW H → Nat
  | .lit (.string bytes) => bytes.length + 1
  | .lit _ => 1
  | .nil => 1
  | .ptr d => uptoBulk d + 1
  | .slice elems spare => uptoBulkAll elems + uptoBulkAll spare + 1
  | .agg parts => uptoBulkAll parts + 1
  | .iface _ d => uptoBulk d + 1
  | .map entries => uptoBulkEntries entries + 1
  | .held _ => 1
def uptoBulkAll {H : Type} : List (DataW H) → Nat
  | [] => 0
  | d :: r => uptoBulk d + uptoBulkAll r
def uptoBulkEntries {H : Type} : List (Lit × DataW H) → Nat
  | [] => 0
  | x :: r => uptoBulkEntry x + uptoBulkEntries r
def uptoBulkEntry {H : Type} : Lit × DataW H → Nat
  | (.string bytes, d) => bytes.length + uptoBulk d + 1
  | (_, d) => uptoBulk d + 1
 end
def uptoSmall : (H : Type) → List (DataW H) → Bool := fun _ ds => decide (uptoBulkAll ds ≤ 1048576)
def OpenSpec.upto (s : _root_.Go.ChangeSpec) : _root_.Go.OpenSpec := { _root_.Go.OpenSpec.ofChange s with cond := some uptoSmall }

/-- 'laws.FnExactSumValid', WHERE WHAT IT READS IS OF BULK AT MOST 1048576: true; the input reads as it did. -/
def fnExactSumValidUptoRow : OpenClaim := { program := "ytfmgigmijifnjaa", sum := "6aeecd040622876de6b4cb4dfab9a6fd3443b615ba892b5ee4b1f9ceebfdb15b", func := "loop.example/capturemonitor/laws.FnExactSumValid", spec := "fnExactSumValid", apart := false, narrowed := true }
def FnExactSumValidUptoSaid : Prop := fnExactSumValidUptoRow.holds Try.pinned (OpenSpec.upto fnExactSumValidSpec)

/-- 'laws.FnExactSumText', WHERE WHAT IT READS IS OF BULK AT MOST 1048576: true; the input reads as it did. -/
def fnExactSumTextUptoRow : OpenClaim := { program := "ytfmgigmijifnjaa", sum := "6aeecd040622876de6b4cb4dfab9a6fd3443b615ba892b5ee4b1f9ceebfdb15b", func := "loop.example/capturemonitor/laws.FnExactSumText", spec := "fnExactSumText", apart := false, narrowed := true }
def FnExactSumTextUptoSaid : Prop := fnExactSumTextUptoRow.holds Try.pinned (OpenSpec.upto fnExactSumTextSpec)

/-- 'laws.FnExactSumNext', WHERE WHAT IT READS IS OF BULK AT MOST 1048576: true; the input reads as it did. -/
def fnExactSumNextUptoRow : OpenClaim := { program := "ytfmgigmijifnjaa", sum := "6aeecd040622876de6b4cb4dfab9a6fd3443b615ba892b5ee4b1f9ceebfdb15b", func := "loop.example/capturemonitor/laws.FnExactSumNext", spec := "fnExactSumNext", apart := false, narrowed := true }
def FnExactSumNextUptoSaid : Prop := fnExactSumNextUptoRow.holds Try.pinned (OpenSpec.upto fnExactSumNextSpec)

/-- 'laws.FnExactSerialIn', WHERE WHAT IT READS IS OF BULK AT MOST 1048576: true; the input reads as it did. -/
def fnExactSerialInUptoRow : OpenClaim := { program := "ytfmgigmijifnjaa", sum := "6aeecd040622876de6b4cb4dfab9a6fd3443b615ba892b5ee4b1f9ceebfdb15b", func := "loop.example/capturemonitor/laws.FnExactSerialIn", spec := "fnExactSerialIn", apart := false, narrowed := true }
def FnExactSerialInUptoSaid : Prop := fnExactSerialInUptoRow.holds Try.pinned (OpenSpec.upto fnExactSerialInSpec)

/-- 'laws.FnExactSerialAdd', WHERE WHAT IT READS IS OF BULK AT MOST 1048576: true; the input reads as it did. -/
def fnExactSerialAddUptoRow : OpenClaim := { program := "ytfmgigmijifnjaa", sum := "6aeecd040622876de6b4cb4dfab9a6fd3443b615ba892b5ee4b1f9ceebfdb15b", func := "loop.example/capturemonitor/laws.FnExactSerialAdd", spec := "fnExactSerialAdd", apart := false, narrowed := true }
def FnExactSerialAddUptoSaid : Prop := fnExactSerialAddUptoRow.holds Try.pinned (OpenSpec.upto fnExactSerialAddSpec)

/-- 'laws.FnExactSerialDiff', WHERE WHAT IT READS IS OF BULK AT MOST 1048576: true; the input reads as it did. -/
def fnExactSerialDiffUptoRow : OpenClaim := { program := "ytfmgigmijifnjaa", sum := "6aeecd040622876de6b4cb4dfab9a6fd3443b615ba892b5ee4b1f9ceebfdb15b", func := "loop.example/capturemonitor/laws.FnExactSerialDiff", spec := "fnExactSerialDiff", apart := false, narrowed := true }
def FnExactSerialDiffUptoSaid : Prop := fnExactSerialDiffUptoRow.holds Try.pinned (OpenSpec.upto fnExactSerialDiffSpec)

/-- 'laws.FnExactSerialLess', WHERE WHAT IT READS IS OF BULK AT MOST 1048576: true; the input reads as it did. -/
def fnExactSerialLessUptoRow : OpenClaim := { program := "ytfmgigmijifnjaa", sum := "6aeecd040622876de6b4cb4dfab9a6fd3443b615ba892b5ee4b1f9ceebfdb15b", func := "loop.example/capturemonitor/laws.FnExactSerialLess", spec := "fnExactSerialLess", apart := false, narrowed := true }
def FnExactSerialLessUptoSaid : Prop := fnExactSerialLessUptoRow.holds Try.pinned (OpenSpec.upto fnExactSerialLessSpec)

/-- 'laws.FnExactSerialLast', WHERE WHAT IT READS IS OF BULK AT MOST 1048576: true; the input reads as it did. -/
def fnExactSerialLastUptoRow : OpenClaim := { program := "ytfmgigmijifnjaa", sum := "6aeecd040622876de6b4cb4dfab9a6fd3443b615ba892b5ee4b1f9ceebfdb15b", func := "loop.example/capturemonitor/laws.FnExactSerialLast", spec := "fnExactSerialLast", apart := false, narrowed := true }
def FnExactSerialLastUptoSaid : Prop := fnExactSerialLastUptoRow.holds Try.pinned (OpenSpec.upto fnExactSerialLastSpec)

end Rows
end Go.Proofs.Ytfmgigmijifnjaa
