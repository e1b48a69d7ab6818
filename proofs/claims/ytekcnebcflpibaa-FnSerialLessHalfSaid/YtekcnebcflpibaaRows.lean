/-
  No cell of these rows narrows 'for every input' (looked for: loops, veiled, ifaces, maps, wideKeys, modest, calm, conditions, laid).
  DERIVED. THE GIVEN ROWS OF THIS SEAT. 7 by the template 'for every input the law returns true; each argument reads behind the call as it read before'; 0 by the template 'total and deterministic' (their statements: YtekcnebcflpibaaTotals.lean).
  GIVEN WITH THE SEED: the statements are not yours to turn. If you find one false, say at which input.
  Laid BY PROGRAM, IN A SANDBOX (cutbox-rows.mjs): the forced cells as the released guide's own fill.sh prints them over the translation c70451f04adcc78c… (all of the seat's roots in one cut). By AI agents, Wed Nov 11 2026. No macro, syntax, notation, axiom, sorry.
-/
import Derived.Test.YtekcnebcflpibaaChecked
import GoSem.Claim
import GoSem.ClaimJoined
import GoSem.ClaimMapViews
import Derived.JoinedTies
import Derived.KernelRfl
namespace Go.Proofs.Ytekcnebcflpibaa
/- THE CELL 'sum', in the pinned program and in every row, IS THE sha256 OF THE DUMP (.gsa) THAT YtekcnebcflpibaaProg.lean LOADS. Nothing in Lean hashes anything: it is a label: what it is worth is what the hold of that sum in a sandbox is worth. -/
noncomputable def Try.pinned : Pinned := { name := "ytekcnebcflpibaa", sum := "c70451f04adcc78c1962538d349cd933423a97e4210fd2bd21b204945151f166", checked := Try.checked }
namespace Rows
def none {H : Type} : Left H := { results := [], args := [] }

/-- 'laws.FnSerialDiffBack': WHATEVER THE INPUT: true; the input reads as it did. -/
def fnSerialDiffBackSpec : ChangeSpec := { name := "fnSerialDiffBack", fn := fun _ => fun
  | [d] => { results := [.lit (.bool true)], args := [d] }
  | _ => none }
def fnSerialDiffBackRow : OpenClaim := { program := "ytekcnebcflpibaa", sum := "c70451f04adcc78c1962538d349cd933423a97e4210fd2bd21b204945151f166", func := "loop.example/capturemonitor/laws.FnSerialDiffBack", spec := "fnSerialDiffBack", apart := false }
def FnSerialDiffBackSaid : Prop := fnSerialDiffBackRow.holds Try.pinned (OpenSpec.ofChange fnSerialDiffBackSpec)

/-- ITS FALSE NEIGHBOUR: 'it returns false'. Refute it at one input. -/
def fnSerialDiffBackWrong : ChangeSpec := { name := "fnSerialDiffBack", fn := fun _ => fun
  | [d] => { results := [.lit (.bool false)], args := [d] }
  | _ => none }
def FnSerialDiffBackWrongFalsely : Prop := fnSerialDiffBackRow.holds Try.pinned (OpenSpec.ofChange fnSerialDiffBackWrong)

/-- 'laws.FnSerialDiffBad': WHATEVER THE INPUT: true; the input reads as it did. -/
def fnSerialDiffBadSpec : ChangeSpec := { name := "fnSerialDiffBad", fn := fun _ => fun
  | [d] => { results := [.lit (.bool true)], args := [d] }
  | _ => none }
def fnSerialDiffBadRow : OpenClaim := { program := "ytekcnebcflpibaa", sum := "c70451f04adcc78c1962538d349cd933423a97e4210fd2bd21b204945151f166", func := "loop.example/capturemonitor/laws.FnSerialDiffBad", spec := "fnSerialDiffBad", apart := false }
def FnSerialDiffBadSaid : Prop := fnSerialDiffBadRow.holds Try.pinned (OpenSpec.ofChange fnSerialDiffBadSpec)

/-- ITS FALSE NEIGHBOUR: 'it returns false'. Refute it at one input. -/
def fnSerialDiffBadWrong : ChangeSpec := { name := "fnSerialDiffBad", fn := fun _ => fun
  | [d] => { results := [.lit (.bool false)], args := [d] }
  | _ => none }
def FnSerialDiffBadWrongFalsely : Prop := fnSerialDiffBadRow.holds Try.pinned (OpenSpec.ofChange fnSerialDiffBadWrong)

/-- 'laws.FnSerialLess': WHATEVER THE INPUT: true; the input reads as it did. -/
def fnSerialLessSpec : ChangeSpec := { name := "fnSerialLess", fn := fun _ => fun
  | [d] => { results := [.lit (.bool true)], args := [d] }
  | _ => none }
def fnSerialLessRow : OpenClaim := { program := "ytekcnebcflpibaa", sum := "c70451f04adcc78c1962538d349cd933423a97e4210fd2bd21b204945151f166", func := "loop.example/capturemonitor/laws.FnSerialLess", spec := "fnSerialLess", apart := false }
def FnSerialLessSaid : Prop := fnSerialLessRow.holds Try.pinned (OpenSpec.ofChange fnSerialLessSpec)

/-- ITS FALSE NEIGHBOUR: 'it returns false'. Refute it at one input. -/
def fnSerialLessWrong : ChangeSpec := { name := "fnSerialLess", fn := fun _ => fun
  | [d] => { results := [.lit (.bool false)], args := [d] }
  | _ => none }
def FnSerialLessWrongFalsely : Prop := fnSerialLessRow.holds Try.pinned (OpenSpec.ofChange fnSerialLessWrong)

/-- 'laws.FnSerialDiff': WHATEVER THE INPUT: true; the input reads as it did. -/
def fnSerialDiffSpec : ChangeSpec := { name := "fnSerialDiff", fn := fun _ => fun
  | [d] => { results := [.lit (.bool true)], args := [d] }
  | _ => none }
def fnSerialDiffRow : OpenClaim := { program := "ytekcnebcflpibaa", sum := "c70451f04adcc78c1962538d349cd933423a97e4210fd2bd21b204945151f166", func := "loop.example/capturemonitor/laws.FnSerialDiff", spec := "fnSerialDiff", apart := false }
def FnSerialDiffSaid : Prop := fnSerialDiffRow.holds Try.pinned (OpenSpec.ofChange fnSerialDiffSpec)

/-- ITS FALSE NEIGHBOUR: 'it returns false'. Refute it at one input. -/
def fnSerialDiffWrong : ChangeSpec := { name := "fnSerialDiff", fn := fun _ => fun
  | [d] => { results := [.lit (.bool false)], args := [d] }
  | _ => none }
def FnSerialDiffWrongFalsely : Prop := fnSerialDiffRow.holds Try.pinned (OpenSpec.ofChange fnSerialDiffWrong)

/-- 'laws.FnSerialDiffAdd': WHATEVER THE INPUT: true; the input reads as it did. -/
def fnSerialDiffAddSpec : ChangeSpec := { name := "fnSerialDiffAdd", fn := fun _ => fun
  | [d1, d2] => { results := [.lit (.bool true)], args := [d1, d2] }
  | _ => none }
def fnSerialDiffAddRow : OpenClaim := { program := "ytekcnebcflpibaa", sum := "c70451f04adcc78c1962538d349cd933423a97e4210fd2bd21b204945151f166", func := "loop.example/capturemonitor/laws.FnSerialDiffAdd", spec := "fnSerialDiffAdd", apart := false }
def FnSerialDiffAddSaid : Prop := fnSerialDiffAddRow.holds Try.pinned (OpenSpec.ofChange fnSerialDiffAddSpec)

/-- ITS FALSE NEIGHBOUR: 'it returns false'. Refute it at one input. -/
def fnSerialDiffAddWrong : ChangeSpec := { name := "fnSerialDiffAdd", fn := fun _ => fun
  | [d1, d2] => { results := [.lit (.bool false)], args := [d1, d2] }
  | _ => none }
def FnSerialDiffAddWrongFalsely : Prop := fnSerialDiffAddRow.holds Try.pinned (OpenSpec.ofChange fnSerialDiffAddWrong)

/-- 'laws.FnSerialDiffMove': WHATEVER THE INPUT: true; the input reads as it did. -/
def fnSerialDiffMoveSpec : ChangeSpec := { name := "fnSerialDiffMove", fn := fun _ => fun
  | [d1, d2] => { results := [.lit (.bool true)], args := [d1, d2] }
  | _ => none }
def fnSerialDiffMoveRow : OpenClaim := { program := "ytekcnebcflpibaa", sum := "c70451f04adcc78c1962538d349cd933423a97e4210fd2bd21b204945151f166", func := "loop.example/capturemonitor/laws.FnSerialDiffMove", spec := "fnSerialDiffMove", apart := false }
def FnSerialDiffMoveSaid : Prop := fnSerialDiffMoveRow.holds Try.pinned (OpenSpec.ofChange fnSerialDiffMoveSpec)

/-- ITS FALSE NEIGHBOUR: 'it returns false'. Refute it at one input. -/
def fnSerialDiffMoveWrong : ChangeSpec := { name := "fnSerialDiffMove", fn := fun _ => fun
  | [d1, d2] => { results := [.lit (.bool false)], args := [d1, d2] }
  | _ => none }
def FnSerialDiffMoveWrongFalsely : Prop := fnSerialDiffMoveRow.holds Try.pinned (OpenSpec.ofChange fnSerialDiffMoveWrong)

/-- 'laws.FnSerialLessHalf': WHATEVER THE INPUT: true; the input reads as it did. -/
def fnSerialLessHalfSpec : ChangeSpec := { name := "fnSerialLessHalf", fn := fun _ => fun
  | [d] => { results := [.lit (.bool true)], args := [d] }
  | _ => none }
def fnSerialLessHalfRow : OpenClaim := { program := "ytekcnebcflpibaa", sum := "c70451f04adcc78c1962538d349cd933423a97e4210fd2bd21b204945151f166", func := "loop.example/capturemonitor/laws.FnSerialLessHalf", spec := "fnSerialLessHalf", apart := false }
def FnSerialLessHalfSaid : Prop := fnSerialLessHalfRow.holds Try.pinned (OpenSpec.ofChange fnSerialLessHalfSpec)

/-- ITS FALSE NEIGHBOUR: 'it returns false'. Refute it at one input. -/
def fnSerialLessHalfWrong : ChangeSpec := { name := "fnSerialLessHalf", fn := fun _ => fun
  | [d] => { results := [.lit (.bool false)], args := [d] }
  | _ => none }
def FnSerialLessHalfWrongFalsely : Prop := fnSerialLessHalfRow.holds Try.pinned (OpenSpec.ofChange fnSerialLessHalfWrong)

/- THE SECOND FORM. 'bulk': how many values and letters a reading holds, each counted each time it is reached (what is shared counts as often as it is met; a slice's spare places count too). A statement '..UptoSaid' is the law's where the arguments, and the package variables that the reading takes, are together of bulk at most 1048576: NARROWER than '..Said'. Prove '..Said' where nothing that the law and all that it calls make is longer than what came in: it says more and counts as full. Else prove '..UptoSaid'. A law counts once. -/
mutual
def uptoBulk {H : Type} : DataW H → Nat
  | .lit (.string bytes) => bytes.length + 1
  | .lit _ => 1
  | .nil => 1
  | .ptr d => uptoBulk d + 1
  | .slice elems spare => uptoBulkAll elems + uptoBulkAll spare + 1
  | .agg parts => uptoBulkAll parts + 1
  | .iface _ d => uptoBulk d + 1
  | .map entries => uptoBulkEntries entries + 1
  | .held _ => 1
def uptoBulkAll {H : Type} : List (DataW H) → Nat
  | [] => 0
  | d :: r => uptoBulk d + uptoBulkAll r
def uptoBulkEntries {H : Type} : List (Lit × DataW H) → Nat
  | [] => 0
  | x :: r => uptoBulkEntry x + uptoBulkEntries r
def uptoBulkEntry {H : Type} : Lit × DataW H → Nat
  | (.string bytes, d) => bytes.length + uptoBulk d + 1
  | (_, d) => uptoBulk d + 1
 end
def uptoSmall : (H : Type) → List (DataW H) → Bool := fun _ ds => decide (uptoBulkAll ds ≤ 1048576)
def OpenSpec.upto (s : _root_.Go.ChangeSpec) : _root_.Go.OpenSpec := { _root_.Go.OpenSpec.ofChange s with cond := some uptoSmall }

/-- 'laws.FnSerialDiffBack', WHERE WHAT IT READS IS OF BULK AT MOST 1048576: true; the input reads as it did. -/
def fnSerialDiffBackUptoRow : OpenClaim := { program := "ytekcnebcflpibaa", sum := "c70451f04adcc78c1962538d349cd933423a97e4210fd2bd21b204945151f166", func := "loop.example/capturemonitor/laws.FnSerialDiffBack", spec := "fnSerialDiffBack", apart := false, narrowed := true }
def FnSerialDiffBackUptoSaid : Prop := fnSerialDiffBackUptoRow.holds Try.pinned (OpenSpec.upto fnSerialDiffBackSpec)

/-- 'laws.FnSerialDiffBad', WHERE WHAT IT READS IS OF BULK AT MOST 1048576: true; the input reads as it did. -/
def fnSerialDiffBadUptoRow : OpenClaim := { program := "ytekcnebcflpibaa", sum := "c70451f04adcc78c1962538d349cd933423a97e4210fd2bd21b204945151f166", func := "loop.example/capturemonitor/laws.FnSerialDiffBad", spec := "fnSerialDiffBad", apart := false, narrowed := true }
def FnSerialDiffBadUptoSaid : Prop := fnSerialDiffBadUptoRow.holds Try.pinned (OpenSpec.upto fnSerialDiffBadSpec)

/-- 'laws.FnSerialLess', WHERE WHAT IT READS IS OF BULK AT MOST 1048576: true; the input reads as it did. -/
def fnSerialLessUptoRow : OpenClaim := { program := "ytekcnebcflpibaa", sum := "c70451f04adcc78c1962538d349cd933423a97e4210fd2bd21b204945151f166", func := "loop.example/capturemonitor/laws.FnSerialLess", spec := "fnSerialLess", apart := false, narrowed := true }
def FnSerialLessUptoSaid : Prop := fnSerialLessUptoRow.holds Try.pinned (OpenSpec.upto fnSerialLessSpec)

/-- 'laws.FnSerialDiff', WHERE WHAT IT READS IS OF BULK AT MOST 1048576: true; the input reads as it did. -/
def fnSerialDiffUptoRow : OpenClaim := { program := "ytekcnebcflpibaa", sum := "c70451f04adcc78c1962538d349cd933423a97e4210fd2bd21b204945151f166", func := "loop.example/capturemonitor/laws.FnSerialDiff", spec := "fnSerialDiff", apart := false, narrowed := true }
def FnSerialDiffUptoSaid : Prop := fnSerialDiffUptoRow.holds Try.pinned (OpenSpec.upto fnSerialDiffSpec)

/-- 'laws.FnSerialDiffAdd', WHERE WHAT IT READS IS OF BULK AT MOST 1048576: true; the input reads as it did. -/
def fnSerialDiffAddUptoRow : OpenClaim := { program := "ytekcnebcflpibaa", sum := "c70451f04adcc78c1962538d349cd933423a97e4210fd2bd21b204945151f166", func := "loop.example/capturemonitor/laws.FnSerialDiffAdd", spec := "fnSerialDiffAdd", apart := false, narrowed := true }
def FnSerialDiffAddUptoSaid : Prop := fnSerialDiffAddUptoRow.holds Try.pinned (OpenSpec.upto fnSerialDiffAddSpec)

/-- 'laws.FnSerialDiffMove', WHERE WHAT IT READS IS OF BULK AT MOST 1048576: true; the input reads as it did. -/
def fnSerialDiffMoveUptoRow : OpenClaim := { program := "ytekcnebcflpibaa", sum := "c70451f04adcc78c1962538d349cd933423a97e4210fd2bd21b204945151f166", func := "loop.example/capturemonitor/laws.FnSerialDiffMove", spec := "fnSerialDiffMove", apart := false, narrowed := true }
def FnSerialDiffMoveUptoSaid : Prop := fnSerialDiffMoveUptoRow.holds Try.pinned (OpenSpec.upto fnSerialDiffMoveSpec)

/-- 'laws.FnSerialLessHalf', WHERE WHAT IT READS IS OF BULK AT MOST 1048576: true; the input reads as it did. -/
def fnSerialLessHalfUptoRow : OpenClaim := { program := "ytekcnebcflpibaa", sum := "c70451f04adcc78c1962538d349cd933423a97e4210fd2bd21b204945151f166", func := "loop.example/capturemonitor/laws.FnSerialLessHalf", spec := "fnSerialLessHalf", apart := false, narrowed := true }
def FnSerialLessHalfUptoSaid : Prop := fnSerialLessHalfUptoRow.holds Try.pinned (OpenSpec.upto fnSerialLessHalfSpec)

end Rows
end Go.Proofs.Ytekcnebcflpibaa
