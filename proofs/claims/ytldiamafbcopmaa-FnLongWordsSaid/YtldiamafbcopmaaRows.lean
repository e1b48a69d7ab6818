/-
  No cell of these rows narrows 'for every input' (looked for: loops, veiled, ifaces, maps, wideKeys, modest, calm, conditions, laid).
  DERIVED. THE GIVEN ROWS OF THIS SEAT. 9 by the template 'for every input the law returns true; each argument reads behind the call as it read before'; 0 by the template 'total and deterministic' (their statements: YtldiamafbcopmaaTotals.lean).
  GIVEN WITH THE SEED: the statements are not yours to turn. If you find one false, say at which input.
  Laid BY PROGRAM, IN A SANDBOX (cutbox-rows.mjs): the forced cells as the released guide's own fill.sh prints them over the translation 40700d6aa163de9a… (all of the seat's roots in one cut). By AI agents, Wed Nov 11 2026. No macro, syntax, notation, axiom, sorry.
-/
import Derived.Test.YtldiamafbcopmaaChecked
import GoSem.Claim
import GoSem.ClaimJoined
import GoSem.ClaimMapViews
import Derived.JoinedTies
import Derived.KernelRfl
namespace Go.Proofs.Ytldiamafbcopmaa
/- THE CELL 'sum', in the pinned program and in every row, IS THE sha256 OF THE DUMP (.gsa) THAT YtldiamafbcopmaaProg.lean LOADS. Nothing in Lean hashes anything: it is a label: what it is worth is what the hold of that sum in a sandbox is worth. -/
noncomputable def Try.pinned : Pinned := { name := "ytldiamafbcopmaa", sum := "40700d6aa163de9a47b38067977e839c51db792bc6d69412c67f1fa25663e341", checked := Try.checked }
namespace Rows
def none {H : Type} : Left H := { results := [], args := [] }

/-- 'laws.FnWordGetMove': WHATEVER THE INPUT: true; the input reads as it did. -/
def fnWordGetMoveSpec : ChangeSpec := { name := "fnWordGetMove", fn := fun _ => fun
  | [d1, d2] => { results := [.lit (.bool true)], args := [d1, d2] }
  | _ => none }
def fnWordGetMoveRow : OpenClaim := { program := "ytldiamafbcopmaa", sum := "40700d6aa163de9a47b38067977e839c51db792bc6d69412c67f1fa25663e341", func := "loop.example/capturemonitor/laws.FnWordGetMove", spec := "fnWordGetMove", apart := false }
def FnWordGetMoveSaid : Prop := fnWordGetMoveRow.holds Try.pinned (OpenSpec.ofChange fnWordGetMoveSpec)

/-- ITS FALSE NEIGHBOUR: 'it returns false'. Refute it at one input. -/
def fnWordGetMoveWrong : ChangeSpec := { name := "fnWordGetMove", fn := fun _ => fun
  | [d1, d2] => { results := [.lit (.bool false)], args := [d1, d2] }
  | _ => none }
def FnWordGetMoveWrongFalsely : Prop := fnWordGetMoveRow.holds Try.pinned (OpenSpec.ofChange fnWordGetMoveWrong)

/-- 'laws.FnWordGetPlace': WHATEVER THE INPUT: true; the input reads as it did. -/
def fnWordGetPlaceSpec : ChangeSpec := { name := "fnWordGetPlace", fn := fun _ => fun
  | [d] => { results := [.lit (.bool true)], args := [d] }
  | _ => none }
def fnWordGetPlaceRow : OpenClaim := { program := "ytldiamafbcopmaa", sum := "40700d6aa163de9a47b38067977e839c51db792bc6d69412c67f1fa25663e341", func := "loop.example/capturemonitor/laws.FnWordGetPlace", spec := "fnWordGetPlace", apart := false }
def FnWordGetPlaceSaid : Prop := fnWordGetPlaceRow.holds Try.pinned (OpenSpec.ofChange fnWordGetPlaceSpec)

/-- ITS FALSE NEIGHBOUR: 'it returns false'. Refute it at one input. -/
def fnWordGetPlaceWrong : ChangeSpec := { name := "fnWordGetPlace", fn := fun _ => fun
  | [d] => { results := [.lit (.bool false)], args := [d] }
  | _ => none }
def FnWordGetPlaceWrongFalsely : Prop := fnWordGetPlaceRow.holds Try.pinned (OpenSpec.ofChange fnWordGetPlaceWrong)

/-- 'laws.FnWordPutRange': WHATEVER THE INPUT: true; the input reads as it did. -/
def fnWordPutRangeSpec : ChangeSpec := { name := "fnWordPutRange", fn := fun _ => fun
  | [d] => { results := [.lit (.bool true)], args := [d] }
  | _ => none }
def fnWordPutRangeRow : OpenClaim := { program := "ytldiamafbcopmaa", sum := "40700d6aa163de9a47b38067977e839c51db792bc6d69412c67f1fa25663e341", func := "loop.example/capturemonitor/laws.FnWordPutRange", spec := "fnWordPutRange", apart := false }
def FnWordPutRangeSaid : Prop := fnWordPutRangeRow.holds Try.pinned (OpenSpec.ofChange fnWordPutRangeSpec)

/-- ITS FALSE NEIGHBOUR: 'it returns false'. Refute it at one input. -/
def fnWordPutRangeWrong : ChangeSpec := { name := "fnWordPutRange", fn := fun _ => fun
  | [d] => { results := [.lit (.bool false)], args := [d] }
  | _ => none }
def FnWordPutRangeWrongFalsely : Prop := fnWordPutRangeRow.holds Try.pinned (OpenSpec.ofChange fnWordPutRangeWrong)

/-- 'laws.FnWordGet': WHATEVER THE INPUT: true; the input reads as it did. -/
def fnWordGetSpec : ChangeSpec := { name := "fnWordGet", fn := fun _ => fun
  | [d] => { results := [.lit (.bool true)], args := [d] }
  | _ => none }
def fnWordGetRow : OpenClaim := { program := "ytldiamafbcopmaa", sum := "40700d6aa163de9a47b38067977e839c51db792bc6d69412c67f1fa25663e341", func := "loop.example/capturemonitor/laws.FnWordGet", spec := "fnWordGet", apart := false }
def FnWordGetSaid : Prop := fnWordGetRow.holds Try.pinned (OpenSpec.ofChange fnWordGetSpec)

/-- ITS FALSE NEIGHBOUR: 'it returns false'. Refute it at one input. -/
def fnWordGetWrong : ChangeSpec := { name := "fnWordGet", fn := fun _ => fun
  | [d] => { results := [.lit (.bool false)], args := [d] }
  | _ => none }
def FnWordGetWrongFalsely : Prop := fnWordGetRow.holds Try.pinned (OpenSpec.ofChange fnWordGetWrong)

/-- 'laws.FnWordPut': WHATEVER THE INPUT: true; the input reads as it did. -/
def fnWordPutSpec : ChangeSpec := { name := "fnWordPut", fn := fun _ => fun
  | [d] => { results := [.lit (.bool true)], args := [d] }
  | _ => none }
def fnWordPutRow : OpenClaim := { program := "ytldiamafbcopmaa", sum := "40700d6aa163de9a47b38067977e839c51db792bc6d69412c67f1fa25663e341", func := "loop.example/capturemonitor/laws.FnWordPut", spec := "fnWordPut", apart := false }
def FnWordPutSaid : Prop := fnWordPutRow.holds Try.pinned (OpenSpec.ofChange fnWordPutSpec)

/-- ITS FALSE NEIGHBOUR: 'it returns false'. Refute it at one input. -/
def fnWordPutWrong : ChangeSpec := { name := "fnWordPut", fn := fun _ => fun
  | [d] => { results := [.lit (.bool false)], args := [d] }
  | _ => none }
def FnWordPutWrongFalsely : Prop := fnWordPutRow.holds Try.pinned (OpenSpec.ofChange fnWordPutWrong)

/-- 'laws.FnLongGet': WHATEVER THE INPUT: true; the input reads as it did. -/
def fnLongGetSpec : ChangeSpec := { name := "fnLongGet", fn := fun _ => fun
  | [d] => { results := [.lit (.bool true)], args := [d] }
  | _ => none }
def fnLongGetRow : OpenClaim := { program := "ytldiamafbcopmaa", sum := "40700d6aa163de9a47b38067977e839c51db792bc6d69412c67f1fa25663e341", func := "loop.example/capturemonitor/laws.FnLongGet", spec := "fnLongGet", apart := false }
def FnLongGetSaid : Prop := fnLongGetRow.holds Try.pinned (OpenSpec.ofChange fnLongGetSpec)

/-- ITS FALSE NEIGHBOUR: 'it returns false'. Refute it at one input. -/
def fnLongGetWrong : ChangeSpec := { name := "fnLongGet", fn := fun _ => fun
  | [d] => { results := [.lit (.bool false)], args := [d] }
  | _ => none }
def FnLongGetWrongFalsely : Prop := fnLongGetRow.holds Try.pinned (OpenSpec.ofChange fnLongGetWrong)

/-- 'laws.FnLongPutRange': WHATEVER THE INPUT: true; the input reads as it did. -/
def fnLongPutRangeSpec : ChangeSpec := { name := "fnLongPutRange", fn := fun _ => fun
  | [d] => { results := [.lit (.bool true)], args := [d] }
  | _ => none }
def fnLongPutRangeRow : OpenClaim := { program := "ytldiamafbcopmaa", sum := "40700d6aa163de9a47b38067977e839c51db792bc6d69412c67f1fa25663e341", func := "loop.example/capturemonitor/laws.FnLongPutRange", spec := "fnLongPutRange", apart := false }
def FnLongPutRangeSaid : Prop := fnLongPutRangeRow.holds Try.pinned (OpenSpec.ofChange fnLongPutRangeSpec)

/-- ITS FALSE NEIGHBOUR: 'it returns false'. Refute it at one input. -/
def fnLongPutRangeWrong : ChangeSpec := { name := "fnLongPutRange", fn := fun _ => fun
  | [d] => { results := [.lit (.bool false)], args := [d] }
  | _ => none }
def FnLongPutRangeWrongFalsely : Prop := fnLongPutRangeRow.holds Try.pinned (OpenSpec.ofChange fnLongPutRangeWrong)

/-- 'laws.FnLongPut': WHATEVER THE INPUT: true; the input reads as it did. -/
def fnLongPutSpec : ChangeSpec := { name := "fnLongPut", fn := fun _ => fun
  | [d] => { results := [.lit (.bool true)], args := [d] }
  | _ => none }
def fnLongPutRow : OpenClaim := { program := "ytldiamafbcopmaa", sum := "40700d6aa163de9a47b38067977e839c51db792bc6d69412c67f1fa25663e341", func := "loop.example/capturemonitor/laws.FnLongPut", spec := "fnLongPut", apart := false }
def FnLongPutSaid : Prop := fnLongPutRow.holds Try.pinned (OpenSpec.ofChange fnLongPutSpec)

/-- ITS FALSE NEIGHBOUR: 'it returns false'. Refute it at one input. -/
def fnLongPutWrong : ChangeSpec := { name := "fnLongPut", fn := fun _ => fun
  | [d] => { results := [.lit (.bool false)], args := [d] }
  | _ => none }
def FnLongPutWrongFalsely : Prop := fnLongPutRow.holds Try.pinned (OpenSpec.ofChange fnLongPutWrong)

/-- 'laws.FnLongWords': WHATEVER THE INPUT: true; the input reads as it did. -/
def fnLongWordsSpec : ChangeSpec := { name := "fnLongWords", fn := fun _ => fun
  | [d] => { results := [.lit (.bool true)], args := [d] }
  | _ => none }
def fnLongWordsRow : OpenClaim := { program := "ytldiamafbcopmaa", sum := "40700d6aa163de9a47b38067977e839c51db792bc6d69412c67f1fa25663e341", func := "loop.example/capturemonitor/laws.FnLongWords", spec := "fnLongWords", apart := false }
def FnLongWordsSaid : Prop := fnLongWordsRow.holds Try.pinned (OpenSpec.ofChange fnLongWordsSpec)

/-- ITS FALSE NEIGHBOUR: 'it returns false'. Refute it at one input. -/
def fnLongWordsWrong : ChangeSpec := { name := "fnLongWords", fn := fun _ => fun
  | [d] => { results := [.lit (.bool false)], args := [d] }
  | _ => none }
def FnLongWordsWrongFalsely : Prop := fnLongWordsRow.holds Try.pinned (OpenSpec.ofChange fnLongWordsWrong)

/- THE SECOND FORM. 'bulk': how many values and letters a reading holds, each counted each time it is reached (what is shared counts as often as it is met; a slice's spare places count too). A statement '..UptoSaid' is the law's where the arguments, and the package variables that the reading takes, are together of bulk at most 1048576: NARROWER than '..Said'. Prove '..Said' where nothing that the law and all that it calls make is longer than what came in: it says more and counts as full. Else prove '..UptoSaid'. A law counts once. -/
mutual
def uptoBulk {H : Type} : DataW H → Nat
  | .lit (.string bytes) => bytes.length + 1
  | .lit _ => 1
  | .nil => 1
  | .ptr d => uptoBulk d + 1
  | .slice elems spare => uptoBulkAll elems + uptoBulkAll spare + 1
  | .agg parts => uptoBulkAll parts + 1
  | .iface _ d => uptoBulk d + 1
  | .map entries => uptoBulkEntries entries + 1
  | .held _ => 1
def uptoBulkAll {H : Type} : List (DataW H) → Nat
  | [] => 0
  | d :: r => uptoBulk d + uptoBulkAll r
def uptoBulkEntries {H : Type} : List (Lit × DataW H) → Nat
  | [] => 0
  | x :: r => uptoBulkEntry x + uptoBulkEntries r
def uptoBulkEntry {H : Type} : Lit × DataW H → Nat
  | (.string bytes, d) => bytes.length + uptoBulk d + 1
  | (_, d) => uptoBulk d + 1
 end
def uptoSmall : (H : Type) → List (DataW H) → Bool := fun _ ds => decide (uptoBulkAll ds ≤ 1048576)
def OpenSpec.upto (s : _root_.Go.ChangeSpec) : _root_.Go.OpenSpec := { _root_.Go.OpenSpec.ofChange s with cond := some uptoSmall }

/-- 'laws.FnWordGetMove', WHERE WHAT IT READS IS OF BULK AT MOST 1048576: true; the input reads as it did. -/
def fnWordGetMoveUptoRow : OpenClaim := { program := "ytldiamafbcopmaa", sum := "40700d6aa163de9a47b38067977e839c51db792bc6d69412c67f1fa25663e341", func := "loop.example/capturemonitor/laws.FnWordGetMove", spec := "fnWordGetMove", apart := false, narrowed := true }
def FnWordGetMoveUptoSaid : Prop := fnWordGetMoveUptoRow.holds Try.pinned (OpenSpec.upto fnWordGetMoveSpec)

/-- 'laws.FnWordGetPlace', WHERE WHAT IT READS IS OF BULK AT MOST 1048576: true; the input reads as it did. -/
def fnWordGetPlaceUptoRow : OpenClaim := { program := "ytldiamafbcopmaa", sum := "40700d6aa163de9a47b38067977e839c51db792bc6d69412c67f1fa25663e341", func := "loop.example/capturemonitor/laws.FnWordGetPlace", spec := "fnWordGetPlace", apart := false, narrowed := true }
def FnWordGetPlaceUptoSaid : Prop := fnWordGetPlaceUptoRow.holds Try.pinned (OpenSpec.upto fnWordGetPlaceSpec)

/-- 'laws.FnWordPutRange', WHERE WHAT IT READS IS OF BULK AT MOST 1048576: true; the input reads as it did. -/
def fnWordPutRangeUptoRow : OpenClaim := { program := "ytldiamafbcopmaa", sum := "40700d6aa163de9a47b38067977e839c51db792bc6d69412c67f1fa25663e341", func := "loop.example/capturemonitor/laws.FnWordPutRange", spec := "fnWordPutRange", apart := false, narrowed := true }
def FnWordPutRangeUptoSaid : Prop := fnWordPutRangeUptoRow.holds Try.pinned (OpenSpec.upto fnWordPutRangeSpec)

/-- 'laws.FnWordGet', WHERE WHAT IT READS IS OF BULK AT MOST 1048576: true; the input reads as it did. -/
def fnWordGetUptoRow : OpenClaim := { program := "ytldiamafbcopmaa", sum := "40700d6aa163de9a47b38067977e839c51db792bc6d69412c67f1fa25663e341", func := "loop.example/capturemonitor/laws.FnWordGet", spec := "fnWordGet", apart := false, narrowed := true }
def FnWordGetUptoSaid : Prop := fnWordGetUptoRow.holds Try.pinned (OpenSpec.upto fnWordGetSpec)

/-- 'laws.FnWordPut', WHERE WHAT IT READS IS OF BULK AT MOST 1048576: true; the input reads as it did. -/
def fnWordPutUptoRow : OpenClaim := { program := "ytldiamafbcopmaa", sum := "40700d6aa163de9a47b38067977e839c51db792bc6d69412c67f1fa25663e341", func := "loop.example/capturemonitor/laws.FnWordPut", spec := "fnWordPut", apart := false, narrowed := true }
def FnWordPutUptoSaid : Prop := fnWordPutUptoRow.holds Try.pinned (OpenSpec.upto fnWordPutSpec)

/-- 'laws.FnLongGet', WHERE WHAT IT READS IS OF BULK AT MOST 1048576: true; the input reads as it did. -/
def fnLongGetUptoRow : OpenClaim := { program := "ytldiamafbcopmaa", sum := "40700d6aa163de9a47b38067977e839c51db792bc6d69412c67f1fa25663e341", func := "loop.example/capturemonitor/laws.FnLongGet", spec := "fnLongGet", apart := false, narrowed := true }
def FnLongGetUptoSaid : Prop := fnLongGetUptoRow.holds Try.pinned (OpenSpec.upto fnLongGetSpec)

/-- 'laws.FnLongPutRange', WHERE WHAT IT READS IS OF BULK AT MOST 1048576: true; the input reads as it did. -/
def fnLongPutRangeUptoRow : OpenClaim := { program := "ytldiamafbcopmaa", sum := "40700d6aa163de9a47b38067977e839c51db792bc6d69412c67f1fa25663e341", func := "loop.example/capturemonitor/laws.FnLongPutRange", spec := "fnLongPutRange", apart := false, narrowed := true }
def FnLongPutRangeUptoSaid : Prop := fnLongPutRangeUptoRow.holds Try.pinned (OpenSpec.upto fnLongPutRangeSpec)

/-- 'laws.FnLongPut', WHERE WHAT IT READS IS OF BULK AT MOST 1048576: true; the input reads as it did. -/
def fnLongPutUptoRow : OpenClaim := { program := "ytldiamafbcopmaa", sum := "40700d6aa163de9a47b38067977e839c51db792bc6d69412c67f1fa25663e341", func := "loop.example/capturemonitor/laws.FnLongPut", spec := "fnLongPut", apart := false, narrowed := true }
def FnLongPutUptoSaid : Prop := fnLongPutUptoRow.holds Try.pinned (OpenSpec.upto fnLongPutSpec)

/-- 'laws.FnLongWords', WHERE WHAT IT READS IS OF BULK AT MOST 1048576: true; the input reads as it did. -/
def fnLongWordsUptoRow : OpenClaim := { program := "ytldiamafbcopmaa", sum := "40700d6aa163de9a47b38067977e839c51db792bc6d69412c67f1fa25663e341", func := "loop.example/capturemonitor/laws.FnLongWords", spec := "fnLongWords", apart := false, narrowed := true }
def FnLongWordsUptoSaid : Prop := fnLongWordsUptoRow.holds Try.pinned (OpenSpec.upto fnLongWordsSpec)

end Rows
end Go.Proofs.Ytldiamafbcopmaa
