/-
  No cell of these rows narrows 'for every input' (looked for: loops, veiled, ifaces, maps, wideKeys, modest, calm, conditions, laid).
  DERIVED. THE GIVEN ROWS OF THIS SEAT. 7 by the template 'for every input the law returns true; each argument reads behind the call as it read before'; 0 by the template 'total and deterministic' (their statements: YtdgkhgengjnjjaaTotals.lean).
  GIVEN WITH THE SEED: the statements are not yours to turn. If you find one false, say at which input.
  Laid BY PROGRAM, IN A SANDBOX (cutbox-rows.mjs): the forced cells as the released guide's own fill.sh prints them over the translation a05b5768bd2e19de… (all of the seat's roots in one cut). By AI agents, Wed Nov 11 2026. No macro, syntax, notation, axiom, sorry.
-/
import Derived.Test.YtdgkhgengjnjjaaChecked
import GoSem.Claim
import GoSem.ClaimJoined
import GoSem.ClaimMapViews
import Derived.JoinedTies
import Derived.KernelRfl
namespace Go.Proofs.Ytdgkhgengjnjjaa
/- THE CELL 'sum', in the pinned program and in every row, IS THE sha256 OF THE DUMP (.gsa) THAT YtdgkhgengjnjjaaProg.lean LOADS. Nothing in Lean hashes anything: it is a label: what it is worth is what the hold of that sum in a sandbox is worth. -/
noncomputable def Try.pinned : Pinned := { name := "ytdgkhgengjnjjaa", sum := "a05b5768bd2e19de38213ee59a9d0e7d3e80df3085ba63dbe67d376d00ac3895", checked := Try.checked }
namespace Rows
def none {H : Type} : Left H := { results := [], args := [] }

/-- 'laws.FnExactConstants': WHATEVER THE INPUT: true; the input reads as it did. -/
def fnExactConstantsSpec : ChangeSpec := { name := "fnExactConstants", fn := fun _ => fun
  | [] => { results := [.lit (.bool true)], args := [] }
  | _ => none }
def fnExactConstantsRow : OpenClaim := { program := "ytdgkhgengjnjjaa", sum := "a05b5768bd2e19de38213ee59a9d0e7d3e80df3085ba63dbe67d376d00ac3895", func := "loop.example/capturemonitor/laws.FnExactConstants", spec := "fnExactConstants", apart := false }
def FnExactConstantsSaid : Prop := fnExactConstantsRow.holds Try.pinned (OpenSpec.ofChange fnExactConstantsSpec)

/-- ITS FALSE NEIGHBOUR: 'it returns false'. Refute it at one input. -/
def fnExactConstantsWrong : ChangeSpec := { name := "fnExactConstants", fn := fun _ => fun
  | [] => { results := [.lit (.bool false)], args := [] }
  | _ => none }
def FnExactConstantsWrongFalsely : Prop := fnExactConstantsRow.holds Try.pinned (OpenSpec.ofChange fnExactConstantsWrong)

/-- 'laws.FnExactLongGet': WHATEVER THE INPUT: true; the input reads as it did. -/
def fnExactLongGetSpec : ChangeSpec := { name := "fnExactLongGet", fn := fun _ => fun
  | [d1, d2] => { results := [.lit (.bool true)], args := [d1, d2] }
  | _ => none }
def fnExactLongGetRow : OpenClaim := { program := "ytdgkhgengjnjjaa", sum := "a05b5768bd2e19de38213ee59a9d0e7d3e80df3085ba63dbe67d376d00ac3895", func := "loop.example/capturemonitor/laws.FnExactLongGet", spec := "fnExactLongGet", apart := false }
def FnExactLongGetSaid : Prop := fnExactLongGetRow.holds Try.pinned (OpenSpec.ofChange fnExactLongGetSpec)

/-- ITS FALSE NEIGHBOUR: 'it returns false'. Refute it at one input. -/
def fnExactLongGetWrong : ChangeSpec := { name := "fnExactLongGet", fn := fun _ => fun
  | [d1, d2] => { results := [.lit (.bool false)], args := [d1, d2] }
  | _ => none }
def FnExactLongGetWrongFalsely : Prop := fnExactLongGetRow.holds Try.pinned (OpenSpec.ofChange fnExactLongGetWrong)

/-- 'laws.FnExactWordGet': WHATEVER THE INPUT: true; the input reads as it did. -/
def fnExactWordGetSpec : ChangeSpec := { name := "fnExactWordGet", fn := fun _ => fun
  | [d1, d2] => { results := [.lit (.bool true)], args := [d1, d2] }
  | _ => none }
def fnExactWordGetRow : OpenClaim := { program := "ytdgkhgengjnjjaa", sum := "a05b5768bd2e19de38213ee59a9d0e7d3e80df3085ba63dbe67d376d00ac3895", func := "loop.example/capturemonitor/laws.FnExactWordGet", spec := "fnExactWordGet", apart := false }
def FnExactWordGetSaid : Prop := fnExactWordGetRow.holds Try.pinned (OpenSpec.ofChange fnExactWordGetSpec)

/-- ITS FALSE NEIGHBOUR: 'it returns false'. Refute it at one input. -/
def fnExactWordGetWrong : ChangeSpec := { name := "fnExactWordGet", fn := fun _ => fun
  | [d1, d2] => { results := [.lit (.bool false)], args := [d1, d2] }
  | _ => none }
def FnExactWordGetWrongFalsely : Prop := fnExactWordGetRow.holds Try.pinned (OpenSpec.ofChange fnExactWordGetWrong)

/-- 'laws.FnExactWordPut': WHATEVER THE INPUT: true; the input reads as it did. -/
def fnExactWordPutSpec : ChangeSpec := { name := "fnExactWordPut", fn := fun _ => fun
  | [d] => { results := [.lit (.bool true)], args := [d] }
  | _ => none }
def fnExactWordPutRow : OpenClaim := { program := "ytdgkhgengjnjjaa", sum := "a05b5768bd2e19de38213ee59a9d0e7d3e80df3085ba63dbe67d376d00ac3895", func := "loop.example/capturemonitor/laws.FnExactWordPut", spec := "fnExactWordPut", apart := false }
def FnExactWordPutSaid : Prop := fnExactWordPutRow.holds Try.pinned (OpenSpec.ofChange fnExactWordPutSpec)

/-- ITS FALSE NEIGHBOUR: 'it returns false'. Refute it at one input. -/
def fnExactWordPutWrong : ChangeSpec := { name := "fnExactWordPut", fn := fun _ => fun
  | [d] => { results := [.lit (.bool false)], args := [d] }
  | _ => none }
def FnExactWordPutWrongFalsely : Prop := fnExactWordPutRow.holds Try.pinned (OpenSpec.ofChange fnExactWordPutWrong)

/-- 'laws.FnExactLongPut': WHATEVER THE INPUT: true; the input reads as it did. -/
def fnExactLongPutSpec : ChangeSpec := { name := "fnExactLongPut", fn := fun _ => fun
  | [d] => { results := [.lit (.bool true)], args := [d] }
  | _ => none }
def fnExactLongPutRow : OpenClaim := { program := "ytdgkhgengjnjjaa", sum := "a05b5768bd2e19de38213ee59a9d0e7d3e80df3085ba63dbe67d376d00ac3895", func := "loop.example/capturemonitor/laws.FnExactLongPut", spec := "fnExactLongPut", apart := false }
def FnExactLongPutSaid : Prop := fnExactLongPutRow.holds Try.pinned (OpenSpec.ofChange fnExactLongPutSpec)

/-- ITS FALSE NEIGHBOUR: 'it returns false'. Refute it at one input. -/
def fnExactLongPutWrong : ChangeSpec := { name := "fnExactLongPut", fn := fun _ => fun
  | [d] => { results := [.lit (.bool false)], args := [d] }
  | _ => none }
def FnExactLongPutWrongFalsely : Prop := fnExactLongPutRow.holds Try.pinned (OpenSpec.ofChange fnExactLongPutWrong)

/-- 'laws.FnExactHexPut': WHATEVER THE INPUT: true; the input reads as it did. -/
def fnExactHexPutSpec : ChangeSpec := { name := "fnExactHexPut", fn := fun _ => fun
  | [d] => { results := [.lit (.bool true)], args := [d] }
  | _ => none }
def fnExactHexPutRow : OpenClaim := { program := "ytdgkhgengjnjjaa", sum := "a05b5768bd2e19de38213ee59a9d0e7d3e80df3085ba63dbe67d376d00ac3895", func := "loop.example/capturemonitor/laws.FnExactHexPut", spec := "fnExactHexPut", apart := false }
def FnExactHexPutSaid : Prop := fnExactHexPutRow.holds Try.pinned (OpenSpec.ofChange fnExactHexPutSpec)

/-- ITS FALSE NEIGHBOUR: 'it returns false'. Refute it at one input. -/
def fnExactHexPutWrong : ChangeSpec := { name := "fnExactHexPut", fn := fun _ => fun
  | [d] => { results := [.lit (.bool false)], args := [d] }
  | _ => none }
def FnExactHexPutWrongFalsely : Prop := fnExactHexPutRow.holds Try.pinned (OpenSpec.ofChange fnExactHexPutWrong)

/-- 'laws.FnExactHexGet': WHATEVER THE INPUT: true; the input reads as it did. -/
def fnExactHexGetSpec : ChangeSpec := { name := "fnExactHexGet", fn := fun _ => fun
  | [d] => { results := [.lit (.bool true)], args := [d] }
  | _ => none }
def fnExactHexGetRow : OpenClaim := { program := "ytdgkhgengjnjjaa", sum := "a05b5768bd2e19de38213ee59a9d0e7d3e80df3085ba63dbe67d376d00ac3895", func := "loop.example/capturemonitor/laws.FnExactHexGet", spec := "fnExactHexGet", apart := false }
def FnExactHexGetSaid : Prop := fnExactHexGetRow.holds Try.pinned (OpenSpec.ofChange fnExactHexGetSpec)

/-- ITS FALSE NEIGHBOUR: 'it returns false'. Refute it at one input. -/
def fnExactHexGetWrong : ChangeSpec := { name := "fnExactHexGet", fn := fun _ => fun
  | [d] => { results := [.lit (.bool false)], args := [d] }
  | _ => none }
def FnExactHexGetWrongFalsely : Prop := fnExactHexGetRow.holds Try.pinned (OpenSpec.ofChange fnExactHexGetWrong)

/- THE SECOND FORM. 'bulk': how many values and letters a reading holds, each counted each time it is reached (what is shared counts as often as it is met; a slice's spare places count too). A statement '..UptoSaid' is the law's where the arguments, and the package variables that the reading takes, are together of bulk at most 1048576: NARROWER than '..Said'. Prove '..Said' where nothing that the law and all that it calls make is longer than what came in: it says more and counts as full. Else prove '..UptoSaid'. A law counts once. -/
mutual
def uptoBulk {H : Type} : DataW H → Nat
  | .lit (.string bytes) => bytes.length + 1
  | .lit _ => 1
  | .nil => 1
  | .ptr d => uptoBulk d + 1
  | .slice elems spare => uptoBulkAll elems + uptoBulkAll spare + 1
  | .agg parts => uptoBulkAll parts + 1
  | .iface _ d => uptoBulk d + 1
  | .map entries => uptoBulkEntries entries + 1
  | .held _ => 1
def uptoBulkAll {H : Type} : List (DataW H) → Nat
  | [] => 0
  | d :: r => uptoBulk d + uptoBulkAll r
def uptoBulkEntries {H : Type} : List (Lit × DataW H) → Nat
  | [] => 0
  | x :: r => uptoBulkEntry x + uptoBulkEntries r
def uptoBulkEntry {H : Type} : Lit × DataW H → Nat
  | (.string bytes, d) => bytes.length + uptoBulk d + 1
  | (_, d) => uptoBulk d + 1
 end
def uptoSmall : (H : Type) → List (DataW H) → Bool := fun _ ds => decide (uptoBulkAll ds ≤ 1048576)
def OpenSpec.upto (s : _root_.Go.ChangeSpec) : _root_.Go.OpenSpec := { _root_.Go.OpenSpec.ofChange s with cond := some uptoSmall }

/-- 'laws.FnExactConstants', WHERE WHAT IT READS IS OF BULK AT MOST 1048576: true; the input reads as it did. -/
def fnExactConstantsUptoRow : OpenClaim := { program := "ytdgkhgengjnjjaa", sum := "a05b5768bd2e19de38213ee59a9d0e7d3e80df3085ba63dbe67d376d00ac3895", func := "loop.example/capturemonitor/laws.FnExactConstants", spec := "fnExactConstants", apart := false, narrowed := true }
def FnExactConstantsUptoSaid : Prop := fnExactConstantsUptoRow.holds Try.pinned (OpenSpec.upto fnExactConstantsSpec)

/-- 'laws.FnExactLongGet', WHERE WHAT IT READS IS OF BULK AT MOST 1048576: true; the input reads as it did. -/
def fnExactLongGetUptoRow : OpenClaim := { program := "ytdgkhgengjnjjaa", sum := "a05b5768bd2e19de38213ee59a9d0e7d3e80df3085ba63dbe67d376d00ac3895", func := "loop.example/capturemonitor/laws.FnExactLongGet", spec := "fnExactLongGet", apart := false, narrowed := true }
def FnExactLongGetUptoSaid : Prop := fnExactLongGetUptoRow.holds Try.pinned (OpenSpec.upto fnExactLongGetSpec)

/-- 'laws.FnExactWordGet', WHERE WHAT IT READS IS OF BULK AT MOST 1048576: true; the input reads as it did. -/
def fnExactWordGetUptoRow : OpenClaim := { program := "ytdgkhgengjnjjaa", sum := "a05b5768bd2e19de38213ee59a9d0e7d3e80df3085ba63dbe67d376d00ac3895", func := "loop.example/capturemonitor/laws.FnExactWordGet", spec := "fnExactWordGet", apart := false, narrowed := true }
def FnExactWordGetUptoSaid : Prop := fnExactWordGetUptoRow.holds Try.pinned (OpenSpec.upto fnExactWordGetSpec)

/-- 'laws.FnExactWordPut', WHERE WHAT IT READS IS OF BULK AT MOST 1048576: true; the input reads as it did. -/
def fnExactWordPutUptoRow : OpenClaim := { program := "ytdgkhgengjnjjaa", sum := "a05b5768bd2e19de38213ee59a9d0e7d3e80df3085ba63dbe67d376d00ac3895", func := "loop.example/capturemonitor/laws.FnExactWordPut", spec := "fnExactWordPut", apart := false, narrowed := true }
def FnExactWordPutUptoSaid : Prop := fnExactWordPutUptoRow.holds Try.pinned (OpenSpec.upto fnExactWordPutSpec)

/-- 'laws.FnExactLongPut', WHERE WHAT IT READS IS OF BULK AT MOST 1048576: true; the input reads as it did. -/
def fnExactLongPutUptoRow : OpenClaim := { program := "ytdgkhgengjnjjaa", sum := "a05b5768bd2e19de38213ee59a9d0e7d3e80df3085ba63dbe67d376d00ac3895", func := "loop.example/capturemonitor/laws.FnExactLongPut", spec := "fnExactLongPut", apart := false, narrowed := true }
def FnExactLongPutUptoSaid : Prop := fnExactLongPutUptoRow.holds Try.pinned (OpenSpec.upto fnExactLongPutSpec)

/-- 'laws.FnExactHexPut', WHERE WHAT IT READS IS OF BULK AT MOST 1048576: true; the input reads as it did. -/
def fnExactHexPutUptoRow : OpenClaim := { program := "ytdgkhgengjnjjaa", sum := "a05b5768bd2e19de38213ee59a9d0e7d3e80df3085ba63dbe67d376d00ac3895", func := "loop.example/capturemonitor/laws.FnExactHexPut", spec := "fnExactHexPut", apart := false, narrowed := true }
def FnExactHexPutUptoSaid : Prop := fnExactHexPutUptoRow.holds Try.pinned (OpenSpec.upto fnExactHexPutSpec)

/-- 'laws.FnExactHexGet', WHERE WHAT IT READS IS OF BULK AT MOST 1048576: true; the input reads as it did. -/
def fnExactHexGetUptoRow : OpenClaim := { program := "ytdgkhgengjnjjaa", sum := "a05b5768bd2e19de38213ee59a9d0e7d3e80df3085ba63dbe67d376d00ac3895", func := "loop.example/capturemonitor/laws.FnExactHexGet", spec := "fnExactHexGet", apart := false, narrowed := true }
def FnExactHexGetUptoSaid : Prop := fnExactHexGetUptoRow.holds Try.pinned (OpenSpec.upto fnExactHexGetSpec)

end Rows
end Go.Proofs.Ytdgkhgengjnjjaa
