/-
  No cell of these rows narrows 'for every input' (looked for: loops, veiled, ifaces, maps, wideKeys, modest, calm, conditions, laid).
  DERIVED. THE GIVEN ROWS OF THIS SEAT. 5 by the template 'for every input the law returns true; each argument reads behind the call as it read before'; 0 by the template 'total and deterministic' (their statements: YtpgpedbolibekaaTotals.lean).
  GIVEN WITH THE SEED: the statements are not yours to turn. If you find one false, say at which input.
  Laid BY PROGRAM, IN A SANDBOX (cutbox-rows.mjs): the forced cells as the released guide's own fill.sh prints them over the translation f035a0a037e95054… (all of the seat's roots in one cut). By AI agents, Wed Nov 11 2026. No macro, syntax, notation, axiom, sorry.
-/
import Derived.Test.YtpgpedbolibekaaChecked
import GoSem.Claim
import GoSem.ClaimJoined
import GoSem.ClaimMapViews
import Derived.JoinedTies
import Derived.KernelRfl
namespace Go.Proofs.Ytpgpedbolibekaa
/- THE CELL 'sum', in the pinned program and in every row, IS THE sha256 OF THE DUMP (.gsa) THAT YtpgpedbolibekaaProg.lean LOADS. Nothing in Lean hashes anything: it is a label: what it is worth is what the hold of that sum in a sandbox is worth. -/
noncomputable def Try.pinned : Pinned := { name := "ytpgpedbolibekaa", sum := "f035a0a037e95054fe5a036e8fabd6580274fc04aa79edf56bfd81f34ed5a8d7", checked := Try.checked }
namespace Rows
def none {H : Type} : Left H := { results := [], args := [] }

/-- 'laws.FnExactConstants': WHATEVER THE INPUT: true; the input reads as it did. -/
def fnExactConstantsSpec : ChangeSpec := { name := "fnExactConstants", fn := fun _ => fun
  | [] => { results := [.lit (.bool true)], args := [] }
  | _ => none }
def fnExactConstantsRow : OpenClaim := { program := "ytpgpedbolibekaa", sum := "f035a0a037e95054fe5a036e8fabd6580274fc04aa79edf56bfd81f34ed5a8d7", func := "loop.example/g00974/laws.FnExactConstants", spec := "fnExactConstants", apart := false }
def FnExactConstantsSaid : Prop := fnExactConstantsRow.holds Try.pinned (OpenSpec.ofChange fnExactConstantsSpec)

/-- ITS FALSE NEIGHBOUR: 'it returns false'. Refute it at one input. -/
def fnExactConstantsWrong : ChangeSpec := { name := "fnExactConstants", fn := fun _ => fun
  | [] => { results := [.lit (.bool false)], args := [] }
  | _ => none }
def FnExactConstantsWrongFalsely : Prop := fnExactConstantsRow.holds Try.pinned (OpenSpec.ofChange fnExactConstantsWrong)

/-- 'laws.FnExactLooksOnly': WHATEVER THE INPUT: true; the input reads as it did. -/
def fnExactLooksOnlySpec : ChangeSpec := { name := "fnExactLooksOnly", fn := fun _ => fun
  | [d] => { results := [.lit (.bool true)], args := [d] }
  | _ => none }
def fnExactLooksOnlyRow : OpenClaim := { program := "ytpgpedbolibekaa", sum := "f035a0a037e95054fe5a036e8fabd6580274fc04aa79edf56bfd81f34ed5a8d7", func := "loop.example/g00974/laws.FnExactLooksOnly", spec := "fnExactLooksOnly", apart := false }
def FnExactLooksOnlySaid : Prop := fnExactLooksOnlyRow.holds Try.pinned (OpenSpec.ofChange fnExactLooksOnlySpec)

/-- ITS FALSE NEIGHBOUR: 'it returns false'. Refute it at one input. -/
def fnExactLooksOnlyWrong : ChangeSpec := { name := "fnExactLooksOnly", fn := fun _ => fun
  | [d] => { results := [.lit (.bool false)], args := [d] }
  | _ => none }
def FnExactLooksOnlyWrongFalsely : Prop := fnExactLooksOnlyRow.holds Try.pinned (OpenSpec.ofChange fnExactLooksOnlyWrong)

/-- 'laws.FnExactBrought': WHATEVER THE INPUT: true; the input reads as it did. -/
def fnExactBroughtSpec : ChangeSpec := { name := "fnExactBrought", fn := fun _ => fun
  | [d1, d2, d3] => { results := [.lit (.bool true)], args := [d1, d2, d3] }
  | _ => none }
def fnExactBroughtRow : OpenClaim := { program := "ytpgpedbolibekaa", sum := "f035a0a037e95054fe5a036e8fabd6580274fc04aa79edf56bfd81f34ed5a8d7", func := "loop.example/g00974/laws.FnExactBrought", spec := "fnExactBrought", apart := false }
def FnExactBroughtSaid : Prop := fnExactBroughtRow.holds Try.pinned (OpenSpec.ofChange fnExactBroughtSpec)

/-- ITS FALSE NEIGHBOUR: 'it returns false'. Refute it at one input. -/
def fnExactBroughtWrong : ChangeSpec := { name := "fnExactBrought", fn := fun _ => fun
  | [d1, d2, d3] => { results := [.lit (.bool false)], args := [d1, d2, d3] }
  | _ => none }
def FnExactBroughtWrongFalsely : Prop := fnExactBroughtRow.holds Try.pinned (OpenSpec.ofChange fnExactBroughtWrong)

/-- 'laws.FnExactSameAnswer': WHATEVER THE INPUT: true; the input reads as it did. -/
def fnExactSameAnswerSpec : ChangeSpec := { name := "fnExactSameAnswer", fn := fun _ => fun
  | [d1, d2] => { results := [.lit (.bool true)], args := [d1, d2] }
  | _ => none }
def fnExactSameAnswerRow : OpenClaim := { program := "ytpgpedbolibekaa", sum := "f035a0a037e95054fe5a036e8fabd6580274fc04aa79edf56bfd81f34ed5a8d7", func := "loop.example/g00974/laws.FnExactSameAnswer", spec := "fnExactSameAnswer", apart := false }
def FnExactSameAnswerSaid : Prop := fnExactSameAnswerRow.holds Try.pinned (OpenSpec.ofChange fnExactSameAnswerSpec)

/-- ITS FALSE NEIGHBOUR: 'it returns false'. Refute it at one input. -/
def fnExactSameAnswerWrong : ChangeSpec := { name := "fnExactSameAnswer", fn := fun _ => fun
  | [d1, d2] => { results := [.lit (.bool false)], args := [d1, d2] }
  | _ => none }
def FnExactSameAnswerWrongFalsely : Prop := fnExactSameAnswerRow.holds Try.pinned (OpenSpec.ofChange fnExactSameAnswerWrong)

/-- 'laws.FnExactKeyOk': WHATEVER THE INPUT: true; the input reads as it did. -/
def fnExactKeyOkSpec : ChangeSpec := { name := "fnExactKeyOk", fn := fun _ => fun
  | [d] => { results := [.lit (.bool true)], args := [d] }
  | _ => none }
def fnExactKeyOkRow : OpenClaim := { program := "ytpgpedbolibekaa", sum := "f035a0a037e95054fe5a036e8fabd6580274fc04aa79edf56bfd81f34ed5a8d7", func := "loop.example/g00974/laws.FnExactKeyOk", spec := "fnExactKeyOk", apart := false }
def FnExactKeyOkSaid : Prop := fnExactKeyOkRow.holds Try.pinned (OpenSpec.ofChange fnExactKeyOkSpec)

/-- ITS FALSE NEIGHBOUR: 'it returns false'. Refute it at one input. -/
def fnExactKeyOkWrong : ChangeSpec := { name := "fnExactKeyOk", fn := fun _ => fun
  | [d] => { results := [.lit (.bool false)], args := [d] }
  | _ => none }
def FnExactKeyOkWrongFalsely : Prop := fnExactKeyOkRow.holds Try.pinned (OpenSpec.ofChange fnExactKeyOkWrong)

/- THE SECOND FORM. 'bulk': how many values and letters a reading holds, each counted each time it is reached (what is shared counts as often as it is met; a slice's spare places count too). A statement '..UptoSaid' is the law's where the arguments, and the package variables that the reading takes, are together of bulk at most 1048576: NARROWER than '..Said'. Prove '..Said' where nothing that the law and all that it calls make is longer than what came in: it says more and counts as full. Else prove '..UptoSaid'. A law counts once. -/
mutual
def uptoBulk {H : Type} : DataW H → Nat
  | .lit (.string bytes) => bytes.length + 1
  | .lit _ => 1
  | .nil => 1
  | .ptr d => uptoBulk d + 1
  | .slice elems spare => uptoBulkAll elems + uptoBulkAll spare + 1
  | .agg parts => uptoBulkAll parts + 1
  | .iface _ d => uptoBulk d + 1
  | .map entries => uptoBulkEntries entries + 1
  | .held _ => 1
def uptoBulkAll {H : Type} : List (DataW H) → Nat
  | [] => 0
  | d :: r => uptoBulk d + uptoBulkAll r
def uptoBulkEntries {H : Type} : List (Lit × DataW H) → Nat
  | [] => 0
  | x :: r => uptoBulkEntry x + uptoBulkEntries r
def uptoBulkEntry {H : Type} : Lit × DataW H → Nat
  | (.string bytes, d) => bytes.length + uptoBulk d + 1
  | (_, d) => uptoBulk d + 1
 end
def uptoSmall : (H : Type) → List (DataW H) → Bool := fun _ ds => decide (uptoBulkAll ds ≤ 1048576)
def OpenSpec.upto (s : _root_.Go.ChangeSpec) : _root_.Go.OpenSpec := { _root_.Go.OpenSpec.ofChange s with cond := some uptoSmall }

/-- 'laws.FnExactConstants', WHERE WHAT IT READS IS OF BULK AT MOST 1048576: true; the input reads as it did. -/
def fnExactConstantsUptoRow : OpenClaim := { program := "ytpgpedbolibekaa", sum := "f035a0a037e95054fe5a036e8fabd6580274fc04aa79edf56bfd81f34ed5a8d7", func := "loop.example/g00974/laws.FnExactConstants", spec := "fnExactConstants", apart := false, narrowed := true }
def FnExactConstantsUptoSaid : Prop := fnExactConstantsUptoRow.holds Try.pinned (OpenSpec.upto fnExactConstantsSpec)

/-- 'laws.FnExactLooksOnly', WHERE WHAT IT READS IS OF BULK AT MOST 1048576: true; the input reads as it did. -/
def fnExactLooksOnlyUptoRow : OpenClaim := { program := "ytpgpedbolibekaa", sum := "f035a0a037e95054fe5a036e8fabd6580274fc04aa79edf56bfd81f34ed5a8d7", func := "loop.example/g00974/laws.FnExactLooksOnly", spec := "fnExactLooksOnly", apart := false, narrowed := true }
def FnExactLooksOnlyUptoSaid : Prop := fnExactLooksOnlyUptoRow.holds Try.pinned (OpenSpec.upto fnExactLooksOnlySpec)

/-- 'laws.FnExactBrought', WHERE WHAT IT READS IS OF BULK AT MOST 1048576: true; the input reads as it did. -/
def fnExactBroughtUptoRow : OpenClaim := { program := "ytpgpedbolibekaa", sum := "f035a0a037e95054fe5a036e8fabd6580274fc04aa79edf56bfd81f34ed5a8d7", func := "loop.example/g00974/laws.FnExactBrought", spec := "fnExactBrought", apart := false, narrowed := true }
def FnExactBroughtUptoSaid : Prop := fnExactBroughtUptoRow.holds Try.pinned (OpenSpec.upto fnExactBroughtSpec)

/-- 'laws.FnExactSameAnswer', WHERE WHAT IT READS IS OF BULK AT MOST 1048576: true; the input reads as it did. -/
def fnExactSameAnswerUptoRow : OpenClaim := { program := "ytpgpedbolibekaa", sum := "f035a0a037e95054fe5a036e8fabd6580274fc04aa79edf56bfd81f34ed5a8d7", func := "loop.example/g00974/laws.FnExactSameAnswer", spec := "fnExactSameAnswer", apart := false, narrowed := true }
def FnExactSameAnswerUptoSaid : Prop := fnExactSameAnswerUptoRow.holds Try.pinned (OpenSpec.upto fnExactSameAnswerSpec)

/-- 'laws.FnExactKeyOk', WHERE WHAT IT READS IS OF BULK AT MOST 1048576: true; the input reads as it did. -/
def fnExactKeyOkUptoRow : OpenClaim := { program := "ytpgpedbolibekaa", sum := "f035a0a037e95054fe5a036e8fabd6580274fc04aa79edf56bfd81f34ed5a8d7", func := "loop.example/g00974/laws.FnExactKeyOk", spec := "fnExactKeyOk", apart := false, narrowed := true }
def FnExactKeyOkUptoSaid : Prop := fnExactKeyOkUptoRow.holds Try.pinned (OpenSpec.upto fnExactKeyOkSpec)

end Rows
end Go.Proofs.Ytpgpedbolibekaa
