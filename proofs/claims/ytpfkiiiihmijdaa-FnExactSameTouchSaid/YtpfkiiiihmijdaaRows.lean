/-
  No cell of these rows narrows 'for every input' (looked for: loops, veiled, ifaces, maps, wideKeys, modest, calm, conditions, laid).
  DERIVED. THE GIVEN ROWS OF THIS SEAT. 12 by the template 'for every input the law returns true; each argument reads behind the call as it read before'; 0 by the template 'total and deterministic' (their statements: YtpfkiiiihmijdaaTotals.lean).
  GIVEN WITH THE SEED: the statements are not yours to turn. If you find one false, say at which input.
  Laid BY PROGRAM, IN A SANDBOX (cutbox-rows.mjs): the forced cells as the released guide's own fill.sh prints them over the translation 36162006cc07e0f5… (all of the seat's roots in one cut). By AI agents, Wed Nov 11 2026. No macro, syntax, notation, axiom, sorry.
-/
import Derived.Test.YtpfkiiiihmijdaaChecked
import GoSem.Claim
import GoSem.ClaimJoined
import GoSem.ClaimMapViews
import Derived.JoinedTies
import Derived.KernelRfl
namespace Go.Proofs.Ytpfkiiiihmijdaa
/- THE CELL 'sum', in the pinned program and in every row, IS THE sha256 OF THE DUMP (.gsa) THAT YtpfkiiiihmijdaaProg.lean LOADS. Nothing in Lean hashes anything: it is a label: what it is worth is what the hold of that sum in a sandbox is worth. -/
noncomputable def Try.pinned : Pinned := { name := "ytpfkiiiihmijdaa", sum := "36162006cc07e0f59f90fa68fc80166a176d77ab21350ea247ed3e5a2ee12087", checked := Try.checked }
namespace Rows
def none {H : Type} : Left H := { results := [], args := [] }

/-- 'laws.FnExactNameOk': WHATEVER THE INPUT: true; the input reads as it did. -/
def fnExactNameOkSpec : ChangeSpec := { name := "fnExactNameOk", fn := fun _ => fun
  | [d] => { results := [.lit (.bool true)], args := [d] }
  | _ => none }
def fnExactNameOkRow : OpenClaim := { program := "ytpfkiiiihmijdaa", sum := "36162006cc07e0f59f90fa68fc80166a176d77ab21350ea247ed3e5a2ee12087", func := "loop.example/g00974/laws.FnExactNameOk", spec := "fnExactNameOk", apart := false }
def FnExactNameOkSaid : Prop := fnExactNameOkRow.holds Try.pinned (OpenSpec.ofChange fnExactNameOkSpec)

/-- ITS FALSE NEIGHBOUR: 'it returns false'. Refute it at one input. -/
def fnExactNameOkWrong : ChangeSpec := { name := "fnExactNameOk", fn := fun _ => fun
  | [d] => { results := [.lit (.bool false)], args := [d] }
  | _ => none }
def FnExactNameOkWrongFalsely : Prop := fnExactNameOkRow.holds Try.pinned (OpenSpec.ofChange fnExactNameOkWrong)

/-- 'laws.FnExactSameCall': WHATEVER THE INPUT: true; the input reads as it did. -/
def fnExactSameCallSpec : ChangeSpec := { name := "fnExactSameCall", fn := fun _ => fun
  | [d1, d2] => { results := [.lit (.bool true)], args := [d1, d2] }
  | _ => none }
def fnExactSameCallRow : OpenClaim := { program := "ytpfkiiiihmijdaa", sum := "36162006cc07e0f59f90fa68fc80166a176d77ab21350ea247ed3e5a2ee12087", func := "loop.example/g00974/laws.FnExactSameCall", spec := "fnExactSameCall", apart := false }
def FnExactSameCallSaid : Prop := fnExactSameCallRow.holds Try.pinned (OpenSpec.ofChange fnExactSameCallSpec)

/-- ITS FALSE NEIGHBOUR: 'it returns false'. Refute it at one input. -/
def fnExactSameCallWrong : ChangeSpec := { name := "fnExactSameCall", fn := fun _ => fun
  | [d1, d2] => { results := [.lit (.bool false)], args := [d1, d2] }
  | _ => none }
def FnExactSameCallWrongFalsely : Prop := fnExactSameCallRow.holds Try.pinned (OpenSpec.ofChange fnExactSameCallWrong)

/-- 'laws.FnExactCallOk': WHATEVER THE INPUT: true; the input reads as it did. -/
def fnExactCallOkSpec : ChangeSpec := { name := "fnExactCallOk", fn := fun _ => fun
  | [d] => { results := [.lit (.bool true)], args := [d] }
  | _ => none }
def fnExactCallOkRow : OpenClaim := { program := "ytpfkiiiihmijdaa", sum := "36162006cc07e0f59f90fa68fc80166a176d77ab21350ea247ed3e5a2ee12087", func := "loop.example/g00974/laws.FnExactCallOk", spec := "fnExactCallOk", apart := false }
def FnExactCallOkSaid : Prop := fnExactCallOkRow.holds Try.pinned (OpenSpec.ofChange fnExactCallOkSpec)

/-- ITS FALSE NEIGHBOUR: 'it returns false'. Refute it at one input. -/
def fnExactCallOkWrong : ChangeSpec := { name := "fnExactCallOk", fn := fun _ => fun
  | [d] => { results := [.lit (.bool false)], args := [d] }
  | _ => none }
def FnExactCallOkWrongFalsely : Prop := fnExactCallOkRow.holds Try.pinned (OpenSpec.ofChange fnExactCallOkWrong)

/-- 'laws.FnExactHex': WHATEVER THE INPUT: true; the input reads as it did. -/
def fnExactHexSpec : ChangeSpec := { name := "fnExactHex", fn := fun _ => fun
  | [d] => { results := [.lit (.bool true)], args := [d] }
  | _ => none }
def fnExactHexRow : OpenClaim := { program := "ytpfkiiiihmijdaa", sum := "36162006cc07e0f59f90fa68fc80166a176d77ab21350ea247ed3e5a2ee12087", func := "loop.example/g00974/laws.FnExactHex", spec := "fnExactHex", apart := false }
def FnExactHexSaid : Prop := fnExactHexRow.holds Try.pinned (OpenSpec.ofChange fnExactHexSpec)

/-- ITS FALSE NEIGHBOUR: 'it returns false'. Refute it at one input. -/
def fnExactHexWrong : ChangeSpec := { name := "fnExactHex", fn := fun _ => fun
  | [d] => { results := [.lit (.bool false)], args := [d] }
  | _ => none }
def FnExactHexWrongFalsely : Prop := fnExactHexRow.holds Try.pinned (OpenSpec.ofChange fnExactHexWrong)

/-- 'laws.FnExactSpanHas': WHATEVER THE INPUT: true; the input reads as it did. -/
def fnExactSpanHasSpec : ChangeSpec := { name := "fnExactSpanHas", fn := fun _ => fun
  | [d1, d2] => { results := [.lit (.bool true)], args := [d1, d2] }
  | _ => none }
def fnExactSpanHasRow : OpenClaim := { program := "ytpfkiiiihmijdaa", sum := "36162006cc07e0f59f90fa68fc80166a176d77ab21350ea247ed3e5a2ee12087", func := "loop.example/g00974/laws.FnExactSpanHas", spec := "fnExactSpanHas", apart := false }
def FnExactSpanHasSaid : Prop := fnExactSpanHasRow.holds Try.pinned (OpenSpec.ofChange fnExactSpanHasSpec)

/-- ITS FALSE NEIGHBOUR: 'it returns false'. Refute it at one input. -/
def fnExactSpanHasWrong : ChangeSpec := { name := "fnExactSpanHas", fn := fun _ => fun
  | [d1, d2] => { results := [.lit (.bool false)], args := [d1, d2] }
  | _ => none }
def FnExactSpanHasWrongFalsely : Prop := fnExactSpanHasRow.holds Try.pinned (OpenSpec.ofChange fnExactSpanHasWrong)

/-- 'laws.FnExactOutsGoOn': WHATEVER THE INPUT: true; the input reads as it did. -/
def fnExactOutsGoOnSpec : ChangeSpec := { name := "fnExactOutsGoOn", fn := fun _ => fun
  | [d1, d2] => { results := [.lit (.bool true)], args := [d1, d2] }
  | _ => none }
def fnExactOutsGoOnRow : OpenClaim := { program := "ytpfkiiiihmijdaa", sum := "36162006cc07e0f59f90fa68fc80166a176d77ab21350ea247ed3e5a2ee12087", func := "loop.example/g00974/laws.FnExactOutsGoOn", spec := "fnExactOutsGoOn", apart := false }
def FnExactOutsGoOnSaid : Prop := fnExactOutsGoOnRow.holds Try.pinned (OpenSpec.ofChange fnExactOutsGoOnSpec)

/-- ITS FALSE NEIGHBOUR: 'it returns false'. Refute it at one input. -/
def fnExactOutsGoOnWrong : ChangeSpec := { name := "fnExactOutsGoOn", fn := fun _ => fun
  | [d1, d2] => { results := [.lit (.bool false)], args := [d1, d2] }
  | _ => none }
def FnExactOutsGoOnWrongFalsely : Prop := fnExactOutsGoOnRow.holds Try.pinned (OpenSpec.ofChange fnExactOutsGoOnWrong)

/-- 'laws.FnExactSpansMeet': WHATEVER THE INPUT: true; the input reads as it did. -/
def fnExactSpansMeetSpec : ChangeSpec := { name := "fnExactSpansMeet", fn := fun _ => fun
  | [d1, d2] => { results := [.lit (.bool true)], args := [d1, d2] }
  | _ => none }
def fnExactSpansMeetRow : OpenClaim := { program := "ytpfkiiiihmijdaa", sum := "36162006cc07e0f59f90fa68fc80166a176d77ab21350ea247ed3e5a2ee12087", func := "loop.example/g00974/laws.FnExactSpansMeet", spec := "fnExactSpansMeet", apart := false }
def FnExactSpansMeetSaid : Prop := fnExactSpansMeetRow.holds Try.pinned (OpenSpec.ofChange fnExactSpansMeetSpec)

/-- ITS FALSE NEIGHBOUR: 'it returns false'. Refute it at one input. -/
def fnExactSpansMeetWrong : ChangeSpec := { name := "fnExactSpansMeet", fn := fun _ => fun
  | [d1, d2] => { results := [.lit (.bool false)], args := [d1, d2] }
  | _ => none }
def FnExactSpansMeetWrongFalsely : Prop := fnExactSpansMeetRow.holds Try.pinned (OpenSpec.ofChange fnExactSpansMeetWrong)

/-- 'laws.FnExactSameAnswers': WHATEVER THE INPUT: true; the input reads as it did. -/
def fnExactSameAnswersSpec : ChangeSpec := { name := "fnExactSameAnswers", fn := fun _ => fun
  | [d1, d2] => { results := [.lit (.bool true)], args := [d1, d2] }
  | _ => none }
def fnExactSameAnswersRow : OpenClaim := { program := "ytpfkiiiihmijdaa", sum := "36162006cc07e0f59f90fa68fc80166a176d77ab21350ea247ed3e5a2ee12087", func := "loop.example/g00974/laws.FnExactSameAnswers", spec := "fnExactSameAnswers", apart := false }
def FnExactSameAnswersSaid : Prop := fnExactSameAnswersRow.holds Try.pinned (OpenSpec.ofChange fnExactSameAnswersSpec)

/-- ITS FALSE NEIGHBOUR: 'it returns false'. Refute it at one input. -/
def fnExactSameAnswersWrong : ChangeSpec := { name := "fnExactSameAnswers", fn := fun _ => fun
  | [d1, d2] => { results := [.lit (.bool false)], args := [d1, d2] }
  | _ => none }
def FnExactSameAnswersWrongFalsely : Prop := fnExactSameAnswersRow.holds Try.pinned (OpenSpec.ofChange fnExactSameAnswersWrong)

/-- 'laws.FnExactSameStore': WHATEVER THE INPUT: true; the input reads as it did. -/
def fnExactSameStoreSpec : ChangeSpec := { name := "fnExactSameStore", fn := fun _ => fun
  | [d1, d2] => { results := [.lit (.bool true)], args := [d1, d2] }
  | _ => none }
def fnExactSameStoreRow : OpenClaim := { program := "ytpfkiiiihmijdaa", sum := "36162006cc07e0f59f90fa68fc80166a176d77ab21350ea247ed3e5a2ee12087", func := "loop.example/g00974/laws.FnExactSameStore", spec := "fnExactSameStore", apart := false }
def FnExactSameStoreSaid : Prop := fnExactSameStoreRow.holds Try.pinned (OpenSpec.ofChange fnExactSameStoreSpec)

/-- ITS FALSE NEIGHBOUR: 'it returns false'. Refute it at one input. -/
def fnExactSameStoreWrong : ChangeSpec := { name := "fnExactSameStore", fn := fun _ => fun
  | [d1, d2] => { results := [.lit (.bool false)], args := [d1, d2] }
  | _ => none }
def FnExactSameStoreWrongFalsely : Prop := fnExactSameStoreRow.holds Try.pinned (OpenSpec.ofChange fnExactSameStoreWrong)

/-- 'laws.FnExactSameTouch': WHATEVER THE INPUT: true; the input reads as it did. -/
def fnExactSameTouchSpec : ChangeSpec := { name := "fnExactSameTouch", fn := fun _ => fun
  | [d1, d2] => { results := [.lit (.bool true)], args := [d1, d2] }
  | _ => none }
def fnExactSameTouchRow : OpenClaim := { program := "ytpfkiiiihmijdaa", sum := "36162006cc07e0f59f90fa68fc80166a176d77ab21350ea247ed3e5a2ee12087", func := "loop.example/g00974/laws.FnExactSameTouch", spec := "fnExactSameTouch", apart := false }
def FnExactSameTouchSaid : Prop := fnExactSameTouchRow.holds Try.pinned (OpenSpec.ofChange fnExactSameTouchSpec)

/-- ITS FALSE NEIGHBOUR: 'it returns false'. Refute it at one input. -/
def fnExactSameTouchWrong : ChangeSpec := { name := "fnExactSameTouch", fn := fun _ => fun
  | [d1, d2] => { results := [.lit (.bool false)], args := [d1, d2] }
  | _ => none }
def FnExactSameTouchWrongFalsely : Prop := fnExactSameTouchRow.holds Try.pinned (OpenSpec.ofChange fnExactSameTouchWrong)

/-- 'laws.FnExactSameSteps': WHATEVER THE INPUT: true; the input reads as it did. -/
def fnExactSameStepsSpec : ChangeSpec := { name := "fnExactSameSteps", fn := fun _ => fun
  | [d1, d2] => { results := [.lit (.bool true)], args := [d1, d2] }
  | _ => none }
def fnExactSameStepsRow : OpenClaim := { program := "ytpfkiiiihmijdaa", sum := "36162006cc07e0f59f90fa68fc80166a176d77ab21350ea247ed3e5a2ee12087", func := "loop.example/g00974/laws.FnExactSameSteps", spec := "fnExactSameSteps", apart := false }
def FnExactSameStepsSaid : Prop := fnExactSameStepsRow.holds Try.pinned (OpenSpec.ofChange fnExactSameStepsSpec)

/-- ITS FALSE NEIGHBOUR: 'it returns false'. Refute it at one input. -/
def fnExactSameStepsWrong : ChangeSpec := { name := "fnExactSameSteps", fn := fun _ => fun
  | [d1, d2] => { results := [.lit (.bool false)], args := [d1, d2] }
  | _ => none }
def FnExactSameStepsWrongFalsely : Prop := fnExactSameStepsRow.holds Try.pinned (OpenSpec.ofChange fnExactSameStepsWrong)

/-- 'laws.FnExactTold': WHATEVER THE INPUT: true; the input reads as it did. -/
def fnExactToldSpec : ChangeSpec := { name := "fnExactTold", fn := fun _ => fun
  | [d] => { results := [.lit (.bool true)], args := [d] }
  | _ => none }
def fnExactToldRow : OpenClaim := { program := "ytpfkiiiihmijdaa", sum := "36162006cc07e0f59f90fa68fc80166a176d77ab21350ea247ed3e5a2ee12087", func := "loop.example/g00974/laws.FnExactTold", spec := "fnExactTold", apart := false }
def FnExactToldSaid : Prop := fnExactToldRow.holds Try.pinned (OpenSpec.ofChange fnExactToldSpec)

/-- ITS FALSE NEIGHBOUR: 'it returns false'. Refute it at one input. -/
def fnExactToldWrong : ChangeSpec := { name := "fnExactTold", fn := fun _ => fun
  | [d] => { results := [.lit (.bool false)], args := [d] }
  | _ => none }
def FnExactToldWrongFalsely : Prop := fnExactToldRow.holds Try.pinned (OpenSpec.ofChange fnExactToldWrong)

/- THE SECOND FORM. 'bulk': how many values and letters a reading holds, each counted each time it is reached (what is shared counts as often as it is met; a slice's spare places count too). A statement '..UptoSaid' is the law's where the arguments, and the package variables that the reading takes, are together of bulk at most 1048576: NARROWER than '..Said'. Prove '..Said' where nothing that the law and all that it calls make is longer than what came in: it says more and counts as full. Else prove '..UptoSaid'. A law counts once. -/
mutual
def uptoBulk {H : Type} : DataW H → Nat
  | .lit (.string bytes) => bytes.length + 1
  | .lit _ => 1
  | .nil => 1
  | .ptr d => uptoBulk d + 1
  | .slice elems spare => uptoBulkAll elems + uptoBulkAll spare + 1
  | .agg parts => uptoBulkAll parts + 1
  | .iface _ d => uptoBulk d + 1
  | .map entries => uptoBulkEntries entries + 1
  | .held _ => 1
def uptoBulkAll {H : Type} : List (DataW H) → Nat
  | [] => 0
  | d :: r => uptoBulk d + uptoBulkAll r
def uptoBulkEntries {H : Type} : List (Lit × DataW H) → Nat
  | [] => 0
  | x :: r => uptoBulkEntry x + uptoBulkEntries r
def uptoBulkEntry {H : Type} : Lit × DataW H → Nat
  | (.string bytes, d) => bytes.length + uptoBulk d + 1
  | (_, d) => uptoBulk d + 1
 end
def uptoSmall : (H : Type) → List (DataW H) → Bool := fun _ ds => decide (uptoBulkAll ds ≤ 1048576)
def OpenSpec.upto (s : _root_.Go.ChangeSpec) : _root_.Go.OpenSpec := { _root_.Go.OpenSpec.ofChange s with cond := some uptoSmall }

/-- 'laws.FnExactNameOk', WHERE WHAT IT READS IS OF BULK AT MOST 1048576: true; the input reads as it did. -/
def fnExactNameOkUptoRow : OpenClaim := { program := "ytpfkiiiihmijdaa", sum := "36162006cc07e0f59f90fa68fc80166a176d77ab21350ea247ed3e5a2ee12087", func := "loop.example/g00974/laws.FnExactNameOk", spec := "fnExactNameOk", apart := false, narrowed := true }
def FnExactNameOkUptoSaid : Prop := fnExactNameOkUptoRow.holds Try.pinned (OpenSpec.upto fnExactNameOkSpec)

/-- 'laws.FnExactSameCall', WHERE WHAT IT READS IS OF BULK AT MOST 1048576: true; the input reads as it did. -/
def fnExactSameCallUptoRow : OpenClaim := { program := "ytpfkiiiihmijdaa", sum := "36162006cc07e0f59f90fa68fc80166a176d77ab21350ea247ed3e5a2ee12087", func := "loop.example/g00974/laws.FnExactSameCall", spec := "fnExactSameCall", apart := false, narrowed := true }
def FnExactSameCallUptoSaid : Prop := fnExactSameCallUptoRow.holds Try.pinned (OpenSpec.upto fnExactSameCallSpec)

/-- 'laws.FnExactCallOk', WHERE WHAT IT READS IS OF BULK AT MOST 1048576: true; the input reads as it did. -/
def fnExactCallOkUptoRow : OpenClaim := { program := "ytpfkiiiihmijdaa", sum := "36162006cc07e0f59f90fa68fc80166a176d77ab21350ea247ed3e5a2ee12087", func := "loop.example/g00974/laws.FnExactCallOk", spec := "fnExactCallOk", apart := false, narrowed := true }
def FnExactCallOkUptoSaid : Prop := fnExactCallOkUptoRow.holds Try.pinned (OpenSpec.upto fnExactCallOkSpec)

/-- 'laws.FnExactHex', WHERE WHAT IT READS IS OF BULK AT MOST 1048576: true; the input reads as it did. -/
def fnExactHexUptoRow : OpenClaim := { program := "ytpfkiiiihmijdaa", sum := "36162006cc07e0f59f90fa68fc80166a176d77ab21350ea247ed3e5a2ee12087", func := "loop.example/g00974/laws.FnExactHex", spec := "fnExactHex", apart := false, narrowed := true }
def FnExactHexUptoSaid : Prop := fnExactHexUptoRow.holds Try.pinned (OpenSpec.upto fnExactHexSpec)

/-- 'laws.FnExactSpanHas', WHERE WHAT IT READS IS OF BULK AT MOST 1048576: true; the input reads as it did. -/
def fnExactSpanHasUptoRow : OpenClaim := { program := "ytpfkiiiihmijdaa", sum := "36162006cc07e0f59f90fa68fc80166a176d77ab21350ea247ed3e5a2ee12087", func := "loop.example/g00974/laws.FnExactSpanHas", spec := "fnExactSpanHas", apart := false, narrowed := true }
def FnExactSpanHasUptoSaid : Prop := fnExactSpanHasUptoRow.holds Try.pinned (OpenSpec.upto fnExactSpanHasSpec)

/-- 'laws.FnExactOutsGoOn', WHERE WHAT IT READS IS OF BULK AT MOST 1048576: true; the input reads as it did. -/
def fnExactOutsGoOnUptoRow : OpenClaim := { program := "ytpfkiiiihmijdaa", sum := "36162006cc07e0f59f90fa68fc80166a176d77ab21350ea247ed3e5a2ee12087", func := "loop.example/g00974/laws.FnExactOutsGoOn", spec := "fnExactOutsGoOn", apart := false, narrowed := true }
def FnExactOutsGoOnUptoSaid : Prop := fnExactOutsGoOnUptoRow.holds Try.pinned (OpenSpec.upto fnExactOutsGoOnSpec)

/-- 'laws.FnExactSpansMeet', WHERE WHAT IT READS IS OF BULK AT MOST 1048576: true; the input reads as it did. -/
def fnExactSpansMeetUptoRow : OpenClaim := { program := "ytpfkiiiihmijdaa", sum := "36162006cc07e0f59f90fa68fc80166a176d77ab21350ea247ed3e5a2ee12087", func := "loop.example/g00974/laws.FnExactSpansMeet", spec := "fnExactSpansMeet", apart := false, narrowed := true }
def FnExactSpansMeetUptoSaid : Prop := fnExactSpansMeetUptoRow.holds Try.pinned (OpenSpec.upto fnExactSpansMeetSpec)

/-- 'laws.FnExactSameAnswers', WHERE WHAT IT READS IS OF BULK AT MOST 1048576: true; the input reads as it did. -/
def fnExactSameAnswersUptoRow : OpenClaim := { program := "ytpfkiiiihmijdaa", sum := "36162006cc07e0f59f90fa68fc80166a176d77ab21350ea247ed3e5a2ee12087", func := "loop.example/g00974/laws.FnExactSameAnswers", spec := "fnExactSameAnswers", apart := false, narrowed := true }
def FnExactSameAnswersUptoSaid : Prop := fnExactSameAnswersUptoRow.holds Try.pinned (OpenSpec.upto fnExactSameAnswersSpec)

/-- 'laws.FnExactSameStore', WHERE WHAT IT READS IS OF BULK AT MOST 1048576: true; the input reads as it did. -/
def fnExactSameStoreUptoRow : OpenClaim := { program := "ytpfkiiiihmijdaa", sum := "36162006cc07e0f59f90fa68fc80166a176d77ab21350ea247ed3e5a2ee12087", func := "loop.example/g00974/laws.FnExactSameStore", spec := "fnExactSameStore", apart := false, narrowed := true }
def FnExactSameStoreUptoSaid : Prop := fnExactSameStoreUptoRow.holds Try.pinned (OpenSpec.upto fnExactSameStoreSpec)

/-- 'laws.FnExactSameTouch', WHERE WHAT IT READS IS OF BULK AT MOST 1048576: true; the input reads as it did. -/
def fnExactSameTouchUptoRow : OpenClaim := { program := "ytpfkiiiihmijdaa", sum := "36162006cc07e0f59f90fa68fc80166a176d77ab21350ea247ed3e5a2ee12087", func := "loop.example/g00974/laws.FnExactSameTouch", spec := "fnExactSameTouch", apart := false, narrowed := true }
def FnExactSameTouchUptoSaid : Prop := fnExactSameTouchUptoRow.holds Try.pinned (OpenSpec.upto fnExactSameTouchSpec)

/-- 'laws.FnExactSameSteps', WHERE WHAT IT READS IS OF BULK AT MOST 1048576: true; the input reads as it did. -/
def fnExactSameStepsUptoRow : OpenClaim := { program := "ytpfkiiiihmijdaa", sum := "36162006cc07e0f59f90fa68fc80166a176d77ab21350ea247ed3e5a2ee12087", func := "loop.example/g00974/laws.FnExactSameSteps", spec := "fnExactSameSteps", apart := false, narrowed := true }
def FnExactSameStepsUptoSaid : Prop := fnExactSameStepsUptoRow.holds Try.pinned (OpenSpec.upto fnExactSameStepsSpec)

/-- 'laws.FnExactTold', WHERE WHAT IT READS IS OF BULK AT MOST 1048576: true; the input reads as it did. -/
def fnExactToldUptoRow : OpenClaim := { program := "ytpfkiiiihmijdaa", sum := "36162006cc07e0f59f90fa68fc80166a176d77ab21350ea247ed3e5a2ee12087", func := "loop.example/g00974/laws.FnExactTold", spec := "fnExactTold", apart := false, narrowed := true }
def FnExactToldUptoSaid : Prop := fnExactToldUptoRow.holds Try.pinned (OpenSpec.upto fnExactToldSpec)

end Rows
end Go.Proofs.Ytpfkiiiihmijdaa
