/-
  No cell of these rows narrows 'for every input' (looked for: loops, veiled, ifaces, maps, wideKeys, modest, calm, conditions, laid).
  DERIVED. THE GIVEN ROWS OF THIS SEAT. 10 by the template 'for every input the law returns true; each argument reads behind the call as it read before'; 0 by the template 'total and deterministic' (their statements: YtnccenfdclmkkaaTotals.lean).
  GIVEN WITH THE SEED: the statements are not yours to turn. If you find one false, say at which input.
  Laid BY PROGRAM, IN A SANDBOX (cutbox-rows.mjs): the forced cells as the released guide's own fill.sh prints them over the translation 3a07c6c1e27d10fb… (all of the seat's roots in one cut). By AI agents, Wed Nov 11 2026. No macro, syntax, notation, axiom, sorry.
-/
import Derived.Test.YtnccenfdclmkkaaChecked
import GoSem.Claim
import GoSem.ClaimJoined
import GoSem.ClaimMapViews
import Derived.JoinedTies
import Derived.KernelRfl
namespace Go.Proofs.Ytnccenfdclmkkaa
/- THE CELL 'sum', in the pinned program and in every row, IS THE sha256 OF THE DUMP (.gsa) THAT YtnccenfdclmkkaaProg.lean LOADS. Nothing in Lean hashes anything: it is a label: what it is worth is what the hold of that sum in a sandbox is worth. -/
noncomputable def Try.pinned : Pinned := { name := "ytnccenfdclmkkaa", sum := "3a07c6c1e27d10fbe8d417af29b88123e7fab3e0e13fde8a7b3f3a268c8fedbd", checked := Try.checked }
namespace Rows
def none {H : Type} : Left H := { results := [], args := [] }

/-- 'laws.FnExactHasKey': WHATEVER THE INPUT: true; the input reads as it did. -/
def fnExactHasKeySpec : ChangeSpec := { name := "fnExactHasKey", fn := fun _ => fun
  | [d1, d2] => { results := [.lit (.bool true)], args := [d1, d2] }
  | _ => none }
def fnExactHasKeyRow : OpenClaim := { program := "ytnccenfdclmkkaa", sum := "3a07c6c1e27d10fbe8d417af29b88123e7fab3e0e13fde8a7b3f3a268c8fedbd", func := "loop.example/g00974/laws.FnExactHasKey", spec := "fnExactHasKey", unfollowed := true, recurses := true, apart := false }
def FnExactHasKeySaid : Prop := fnExactHasKeyRow.holds Try.pinned (OpenSpec.ofChange fnExactHasKeySpec)

/-- ITS FALSE NEIGHBOUR: 'it returns false'. Refute it at one input. -/
def fnExactHasKeyWrong : ChangeSpec := { name := "fnExactHasKey", fn := fun _ => fun
  | [d1, d2] => { results := [.lit (.bool false)], args := [d1, d2] }
  | _ => none }
def FnExactHasKeyWrongFalsely : Prop := fnExactHasKeyRow.holds Try.pinned (OpenSpec.ofChange fnExactHasKeyWrong)

/-- 'laws.FnExactGetKey': WHATEVER THE INPUT: true; the input reads as it did. -/
def fnExactGetKeySpec : ChangeSpec := { name := "fnExactGetKey", fn := fun _ => fun
  | [d1, d2] => { results := [.lit (.bool true)], args := [d1, d2] }
  | _ => none }
def fnExactGetKeyRow : OpenClaim := { program := "ytnccenfdclmkkaa", sum := "3a07c6c1e27d10fbe8d417af29b88123e7fab3e0e13fde8a7b3f3a268c8fedbd", func := "loop.example/g00974/laws.FnExactGetKey", spec := "fnExactGetKey", unfollowed := true, recurses := true, apart := false }
def FnExactGetKeySaid : Prop := fnExactGetKeyRow.holds Try.pinned (OpenSpec.ofChange fnExactGetKeySpec)

/-- ITS FALSE NEIGHBOUR: 'it returns false'. Refute it at one input. -/
def fnExactGetKeyWrong : ChangeSpec := { name := "fnExactGetKey", fn := fun _ => fun
  | [d1, d2] => { results := [.lit (.bool false)], args := [d1, d2] }
  | _ => none }
def FnExactGetKeyWrongFalsely : Prop := fnExactGetKeyRow.holds Try.pinned (OpenSpec.ofChange fnExactGetKeyWrong)

/-- 'laws.FnExactStoreOk': WHATEVER THE INPUT: true; the input reads as it did. -/
def fnExactStoreOkSpec : ChangeSpec := { name := "fnExactStoreOk", fn := fun _ => fun
  | [d] => { results := [.lit (.bool true)], args := [d] }
  | _ => none }
def fnExactStoreOkRow : OpenClaim := { program := "ytnccenfdclmkkaa", sum := "3a07c6c1e27d10fbe8d417af29b88123e7fab3e0e13fde8a7b3f3a268c8fedbd", func := "loop.example/g00974/laws.FnExactStoreOk", spec := "fnExactStoreOk", apart := false }
def FnExactStoreOkSaid : Prop := fnExactStoreOkRow.holds Try.pinned (OpenSpec.ofChange fnExactStoreOkSpec)

/-- ITS FALSE NEIGHBOUR: 'it returns false'. Refute it at one input. -/
def fnExactStoreOkWrong : ChangeSpec := { name := "fnExactStoreOk", fn := fun _ => fun
  | [d] => { results := [.lit (.bool false)], args := [d] }
  | _ => none }
def FnExactStoreOkWrongFalsely : Prop := fnExactStoreOkRow.holds Try.pinned (OpenSpec.ofChange fnExactStoreOkWrong)

/-- 'laws.FnExactCovers': WHATEVER THE INPUT: true; the input reads as it did. -/
def fnExactCoversSpec : ChangeSpec := { name := "fnExactCovers", fn := fun _ => fun
  | [d1, d2] => { results := [.lit (.bool true)], args := [d1, d2] }
  | _ => none }
def fnExactCoversRow : OpenClaim := { program := "ytnccenfdclmkkaa", sum := "3a07c6c1e27d10fbe8d417af29b88123e7fab3e0e13fde8a7b3f3a268c8fedbd", func := "loop.example/g00974/laws.FnExactCovers", spec := "fnExactCovers", unfollowed := true, recurses := true, apart := false }
def FnExactCoversSaid : Prop := fnExactCoversRow.holds Try.pinned (OpenSpec.ofChange fnExactCoversSpec)

/-- ITS FALSE NEIGHBOUR: 'it returns false'. Refute it at one input. -/
def fnExactCoversWrong : ChangeSpec := { name := "fnExactCovers", fn := fun _ => fun
  | [d1, d2] => { results := [.lit (.bool false)], args := [d1, d2] }
  | _ => none }
def FnExactCoversWrongFalsely : Prop := fnExactCoversRow.holds Try.pinned (OpenSpec.ofChange fnExactCoversWrong)

/-- 'laws.FnExactMeetAny': WHATEVER THE INPUT: true; the input reads as it did. -/
def fnExactMeetAnySpec : ChangeSpec := { name := "fnExactMeetAny", fn := fun _ => fun
  | [d1, d2] => { results := [.lit (.bool true)], args := [d1, d2] }
  | _ => none }
def fnExactMeetAnyRow : OpenClaim := { program := "ytnccenfdclmkkaa", sum := "3a07c6c1e27d10fbe8d417af29b88123e7fab3e0e13fde8a7b3f3a268c8fedbd", func := "loop.example/g00974/laws.FnExactMeetAny", spec := "fnExactMeetAny", unfollowed := true, recurses := true, apart := false }
def FnExactMeetAnySaid : Prop := fnExactMeetAnyRow.holds Try.pinned (OpenSpec.ofChange fnExactMeetAnySpec)

/-- ITS FALSE NEIGHBOUR: 'it returns false'. Refute it at one input. -/
def fnExactMeetAnyWrong : ChangeSpec := { name := "fnExactMeetAny", fn := fun _ => fun
  | [d1, d2] => { results := [.lit (.bool false)], args := [d1, d2] }
  | _ => none }
def FnExactMeetAnyWrongFalsely : Prop := fnExactMeetAnyRow.holds Try.pinned (OpenSpec.ofChange fnExactMeetAnyWrong)

/-- 'laws.FnExactClash': WHATEVER THE INPUT: true; the input reads as it did. -/
def fnExactClashSpec : ChangeSpec := { name := "fnExactClash", fn := fun _ => fun
  | [d1, d2] => { results := [.lit (.bool true)], args := [d1, d2] }
  | _ => none }
def fnExactClashRow : OpenClaim := { program := "ytnccenfdclmkkaa", sum := "3a07c6c1e27d10fbe8d417af29b88123e7fab3e0e13fde8a7b3f3a268c8fedbd", func := "loop.example/g00974/laws.FnExactClash", spec := "fnExactClash", unfollowed := true, recurses := true, apart := false }
def FnExactClashSaid : Prop := fnExactClashRow.holds Try.pinned (OpenSpec.ofChange fnExactClashSpec)

/-- ITS FALSE NEIGHBOUR: 'it returns false'. Refute it at one input. -/
def fnExactClashWrong : ChangeSpec := { name := "fnExactClash", fn := fun _ => fun
  | [d1, d2] => { results := [.lit (.bool false)], args := [d1, d2] }
  | _ => none }
def FnExactClashWrongFalsely : Prop := fnExactClashRow.holds Try.pinned (OpenSpec.ofChange fnExactClashWrong)

/-- 'laws.FnExactSameMach': WHATEVER THE INPUT: true; the input reads as it did. -/
def fnExactSameMachSpec : ChangeSpec := { name := "fnExactSameMach", fn := fun _ => fun
  | [d1, d2] => { results := [.lit (.bool true)], args := [d1, d2] }
  | _ => none }
def fnExactSameMachRow : OpenClaim := { program := "ytnccenfdclmkkaa", sum := "3a07c6c1e27d10fbe8d417af29b88123e7fab3e0e13fde8a7b3f3a268c8fedbd", func := "loop.example/g00974/laws.FnExactSameMach", spec := "fnExactSameMach", apart := false }
def FnExactSameMachSaid : Prop := fnExactSameMachRow.holds Try.pinned (OpenSpec.ofChange fnExactSameMachSpec)

/-- ITS FALSE NEIGHBOUR: 'it returns false'. Refute it at one input. -/
def fnExactSameMachWrong : ChangeSpec := { name := "fnExactSameMach", fn := fun _ => fun
  | [d1, d2] => { results := [.lit (.bool false)], args := [d1, d2] }
  | _ => none }
def FnExactSameMachWrongFalsely : Prop := fnExactSameMachRow.holds Try.pinned (OpenSpec.ofChange fnExactSameMachWrong)

/-- 'laws.FnExactKeysUnder': WHATEVER THE INPUT: true; the input reads as it did. -/
def fnExactKeysUnderSpec : ChangeSpec := { name := "fnExactKeysUnder", fn := fun _ => fun
  | [d1, d2] => { results := [.lit (.bool true)], args := [d1, d2] }
  | _ => none }
def fnExactKeysUnderRow : OpenClaim := { program := "ytnccenfdclmkkaa", sum := "3a07c6c1e27d10fbe8d417af29b88123e7fab3e0e13fde8a7b3f3a268c8fedbd", func := "loop.example/g00974/laws.FnExactKeysUnder", spec := "fnExactKeysUnder", apart := false }
def FnExactKeysUnderSaid : Prop := fnExactKeysUnderRow.holds Try.pinned (OpenSpec.ofChange fnExactKeysUnderSpec)

/-- ITS FALSE NEIGHBOUR: 'it returns false'. Refute it at one input. -/
def fnExactKeysUnderWrong : ChangeSpec := { name := "fnExactKeysUnder", fn := fun _ => fun
  | [d1, d2] => { results := [.lit (.bool false)], args := [d1, d2] }
  | _ => none }
def FnExactKeysUnderWrongFalsely : Prop := fnExactKeysUnderRow.holds Try.pinned (OpenSpec.ofChange fnExactKeysUnderWrong)

/-- 'laws.FnExactMachOf': WHATEVER THE INPUT: true; the input reads as it did. -/
def fnExactMachOfSpec : ChangeSpec := { name := "fnExactMachOf", fn := fun _ => fun
  | [d] => { results := [.lit (.bool true)], args := [d] }
  | _ => none }
def fnExactMachOfRow : OpenClaim := { program := "ytnccenfdclmkkaa", sum := "3a07c6c1e27d10fbe8d417af29b88123e7fab3e0e13fde8a7b3f3a268c8fedbd", func := "loop.example/g00974/laws.FnExactMachOf", spec := "fnExactMachOf", apart := false }
def FnExactMachOfSaid : Prop := fnExactMachOfRow.holds Try.pinned (OpenSpec.ofChange fnExactMachOfSpec)

/-- ITS FALSE NEIGHBOUR: 'it returns false'. Refute it at one input. -/
def fnExactMachOfWrong : ChangeSpec := { name := "fnExactMachOf", fn := fun _ => fun
  | [d] => { results := [.lit (.bool false)], args := [d] }
  | _ => none }
def FnExactMachOfWrongFalsely : Prop := fnExactMachOfRow.holds Try.pinned (OpenSpec.ofChange fnExactMachOfWrong)

/-- 'laws.FnExactAddSpan': WHATEVER THE INPUT: true; the input reads as it did. -/
def fnExactAddSpanSpec : ChangeSpec := { name := "fnExactAddSpan", fn := fun _ => fun
  | [d1, d2] => { results := [.lit (.bool true)], args := [d1, d2] }
  | _ => none }
def fnExactAddSpanRow : OpenClaim := { program := "ytnccenfdclmkkaa", sum := "3a07c6c1e27d10fbe8d417af29b88123e7fab3e0e13fde8a7b3f3a268c8fedbd", func := "loop.example/g00974/laws.FnExactAddSpan", spec := "fnExactAddSpan", inPlace := ["slices.overlaps[string]"], unfollowed := true, recurses := true, apart := false }
def FnExactAddSpanSaid : Prop := fnExactAddSpanRow.holds Try.pinned (OpenSpec.ofChange fnExactAddSpanSpec)

/-- ITS FALSE NEIGHBOUR: 'it returns false'. Refute it at one input. -/
def fnExactAddSpanWrong : ChangeSpec := { name := "fnExactAddSpan", fn := fun _ => fun
  | [d1, d2] => { results := [.lit (.bool false)], args := [d1, d2] }
  | _ => none }
def FnExactAddSpanWrongFalsely : Prop := fnExactAddSpanRow.holds Try.pinned (OpenSpec.ofChange fnExactAddSpanWrong)

/- THE SECOND FORM. 'bulk': how many values and letters a reading holds, each counted each time it is reached (what is shared counts as often as it is met; a slice's spare places count too). A statement '..UptoSaid' is the law's where the arguments, and the package variables that the reading takes, are together of bulk at most 1048576: NARROWER than '..Said'. Prove '..Said' where nothing that the law and all that it calls make is longer than what came in: it says more and counts as full. Else prove '..UptoSaid'. A law counts once. -/
mutual
def uptoBulk {H : Type} : DataW H → Nat
  | .lit (.string bytes) => bytes.length + 1
  | .lit _ => 1
  | .nil => 1
  | .ptr d => uptoBulk d + 1
  | .slice elems spare => uptoBulkAll elems + uptoBulkAll spare + 1
  | .agg parts => uptoBulkAll parts + 1
  | .iface _ d => uptoBulk d + 1
  | .map entries => uptoBulkEntries entries + 1
  | .held _ => 1
def uptoBulkAll {H : Type} : List (DataW H) → Nat
  | [] => 0
  | d :: r => uptoBulk d + uptoBulkAll r
def uptoBulkEntries {H : Type} : List (Lit × DataW H) → Nat
  | [] => 0
  | x :: r => uptoBulkEntry x + uptoBulkEntries r
def uptoBulkEntry {H : Type} : Lit × DataW H → Nat
  | (.string bytes, d) => bytes.length + uptoBulk d + 1
  | (_, d) => uptoBulk d + 1
 end
def uptoSmall : (H : Type) → List (DataW H) → Bool := fun _ ds => decide (uptoBulkAll ds ≤ 1048576)
def OpenSpec.upto (s : _root_.Go.ChangeSpec) : _root_.Go.OpenSpec := { _root_.Go.OpenSpec.ofChange s with cond := some uptoSmall }

/-- 'laws.FnExactHasKey', WHERE WHAT IT READS IS OF BULK AT MOST 1048576: true; the input reads as it did. -/
def fnExactHasKeyUptoRow : OpenClaim := { program := "ytnccenfdclmkkaa", sum := "3a07c6c1e27d10fbe8d417af29b88123e7fab3e0e13fde8a7b3f3a268c8fedbd", func := "loop.example/g00974/laws.FnExactHasKey", spec := "fnExactHasKey", unfollowed := true, recurses := true, apart := false, narrowed := true }
def FnExactHasKeyUptoSaid : Prop := fnExactHasKeyUptoRow.holds Try.pinned (OpenSpec.upto fnExactHasKeySpec)

/-- 'laws.FnExactGetKey', WHERE WHAT IT READS IS OF BULK AT MOST 1048576: true; the input reads as it did. -/
def fnExactGetKeyUptoRow : OpenClaim := { program := "ytnccenfdclmkkaa", sum := "3a07c6c1e27d10fbe8d417af29b88123e7fab3e0e13fde8a7b3f3a268c8fedbd", func := "loop.example/g00974/laws.FnExactGetKey", spec := "fnExactGetKey", unfollowed := true, recurses := true, apart := false, narrowed := true }
def FnExactGetKeyUptoSaid : Prop := fnExactGetKeyUptoRow.holds Try.pinned (OpenSpec.upto fnExactGetKeySpec)

/-- 'laws.FnExactStoreOk', WHERE WHAT IT READS IS OF BULK AT MOST 1048576: true; the input reads as it did. -/
def fnExactStoreOkUptoRow : OpenClaim := { program := "ytnccenfdclmkkaa", sum := "3a07c6c1e27d10fbe8d417af29b88123e7fab3e0e13fde8a7b3f3a268c8fedbd", func := "loop.example/g00974/laws.FnExactStoreOk", spec := "fnExactStoreOk", apart := false, narrowed := true }
def FnExactStoreOkUptoSaid : Prop := fnExactStoreOkUptoRow.holds Try.pinned (OpenSpec.upto fnExactStoreOkSpec)

/-- 'laws.FnExactCovers', WHERE WHAT IT READS IS OF BULK AT MOST 1048576: true; the input reads as it did. -/
def fnExactCoversUptoRow : OpenClaim := { program := "ytnccenfdclmkkaa", sum := "3a07c6c1e27d10fbe8d417af29b88123e7fab3e0e13fde8a7b3f3a268c8fedbd", func := "loop.example/g00974/laws.FnExactCovers", spec := "fnExactCovers", unfollowed := true, recurses := true, apart := false, narrowed := true }
def FnExactCoversUptoSaid : Prop := fnExactCoversUptoRow.holds Try.pinned (OpenSpec.upto fnExactCoversSpec)

/-- 'laws.FnExactMeetAny', WHERE WHAT IT READS IS OF BULK AT MOST 1048576: true; the input reads as it did. -/
def fnExactMeetAnyUptoRow : OpenClaim := { program := "ytnccenfdclmkkaa", sum := "3a07c6c1e27d10fbe8d417af29b88123e7fab3e0e13fde8a7b3f3a268c8fedbd", func := "loop.example/g00974/laws.FnExactMeetAny", spec := "fnExactMeetAny", unfollowed := true, recurses := true, apart := false, narrowed := true }
def FnExactMeetAnyUptoSaid : Prop := fnExactMeetAnyUptoRow.holds Try.pinned (OpenSpec.upto fnExactMeetAnySpec)

/-- 'laws.FnExactClash', WHERE WHAT IT READS IS OF BULK AT MOST 1048576: true; the input reads as it did. -/
def fnExactClashUptoRow : OpenClaim := { program := "ytnccenfdclmkkaa", sum := "3a07c6c1e27d10fbe8d417af29b88123e7fab3e0e13fde8a7b3f3a268c8fedbd", func := "loop.example/g00974/laws.FnExactClash", spec := "fnExactClash", unfollowed := true, recurses := true, apart := false, narrowed := true }
def FnExactClashUptoSaid : Prop := fnExactClashUptoRow.holds Try.pinned (OpenSpec.upto fnExactClashSpec)

/-- 'laws.FnExactSameMach', WHERE WHAT IT READS IS OF BULK AT MOST 1048576: true; the input reads as it did. -/
def fnExactSameMachUptoRow : OpenClaim := { program := "ytnccenfdclmkkaa", sum := "3a07c6c1e27d10fbe8d417af29b88123e7fab3e0e13fde8a7b3f3a268c8fedbd", func := "loop.example/g00974/laws.FnExactSameMach", spec := "fnExactSameMach", apart := false, narrowed := true }
def FnExactSameMachUptoSaid : Prop := fnExactSameMachUptoRow.holds Try.pinned (OpenSpec.upto fnExactSameMachSpec)

/-- 'laws.FnExactKeysUnder', WHERE WHAT IT READS IS OF BULK AT MOST 1048576: true; the input reads as it did. -/
def fnExactKeysUnderUptoRow : OpenClaim := { program := "ytnccenfdclmkkaa", sum := "3a07c6c1e27d10fbe8d417af29b88123e7fab3e0e13fde8a7b3f3a268c8fedbd", func := "loop.example/g00974/laws.FnExactKeysUnder", spec := "fnExactKeysUnder", apart := false, narrowed := true }
def FnExactKeysUnderUptoSaid : Prop := fnExactKeysUnderUptoRow.holds Try.pinned (OpenSpec.upto fnExactKeysUnderSpec)

/-- 'laws.FnExactMachOf', WHERE WHAT IT READS IS OF BULK AT MOST 1048576: true; the input reads as it did. -/
def fnExactMachOfUptoRow : OpenClaim := { program := "ytnccenfdclmkkaa", sum := "3a07c6c1e27d10fbe8d417af29b88123e7fab3e0e13fde8a7b3f3a268c8fedbd", func := "loop.example/g00974/laws.FnExactMachOf", spec := "fnExactMachOf", apart := false, narrowed := true }
def FnExactMachOfUptoSaid : Prop := fnExactMachOfUptoRow.holds Try.pinned (OpenSpec.upto fnExactMachOfSpec)

/-- 'laws.FnExactAddSpan', WHERE WHAT IT READS IS OF BULK AT MOST 1048576: true; the input reads as it did. -/
def fnExactAddSpanUptoRow : OpenClaim := { program := "ytnccenfdclmkkaa", sum := "3a07c6c1e27d10fbe8d417af29b88123e7fab3e0e13fde8a7b3f3a268c8fedbd", func := "loop.example/g00974/laws.FnExactAddSpan", spec := "fnExactAddSpan", inPlace := ["slices.overlaps[string]"], unfollowed := true, recurses := true, apart := false, narrowed := true }
def FnExactAddSpanUptoSaid : Prop := fnExactAddSpanUptoRow.holds Try.pinned (OpenSpec.upto fnExactAddSpanSpec)

end Rows
end Go.Proofs.Ytnccenfdclmkkaa
