/-
  No cell of these rows narrows 'for every input' (looked for: loops, veiled, ifaces, maps, wideKeys, modest, calm, conditions, laid).
  DERIVED. THE GIVEN ROWS OF THIS SEAT. 8 by the template 'for every input the law returns true; each argument reads behind the call as it read before'; 0 by the template 'total and deterministic' (their statements: YtillkpjhbakgfaaTotals.lean).
  GIVEN WITH THE SEED: the statements are not yours to turn. If you find one false, say at which input.
  Laid BY PROGRAM, IN A SANDBOX (cutbox-rows.mjs): the forced cells as the released guide's own fill.sh prints them over the translation d846d60486636c70… (all of the seat's roots in one cut). By AI agents, Wed Nov 11 2026. No macro, syntax, notation, axiom, sorry.
-/
import Derived.Test.YtillkpjhbakgfaaChecked
import GoSem.Claim
import GoSem.ClaimJoined
import GoSem.ClaimMapViews
import Derived.JoinedTies
import Derived.KernelRfl
namespace Go.Proofs.Ytillkpjhbakgfaa
/- THE CELL 'sum', in the pinned program and in every row, IS THE sha256 OF THE DUMP (.gsa) THAT YtillkpjhbakgfaaProg.lean LOADS. Nothing in Lean hashes anything: it is a label: what it is worth is what the hold of that sum in a sandbox is worth. -/
noncomputable def Try.pinned : Pinned := { name := "ytillkpjhbakgfaa", sum := "d846d60486636c702fc7a81308c3eedc35cd38065c083a776220743225ba4b11", checked := Try.checked }
namespace Rows
def none {H : Type} : Left H := { results := [], args := [] }

/-- 'laws.FnExactAddSpan': WHATEVER THE INPUT: true; the input reads as it did. -/
def fnExactAddSpanSpec : ChangeSpec := { name := "fnExactAddSpan", fn := fun _ => fun
  | [d1, d2] => { results := [.lit (.bool true)], args := [d1, d2] }
  | _ => none }
def fnExactAddSpanRow : OpenClaim := { program := "ytillkpjhbakgfaa", sum := "d846d60486636c702fc7a81308c3eedc35cd38065c083a776220743225ba4b11", func := "loop.example/g00974/laws.FnExactAddSpan", spec := "fnExactAddSpan", inPlace := ["slices.overlaps[string]"], unfollowed := true, recurses := true, apart := false }
def FnExactAddSpanSaid : Prop := fnExactAddSpanRow.holds Try.pinned (OpenSpec.ofChange fnExactAddSpanSpec)

/-- ITS FALSE NEIGHBOUR: 'it returns false'. Refute it at one input. -/
def fnExactAddSpanWrong : ChangeSpec := { name := "fnExactAddSpan", fn := fun _ => fun
  | [d1, d2] => { results := [.lit (.bool false)], args := [d1, d2] }
  | _ => none }
def FnExactAddSpanWrongFalsely : Prop := fnExactAddSpanRow.holds Try.pinned (OpenSpec.ofChange fnExactAddSpanWrong)

/-- 'laws.FnSpans': WHATEVER THE INPUT: true; the input reads as it did. -/
def fnSpansSpec : ChangeSpec := { name := "fnSpans", fn := fun _ => fun
  | [d] => { results := [.lit (.bool true)], args := [d] }
  | _ => none }
def fnSpansRow : OpenClaim := { program := "ytillkpjhbakgfaa", sum := "d846d60486636c702fc7a81308c3eedc35cd38065c083a776220743225ba4b11", func := "loop.example/g00974/laws.FnSpans", spec := "fnSpans", apart := false }
def FnSpansSaid : Prop := fnSpansRow.holds Try.pinned (OpenSpec.ofChange fnSpansSpec)

/-- ITS FALSE NEIGHBOUR: 'it returns false'. Refute it at one input. -/
def fnSpansWrong : ChangeSpec := { name := "fnSpans", fn := fun _ => fun
  | [d] => { results := [.lit (.bool false)], args := [d] }
  | _ => none }
def FnSpansWrongFalsely : Prop := fnSpansRow.holds Try.pinned (OpenSpec.ofChange fnSpansWrong)

/-- 'laws.FnUnderParts': WHATEVER THE INPUT: true; the input reads as it did. -/
def fnUnderPartsSpec : ChangeSpec := { name := "fnUnderParts", fn := fun _ => fun
  | [d] => { results := [.lit (.bool true)], args := [d] }
  | _ => none }
def fnUnderPartsRow : OpenClaim := { program := "ytillkpjhbakgfaa", sum := "d846d60486636c702fc7a81308c3eedc35cd38065c083a776220743225ba4b11", func := "loop.example/g00974/laws.FnUnderParts", spec := "fnUnderParts", apart := false }
def FnUnderPartsSaid : Prop := fnUnderPartsRow.holds Try.pinned (OpenSpec.ofChange fnUnderPartsSpec)

/-- ITS FALSE NEIGHBOUR: 'it returns false'. Refute it at one input. -/
def fnUnderPartsWrong : ChangeSpec := { name := "fnUnderParts", fn := fun _ => fun
  | [d] => { results := [.lit (.bool false)], args := [d] }
  | _ => none }
def FnUnderPartsWrongFalsely : Prop := fnUnderPartsRow.holds Try.pinned (OpenSpec.ofChange fnUnderPartsWrong)

/-- 'laws.FnExactHex': WHATEVER THE INPUT: true; the input reads as it did. -/
def fnExactHexSpec : ChangeSpec := { name := "fnExactHex", fn := fun _ => fun
  | [d] => { results := [.lit (.bool true)], args := [d] }
  | _ => none }
def fnExactHexRow : OpenClaim := { program := "ytillkpjhbakgfaa", sum := "d846d60486636c702fc7a81308c3eedc35cd38065c083a776220743225ba4b11", func := "loop.example/g00974/laws.FnExactHex", spec := "fnExactHex", apart := false }
def FnExactHexSaid : Prop := fnExactHexRow.holds Try.pinned (OpenSpec.ofChange fnExactHexSpec)

/-- ITS FALSE NEIGHBOUR: 'it returns false'. Refute it at one input. -/
def fnExactHexWrong : ChangeSpec := { name := "fnExactHex", fn := fun _ => fun
  | [d] => { results := [.lit (.bool false)], args := [d] }
  | _ => none }
def FnExactHexWrongFalsely : Prop := fnExactHexRow.holds Try.pinned (OpenSpec.ofChange fnExactHexWrong)

/-- 'laws.FnExactPutKey': WHATEVER THE INPUT: true; the input reads as it did. -/
def fnExactPutKeySpec : ChangeSpec := { name := "fnExactPutKey", fn := fun _ => fun
  | [d1, d2, d3] => { results := [.lit (.bool true)], args := [d1, d2, d3] }
  | _ => none }
def fnExactPutKeyRow : OpenClaim := { program := "ytillkpjhbakgfaa", sum := "d846d60486636c702fc7a81308c3eedc35cd38065c083a776220743225ba4b11", func := "loop.example/g00974/laws.FnExactPutKey", spec := "fnExactPutKey", inPlace := ["slices.overlaps[loop.example/g00974/impl.Cell]"], unfollowed := true, recurses := true, apart := false }
def FnExactPutKeySaid : Prop := fnExactPutKeyRow.holds Try.pinned (OpenSpec.ofChange fnExactPutKeySpec)

/-- ITS FALSE NEIGHBOUR: 'it returns false'. Refute it at one input. -/
def fnExactPutKeyWrong : ChangeSpec := { name := "fnExactPutKey", fn := fun _ => fun
  | [d1, d2, d3] => { results := [.lit (.bool false)], args := [d1, d2, d3] }
  | _ => none }
def FnExactPutKeyWrongFalsely : Prop := fnExactPutKeyRow.holds Try.pinned (OpenSpec.ofChange fnExactPutKeyWrong)

/-- 'laws.FnPutOrder': WHATEVER THE INPUT: true; the input reads as it did. -/
def fnPutOrderSpec : ChangeSpec := { name := "fnPutOrder", fn := fun _ => fun
  | [d] => { results := [.lit (.bool true)], args := [d] }
  | _ => none }
def fnPutOrderRow : OpenClaim := { program := "ytillkpjhbakgfaa", sum := "d846d60486636c702fc7a81308c3eedc35cd38065c083a776220743225ba4b11", func := "loop.example/g00974/laws.FnPutOrder", spec := "fnPutOrder", inPlace := ["slices.overlaps[loop.example/g00974/impl.Cell]"], unfollowed := true, recurses := true, apart := false }
def FnPutOrderSaid : Prop := fnPutOrderRow.holds Try.pinned (OpenSpec.ofChange fnPutOrderSpec)

/-- ITS FALSE NEIGHBOUR: 'it returns false'. Refute it at one input. -/
def fnPutOrderWrong : ChangeSpec := { name := "fnPutOrder", fn := fun _ => fun
  | [d] => { results := [.lit (.bool false)], args := [d] }
  | _ => none }
def FnPutOrderWrongFalsely : Prop := fnPutOrderRow.holds Try.pinned (OpenSpec.ofChange fnPutOrderWrong)

/-- 'laws.FnPutGet': WHATEVER THE INPUT: true; the input reads as it did. -/
def fnPutGetSpec : ChangeSpec := { name := "fnPutGet", fn := fun _ => fun
  | [d] => { results := [.lit (.bool true)], args := [d] }
  | _ => none }
def fnPutGetRow : OpenClaim := { program := "ytillkpjhbakgfaa", sum := "d846d60486636c702fc7a81308c3eedc35cd38065c083a776220743225ba4b11", func := "loop.example/g00974/laws.FnPutGet", spec := "fnPutGet", inPlace := ["slices.overlaps[loop.example/g00974/impl.Cell]"], unfollowed := true, recurses := true, apart := false }
def FnPutGetSaid : Prop := fnPutGetRow.holds Try.pinned (OpenSpec.ofChange fnPutGetSpec)

/-- ITS FALSE NEIGHBOUR: 'it returns false'. Refute it at one input. -/
def fnPutGetWrong : ChangeSpec := { name := "fnPutGet", fn := fun _ => fun
  | [d] => { results := [.lit (.bool false)], args := [d] }
  | _ => none }
def FnPutGetWrongFalsely : Prop := fnPutGetRow.holds Try.pinned (OpenSpec.ofChange fnPutGetWrong)

/-- 'laws.FnStores': WHATEVER THE INPUT: true; the input reads as it did. -/
def fnStoresSpec : ChangeSpec := { name := "fnStores", fn := fun _ => fun
  | [d] => { results := [.lit (.bool true)], args := [d] }
  | _ => none }
def fnStoresRow : OpenClaim := { program := "ytillkpjhbakgfaa", sum := "d846d60486636c702fc7a81308c3eedc35cd38065c083a776220743225ba4b11", func := "loop.example/g00974/laws.FnStores", spec := "fnStores", inPlace := ["slices.overlaps[loop.example/g00974/impl.Cell]"], unfollowed := true, recurses := true, apart := false }
def FnStoresSaid : Prop := fnStoresRow.holds Try.pinned (OpenSpec.ofChange fnStoresSpec)

/-- ITS FALSE NEIGHBOUR: 'it returns false'. Refute it at one input. -/
def fnStoresWrong : ChangeSpec := { name := "fnStores", fn := fun _ => fun
  | [d] => { results := [.lit (.bool false)], args := [d] }
  | _ => none }
def FnStoresWrongFalsely : Prop := fnStoresRow.holds Try.pinned (OpenSpec.ofChange fnStoresWrong)

/- THE SECOND FORM. 'bulk': how many values and letters a reading holds, each counted each time it is reached (what is shared counts as often as it is met; a slice's spare places count too). A statement '..UptoSaid' is the law's where the arguments, and the package variables that the reading takes, are together of bulk at most 1048576: NARROWER than '..Said'. Prove '..Said' where nothing that the law and all that it calls make is longer than what came in: it says more and counts as full. Else prove '..UptoSaid'. A law counts once. -/
mutual
def uptoBulk {H : Type} : DataW H → Nat
  | .lit (.string bytes) => bytes.length + 1
  | .lit _ => 1
  | .nil => 1
  | .ptr d => uptoBulk d + 1
  | .slice elems spare => uptoBulkAll elems + uptoBulkAll spare + 1
  | .agg parts => uptoBulkAll parts + 1
  | .iface _ d => uptoBulk d + 1
  | .map entries => uptoBulkEntries entries + 1
  | .held _ => 1
def uptoBulkAll {H : Type} : List (DataW H) → Nat
  | [] => 0
  | d :: r => uptoBulk d + uptoBulkAll r
def uptoBulkEntries {H : Type} : List (Lit × DataW H) → Nat
  | [] => 0
  | x :: r => uptoBulkEntry x + uptoBulkEntries r
def uptoBulkEntry {H : Type} : Lit × DataW H → Nat
  | (.string bytes, d) => bytes.length + uptoBulk d + 1
  | (_, d) => uptoBulk d + 1
 end
def uptoSmall : (H : Type) → List (DataW H) → Bool := fun _ ds => decide (uptoBulkAll ds ≤ 1048576)
def OpenSpec.upto (s : _root_.Go.ChangeSpec) : _root_.Go.OpenSpec := { _root_.Go.OpenSpec.ofChange s with cond := some uptoSmall }

/-- 'laws.FnExactAddSpan', WHERE WHAT IT READS IS OF BULK AT MOST 1048576: true; the input reads as it did. -/
def fnExactAddSpanUptoRow : OpenClaim := { program := "ytillkpjhbakgfaa", sum := "d846d60486636c702fc7a81308c3eedc35cd38065c083a776220743225ba4b11", func := "loop.example/g00974/laws.FnExactAddSpan", spec := "fnExactAddSpan", inPlace := ["slices.overlaps[string]"], unfollowed := true, recurses := true, apart := false, narrowed := true }
def FnExactAddSpanUptoSaid : Prop := fnExactAddSpanUptoRow.holds Try.pinned (OpenSpec.upto fnExactAddSpanSpec)

/-- 'laws.FnSpans', WHERE WHAT IT READS IS OF BULK AT MOST 1048576: true; the input reads as it did. -/
def fnSpansUptoRow : OpenClaim := { program := "ytillkpjhbakgfaa", sum := "d846d60486636c702fc7a81308c3eedc35cd38065c083a776220743225ba4b11", func := "loop.example/g00974/laws.FnSpans", spec := "fnSpans", apart := false, narrowed := true }
def FnSpansUptoSaid : Prop := fnSpansUptoRow.holds Try.pinned (OpenSpec.upto fnSpansSpec)

/-- 'laws.FnUnderParts', WHERE WHAT IT READS IS OF BULK AT MOST 1048576: true; the input reads as it did. -/
def fnUnderPartsUptoRow : OpenClaim := { program := "ytillkpjhbakgfaa", sum := "d846d60486636c702fc7a81308c3eedc35cd38065c083a776220743225ba4b11", func := "loop.example/g00974/laws.FnUnderParts", spec := "fnUnderParts", apart := false, narrowed := true }
def FnUnderPartsUptoSaid : Prop := fnUnderPartsUptoRow.holds Try.pinned (OpenSpec.upto fnUnderPartsSpec)

/-- 'laws.FnExactHex', WHERE WHAT IT READS IS OF BULK AT MOST 1048576: true; the input reads as it did. -/
def fnExactHexUptoRow : OpenClaim := { program := "ytillkpjhbakgfaa", sum := "d846d60486636c702fc7a81308c3eedc35cd38065c083a776220743225ba4b11", func := "loop.example/g00974/laws.FnExactHex", spec := "fnExactHex", apart := false, narrowed := true }
def FnExactHexUptoSaid : Prop := fnExactHexUptoRow.holds Try.pinned (OpenSpec.upto fnExactHexSpec)

/-- 'laws.FnExactPutKey', WHERE WHAT IT READS IS OF BULK AT MOST 1048576: true; the input reads as it did. -/
def fnExactPutKeyUptoRow : OpenClaim := { program := "ytillkpjhbakgfaa", sum := "d846d60486636c702fc7a81308c3eedc35cd38065c083a776220743225ba4b11", func := "loop.example/g00974/laws.FnExactPutKey", spec := "fnExactPutKey", inPlace := ["slices.overlaps[loop.example/g00974/impl.Cell]"], unfollowed := true, recurses := true, apart := false, narrowed := true }
def FnExactPutKeyUptoSaid : Prop := fnExactPutKeyUptoRow.holds Try.pinned (OpenSpec.upto fnExactPutKeySpec)

/-- 'laws.FnPutOrder', WHERE WHAT IT READS IS OF BULK AT MOST 1048576: true; the input reads as it did. -/
def fnPutOrderUptoRow : OpenClaim := { program := "ytillkpjhbakgfaa", sum := "d846d60486636c702fc7a81308c3eedc35cd38065c083a776220743225ba4b11", func := "loop.example/g00974/laws.FnPutOrder", spec := "fnPutOrder", inPlace := ["slices.overlaps[loop.example/g00974/impl.Cell]"], unfollowed := true, recurses := true, apart := false, narrowed := true }
def FnPutOrderUptoSaid : Prop := fnPutOrderUptoRow.holds Try.pinned (OpenSpec.upto fnPutOrderSpec)

/-- 'laws.FnPutGet', WHERE WHAT IT READS IS OF BULK AT MOST 1048576: true; the input reads as it did. -/
def fnPutGetUptoRow : OpenClaim := { program := "ytillkpjhbakgfaa", sum := "d846d60486636c702fc7a81308c3eedc35cd38065c083a776220743225ba4b11", func := "loop.example/g00974/laws.FnPutGet", spec := "fnPutGet", inPlace := ["slices.overlaps[loop.example/g00974/impl.Cell]"], unfollowed := true, recurses := true, apart := false, narrowed := true }
def FnPutGetUptoSaid : Prop := fnPutGetUptoRow.holds Try.pinned (OpenSpec.upto fnPutGetSpec)

/-- 'laws.FnStores', WHERE WHAT IT READS IS OF BULK AT MOST 1048576: true; the input reads as it did. -/
def fnStoresUptoRow : OpenClaim := { program := "ytillkpjhbakgfaa", sum := "d846d60486636c702fc7a81308c3eedc35cd38065c083a776220743225ba4b11", func := "loop.example/g00974/laws.FnStores", spec := "fnStores", inPlace := ["slices.overlaps[loop.example/g00974/impl.Cell]"], unfollowed := true, recurses := true, apart := false, narrowed := true }
def FnStoresUptoSaid : Prop := fnStoresUptoRow.holds Try.pinned (OpenSpec.upto fnStoresSpec)

end Rows
end Go.Proofs.Ytillkpjhbakgfaa
