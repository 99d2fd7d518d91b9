/-
  DERIVED. GIVEN WITH THE SEED: THE CARDS: each row of YtedbmmoddemngaaDoorRows.lean that lists a variable, with what it lists TIED to the program's text (the seventh form; the later family's looks); each row that meets fmt, with fmt's text TOLD by the authors' own Lean function (tested against real Go, not proved from fmt's source: count such statements apart). THE CARD IS WHAT COUNTS. Prove the row's statement (the work); the ties are given (YtedbmmoddemngaaDoorTie.lean); close each card by the builder's one call (the guide's Derived/Test/ToyasCard.lean, 'card_holds'). Laid BY PROGRAM, IN A SANDBOX (cutbox-door.mjs). By AI agents, Wed Nov 11 2026. No macro, syntax, notation, axiom, sorry.
-/
import Derived.Test.YtedbmmoddemngaaDoorRows
import GoSem.ClaimSeven
namespace Go.Proofs.YtedbmmoddemngaaDoor
namespace Rows

/-- THE TIED CARD OF 'laws.FnExactDecimal'. -/
def fnExactDecimalCard : Claim7 := { stood := { row := fnExactDecimalRow, standIns := [], harness := (true, "a394b0db006c70c03e36c392521b106b757790137339a8f1ab7d24a56b76f51b"), looks := true }, kinds := [], alts := [], laidByText := true, laidKinds := [.data, .data, .data], laidTests := true, laidLooks := .later }
def FnExactDecimalCardSaid : Prop := Claim7.holds Tryd.pinned (.plain (OpenSpec.ofChange fnExactDecimalSpec)) fnExactDecimalCard

/-- THE TIED CARD OF 'laws.FnExactKeyNum'. -/
def fnExactKeyNumCard : Claim7 := { stood := { row := fnExactKeyNumRow, standIns := [], harness := (true, "a394b0db006c70c03e36c392521b106b757790137339a8f1ab7d24a56b76f51b"), looks := true }, kinds := [], alts := [], laidByText := true, laidKinds := [.data, .data, .data], laidTests := true, laidLooks := .later }
def FnExactKeyNumCardSaid : Prop := Claim7.holds Tryd.pinned (.plain (OpenSpec.ofChange fnExactKeyNumSpec)) fnExactKeyNumCard

/-- THE TIED CARD OF 'laws.FnExactReadDecimal'. -/
def fnExactReadDecimalCard : Claim7 := { stood := { row := fnExactReadDecimalRow, standIns := [], harness := (true, "a394b0db006c70c03e36c392521b106b757790137339a8f1ab7d24a56b76f51b"), looks := true }, kinds := [], alts := [], laidByText := true, laidKinds := [.data, .data, .data, .sentinel, .sentinel], laidTests := true, laidLooks := .later }
def FnExactReadDecimalCardSaid : Prop := Claim7.holds Tryd.pinned (.plain (OpenSpec.ofChange fnExactReadDecimalSpec)) fnExactReadDecimalCard

/-- THE TIED CARD OF 'laws.FnExactNumOf'. -/
def fnExactNumOfCard : Claim7 := { stood := { row := fnExactNumOfRow, standIns := [], harness := (true, "a394b0db006c70c03e36c392521b106b757790137339a8f1ab7d24a56b76f51b"), looks := true }, kinds := [], alts := [], laidByText := true, laidKinds := [.data, .data, .data, .sentinel, .sentinel], laidTests := true, laidLooks := .later }
def FnExactNumOfCardSaid : Prop := Claim7.holds Tryd.pinned (.plain (OpenSpec.ofChange fnExactNumOfSpec)) fnExactNumOfCard

/-- THE TIED CARD OF 'laws.FnExactAnswerText'. -/
def fnExactAnswerTextCard : Claim7 := { stood := { row := fnExactAnswerTextRow, standIns := [], harness := (true, "a394b0db006c70c03e36c392521b106b757790137339a8f1ab7d24a56b76f51b"), looks := true }, kinds := [], alts := [], laidByText := true, laidKinds := [.data, .data, .data], laidTests := true, laidLooks := .later }
def FnExactAnswerTextCardSaid : Prop := Claim7.holds Tryd.pinned (.plain (OpenSpec.ofChange fnExactAnswerTextSpec)) fnExactAnswerTextCard

/-- THE TIED CARD OF 'laws.FnFigures'. -/
def fnFiguresCard : Claim7 := { stood := { row := fnFiguresRow, standIns := [], harness := (true, "a394b0db006c70c03e36c392521b106b757790137339a8f1ab7d24a56b76f51b"), looks := true }, kinds := [], alts := [], laidByText := true, laidKinds := [.data, .data, .data, .sentinel, .sentinel, .sentinel], laidTests := true, laidLooks := .later }
def FnFiguresCardSaid : Prop := Claim7.holds Tryd.pinned (.plain (OpenSpec.ofChange fnFiguresSpec)) fnFiguresCard

/-- THE TIED CARD OF 'laws.FnExactOutCount'. -/
def fnExactOutCountCard : Claim7 := { stood := { row := fnExactOutCountRow, standIns := [], harness := (true, "a394b0db006c70c03e36c392521b106b757790137339a8f1ab7d24a56b76f51b"), looks := true }, kinds := [], alts := [], laidByText := true, laidKinds := [.data, .data, .data, .sentinel, .sentinel], laidTests := true, laidLooks := .later }
def FnExactOutCountCardSaid : Prop := Claim7.holds Tryd.pinned (.plain (OpenSpec.ofChange fnExactOutCountSpec)) fnExactOutCountCard

/-- THE TIED CARD OF 'laws.FnExactOutsIn'. -/
def fnExactOutsInCard : Claim7 := { stood := { row := fnExactOutsInRow, standIns := [], harness := (true, "a394b0db006c70c03e36c392521b106b757790137339a8f1ab7d24a56b76f51b"), looks := true }, kinds := [], alts := [], laidByText := true, laidKinds := [.data, .data, .data, .sentinel, .sentinel, .sentinel], laidTests := true, laidLooks := .later }
def FnExactOutsInCardSaid : Prop := Claim7.holds Tryd.pinned (.plain (OpenSpec.ofChange fnExactOutsInSpec)) fnExactOutsInCard

/-- THE TIED CARD OF 'laws.FnExactOutsFrom'. -/
def fnExactOutsFromCard : Claim7 := { stood := { row := fnExactOutsFromRow, standIns := [], harness := (true, "a394b0db006c70c03e36c392521b106b757790137339a8f1ab7d24a56b76f51b"), looks := true }, kinds := [], alts := [], laidByText := true, laidKinds := [.data, .data, .data, .sentinel, .sentinel, .sentinel], laidTests := true, laidLooks := .later }
def FnExactOutsFromCardSaid : Prop := Claim7.holds Tryd.pinned (.plain (OpenSpec.ofChange fnExactOutsFromSpec)) fnExactOutsFromCard

/-- THE TIED CARD OF 'laws.FnCallsTold'. -/
def fnCallsToldCard : Claim7 := { stood := { row := fnCallsToldRow, standIns := [], harness := (true, "a394b0db006c70c03e36c392521b106b757790137339a8f1ab7d24a56b76f51b"), looks := true }, kinds := [], alts := [], laidByText := true, laidKinds := [.widerDeep], laidTests := true, laidLooks := .later }
def FnCallsToldCardSaid : Prop := Claim7.holds Tryd.pinned (.plain (OpenSpec.ofChange fnCallsToldSpec)) fnCallsToldCard

/-- THE SECOND FORM's CARD OF 'laws.FnExactDecimal'. -/
def fnExactDecimalUptoCard : Claim7 := { stood := { row := fnExactDecimalUptoRow, standIns := [], harness := (true, "a394b0db006c70c03e36c392521b106b757790137339a8f1ab7d24a56b76f51b"), looks := true }, kinds := [], alts := [], laidByText := true, laidKinds := [.data, .data, .data], laidTests := true, laidLooks := .later }
def FnExactDecimalUptoCardSaid : Prop := Claim7.holds Tryd.pinned (.plain (OpenSpec.upto fnExactDecimalSpec)) fnExactDecimalUptoCard

/-- THE SECOND FORM's CARD OF 'laws.FnExactKeyNum'. -/
def fnExactKeyNumUptoCard : Claim7 := { stood := { row := fnExactKeyNumUptoRow, standIns := [], harness := (true, "a394b0db006c70c03e36c392521b106b757790137339a8f1ab7d24a56b76f51b"), looks := true }, kinds := [], alts := [], laidByText := true, laidKinds := [.data, .data, .data], laidTests := true, laidLooks := .later }
def FnExactKeyNumUptoCardSaid : Prop := Claim7.holds Tryd.pinned (.plain (OpenSpec.upto fnExactKeyNumSpec)) fnExactKeyNumUptoCard

/-- THE SECOND FORM's CARD OF 'laws.FnExactReadDecimal'. -/
def fnExactReadDecimalUptoCard : Claim7 := { stood := { row := fnExactReadDecimalUptoRow, standIns := [], harness := (true, "a394b0db006c70c03e36c392521b106b757790137339a8f1ab7d24a56b76f51b"), looks := true }, kinds := [], alts := [], laidByText := true, laidKinds := [.data, .data, .data, .sentinel, .sentinel], laidTests := true, laidLooks := .later }
def FnExactReadDecimalUptoCardSaid : Prop := Claim7.holds Tryd.pinned (.plain (OpenSpec.upto fnExactReadDecimalSpec)) fnExactReadDecimalUptoCard

/-- THE SECOND FORM's CARD OF 'laws.FnExactNumOf'. -/
def fnExactNumOfUptoCard : Claim7 := { stood := { row := fnExactNumOfUptoRow, standIns := [], harness := (true, "a394b0db006c70c03e36c392521b106b757790137339a8f1ab7d24a56b76f51b"), looks := true }, kinds := [], alts := [], laidByText := true, laidKinds := [.data, .data, .data, .sentinel, .sentinel], laidTests := true, laidLooks := .later }
def FnExactNumOfUptoCardSaid : Prop := Claim7.holds Tryd.pinned (.plain (OpenSpec.upto fnExactNumOfSpec)) fnExactNumOfUptoCard

/-- THE SECOND FORM's CARD OF 'laws.FnExactAnswerText'. -/
def fnExactAnswerTextUptoCard : Claim7 := { stood := { row := fnExactAnswerTextUptoRow, standIns := [], harness := (true, "a394b0db006c70c03e36c392521b106b757790137339a8f1ab7d24a56b76f51b"), looks := true }, kinds := [], alts := [], laidByText := true, laidKinds := [.data, .data, .data], laidTests := true, laidLooks := .later }
def FnExactAnswerTextUptoCardSaid : Prop := Claim7.holds Tryd.pinned (.plain (OpenSpec.upto fnExactAnswerTextSpec)) fnExactAnswerTextUptoCard

/-- THE SECOND FORM's CARD OF 'laws.FnFigures'. -/
def fnFiguresUptoCard : Claim7 := { stood := { row := fnFiguresUptoRow, standIns := [], harness := (true, "a394b0db006c70c03e36c392521b106b757790137339a8f1ab7d24a56b76f51b"), looks := true }, kinds := [], alts := [], laidByText := true, laidKinds := [.data, .data, .data, .sentinel, .sentinel, .sentinel], laidTests := true, laidLooks := .later }
def FnFiguresUptoCardSaid : Prop := Claim7.holds Tryd.pinned (.plain (OpenSpec.upto fnFiguresSpec)) fnFiguresUptoCard

/-- THE SECOND FORM's CARD OF 'laws.FnExactOutCount'. -/
def fnExactOutCountUptoCard : Claim7 := { stood := { row := fnExactOutCountUptoRow, standIns := [], harness := (true, "a394b0db006c70c03e36c392521b106b757790137339a8f1ab7d24a56b76f51b"), looks := true }, kinds := [], alts := [], laidByText := true, laidKinds := [.data, .data, .data, .sentinel, .sentinel], laidTests := true, laidLooks := .later }
def FnExactOutCountUptoCardSaid : Prop := Claim7.holds Tryd.pinned (.plain (OpenSpec.upto fnExactOutCountSpec)) fnExactOutCountUptoCard

/-- THE SECOND FORM's CARD OF 'laws.FnExactOutsIn'. -/
def fnExactOutsInUptoCard : Claim7 := { stood := { row := fnExactOutsInUptoRow, standIns := [], harness := (true, "a394b0db006c70c03e36c392521b106b757790137339a8f1ab7d24a56b76f51b"), looks := true }, kinds := [], alts := [], laidByText := true, laidKinds := [.data, .data, .data, .sentinel, .sentinel, .sentinel], laidTests := true, laidLooks := .later }
def FnExactOutsInUptoCardSaid : Prop := Claim7.holds Tryd.pinned (.plain (OpenSpec.upto fnExactOutsInSpec)) fnExactOutsInUptoCard

/-- THE SECOND FORM's CARD OF 'laws.FnExactOutsFrom'. -/
def fnExactOutsFromUptoCard : Claim7 := { stood := { row := fnExactOutsFromUptoRow, standIns := [], harness := (true, "a394b0db006c70c03e36c392521b106b757790137339a8f1ab7d24a56b76f51b"), looks := true }, kinds := [], alts := [], laidByText := true, laidKinds := [.data, .data, .data, .sentinel, .sentinel, .sentinel], laidTests := true, laidLooks := .later }
def FnExactOutsFromUptoCardSaid : Prop := Claim7.holds Tryd.pinned (.plain (OpenSpec.upto fnExactOutsFromSpec)) fnExactOutsFromUptoCard

/-- THE SECOND FORM's CARD OF 'laws.FnCallsTold'. -/
def fnCallsToldUptoCard : Claim7 := { stood := { row := fnCallsToldUptoRow, standIns := [], harness := (true, "a394b0db006c70c03e36c392521b106b757790137339a8f1ab7d24a56b76f51b"), looks := true }, kinds := [], alts := [], laidByText := true, laidKinds := [.widerDeep], laidTests := true, laidLooks := .later }
def FnCallsToldUptoCardSaid : Prop := Claim7.holds Tryd.pinned (.plain (OpenSpec.upto fnCallsToldSpec)) fnCallsToldUptoCard
end Rows
end Go.Proofs.YtedbmmoddemngaaDoor
