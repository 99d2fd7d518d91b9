/-
  DERIVED. GIVEN WITH THE SEED: THE CARDS: each row of YtihghflppegnmaaGreatDoorRows.lean that lists a variable, with what it lists TIED to the program's text (the seventh form; the later family's looks); each row that meets fmt, with fmt's text TOLD by the authors' own Lean function (tested against real Go, not proved from fmt's source: count such statements apart). THE CARD IS WHAT COUNTS. Prove the row's statement (the work); the ties are given (YtihghflppegnmaaGreatDoorTie.lean); close each card by the builder's one call (the guide's Derived/Test/ToyasCard.lean, 'card_holds'). Laid BY PROGRAM, IN A SANDBOX (cutbox-door.mjs). By AI agents, Wed Nov 11 2026. No macro, syntax, notation, axiom, sorry.
-/
import Derived.Test.YtihghflppegnmaaGreatDoorRows
import GoSem.ClaimSeven
namespace Go.Proofs.YtihghflppegnmaaGreatDoor
namespace Rows

/-- THE TIED CARD OF 'laws.FnNewKid'. -/
def fnNewKidCard : Claim7 := { stood := { row := fnNewKidRow, standIns := [], harness := (true, "d8b1018ee02a441800818dac90769dbc09caff18266711d159069bc0b79c8719"), looks := true }, kinds := [], alts := [], laidByText := true, laidKinds := [.data, .data, .data, .sentinel, .sentinel, .sentinel], laidTests := true, laidLooks := .later }
def FnNewKidCardSaid : Prop := Claim7.holds Tryz.pinned (.plain (OpenSpec.ofChange fnNewKidSpec)) fnNewKidCard

/-- THE TIED CARD OF 'laws.FnRefused'. -/
def fnRefusedCard : Claim7 := { stood := { row := fnRefusedRow, standIns := [], harness := (true, "d8b1018ee02a441800818dac90769dbc09caff18266711d159069bc0b79c8719"), looks := true }, kinds := [], alts := [], laidByText := true, laidKinds := [.data, .data, .data, .sentinel, .sentinel, .sentinel], laidTests := true, laidLooks := .later }
def FnRefusedCardSaid : Prop := Claim7.holds Tryz.pinned (.plain (OpenSpec.ofChange fnRefusedSpec)) fnRefusedCard

/-- THE TIED CARD OF 'laws.FnStaysRight'. -/
def fnStaysRightCard : Claim7 := { stood := { row := fnStaysRightRow, standIns := [], harness := (true, "d8b1018ee02a441800818dac90769dbc09caff18266711d159069bc0b79c8719"), looks := true }, kinds := [], alts := [], laidByText := true, laidKinds := [.data, .data, .data, .sentinel, .sentinel, .sentinel], laidTests := true, laidLooks := .later }
def FnStaysRightCardSaid : Prop := Claim7.holds Tryz.pinned (.plain (OpenSpec.ofChange fnStaysRightSpec)) fnStaysRightCard

/-- THE TIED CARD OF 'laws.FnTelling'. -/
def fnTellingCard : Claim7 := { stood := { row := fnTellingRow, standIns := [], harness := (true, "d8b1018ee02a441800818dac90769dbc09caff18266711d159069bc0b79c8719"), looks := true }, kinds := [], alts := [], laidByText := true, laidKinds := [.data, .data, .data, .sentinel, .sentinel, .sentinel], laidTests := true, laidLooks := .later }
def FnTellingCardSaid : Prop := Claim7.holds Tryz.pinned (.plain (OpenSpec.ofChange fnTellingSpec)) fnTellingCard

/-- THE TIED CARD OF 'laws.FnExactCallOn'. -/
def fnExactCallOnCard : Claim7 := { stood := { row := fnExactCallOnRow, standIns := [], harness := (true, "d8b1018ee02a441800818dac90769dbc09caff18266711d159069bc0b79c8719"), looks := true }, kinds := [], alts := [], laidByText := true, laidKinds := [.data, .data, .data, .sentinel, .sentinel, .sentinel], laidTests := true, laidLooks := .later }
def FnExactCallOnCardSaid : Prop := Claim7.holds Tryz.pinned (.plain (OpenSpec.ofChange fnExactCallOnSpec)) fnExactCallOnCard

/-- THE TIED CARD OF 'laws.FnSerial'. -/
def fnSerialCard : Claim7 := { stood := { row := fnSerialRow, standIns := [], harness := (true, "d8b1018ee02a441800818dac90769dbc09caff18266711d159069bc0b79c8719"), looks := true }, kinds := [], alts := [], laidByText := true, laidKinds := [.data, .data, .data, .sentinel, .sentinel, .sentinel], laidTests := true, laidLooks := .later }
def FnSerialCardSaid : Prop := Claim7.holds Tryz.pinned (.plain (OpenSpec.ofChange fnSerialSpec)) fnSerialCard

/-- THE TIED CARD OF 'laws.FnExactAgrees'. -/
def fnExactAgreesCard : Claim7 := { stood := { row := fnExactAgreesRow, standIns := [], harness := (true, "d8b1018ee02a441800818dac90769dbc09caff18266711d159069bc0b79c8719"), looks := true }, kinds := [], alts := [], laidByText := true, laidKinds := [.data, .data, .data, .sentinel, .sentinel, .sentinel], laidTests := true, laidLooks := .later }
def FnExactAgreesCardSaid : Prop := Claim7.holds Tryz.pinned (.plain (OpenSpec.ofChange fnExactAgreesSpec)) fnExactAgreesCard

/-- THE TIED CARD OF 'laws.FnExactSerialTouch'. -/
def fnExactSerialTouchCard : Claim7 := { stood := { row := fnExactSerialTouchRow, standIns := [], harness := (true, "d8b1018ee02a441800818dac90769dbc09caff18266711d159069bc0b79c8719"), looks := true }, kinds := [], alts := [], laidByText := true, laidKinds := [.data, .data, .data, .sentinel, .sentinel, .sentinel], laidTests := true, laidLooks := .later }
def FnExactSerialTouchCardSaid : Prop := Claim7.holds Tryz.pinned (.plain (OpenSpec.ofChange fnExactSerialTouchSpec)) fnExactSerialTouchCard

/-- THE SECOND FORM's CARD OF 'laws.FnNewKid'. -/
def fnNewKidUptoCard : Claim7 := { stood := { row := fnNewKidUptoRow, standIns := [], harness := (true, "d8b1018ee02a441800818dac90769dbc09caff18266711d159069bc0b79c8719"), looks := true }, kinds := [], alts := [], laidByText := true, laidKinds := [.data, .data, .data, .sentinel, .sentinel, .sentinel], laidTests := true, laidLooks := .later }
def FnNewKidUptoCardSaid : Prop := Claim7.holds Tryz.pinned (.plain (OpenSpec.upto fnNewKidSpec)) fnNewKidUptoCard

/-- THE SECOND FORM's CARD OF 'laws.FnRefused'. -/
def fnRefusedUptoCard : Claim7 := { stood := { row := fnRefusedUptoRow, standIns := [], harness := (true, "d8b1018ee02a441800818dac90769dbc09caff18266711d159069bc0b79c8719"), looks := true }, kinds := [], alts := [], laidByText := true, laidKinds := [.data, .data, .data, .sentinel, .sentinel, .sentinel], laidTests := true, laidLooks := .later }
def FnRefusedUptoCardSaid : Prop := Claim7.holds Tryz.pinned (.plain (OpenSpec.upto fnRefusedSpec)) fnRefusedUptoCard

/-- THE SECOND FORM's CARD OF 'laws.FnStaysRight'. -/
def fnStaysRightUptoCard : Claim7 := { stood := { row := fnStaysRightUptoRow, standIns := [], harness := (true, "d8b1018ee02a441800818dac90769dbc09caff18266711d159069bc0b79c8719"), looks := true }, kinds := [], alts := [], laidByText := true, laidKinds := [.data, .data, .data, .sentinel, .sentinel, .sentinel], laidTests := true, laidLooks := .later }
def FnStaysRightUptoCardSaid : Prop := Claim7.holds Tryz.pinned (.plain (OpenSpec.upto fnStaysRightSpec)) fnStaysRightUptoCard

/-- THE SECOND FORM's CARD OF 'laws.FnTelling'. -/
def fnTellingUptoCard : Claim7 := { stood := { row := fnTellingUptoRow, standIns := [], harness := (true, "d8b1018ee02a441800818dac90769dbc09caff18266711d159069bc0b79c8719"), looks := true }, kinds := [], alts := [], laidByText := true, laidKinds := [.data, .data, .data, .sentinel, .sentinel, .sentinel], laidTests := true, laidLooks := .later }
def FnTellingUptoCardSaid : Prop := Claim7.holds Tryz.pinned (.plain (OpenSpec.upto fnTellingSpec)) fnTellingUptoCard

/-- THE SECOND FORM's CARD OF 'laws.FnExactCallOn'. -/
def fnExactCallOnUptoCard : Claim7 := { stood := { row := fnExactCallOnUptoRow, standIns := [], harness := (true, "d8b1018ee02a441800818dac90769dbc09caff18266711d159069bc0b79c8719"), looks := true }, kinds := [], alts := [], laidByText := true, laidKinds := [.data, .data, .data, .sentinel, .sentinel, .sentinel], laidTests := true, laidLooks := .later }
def FnExactCallOnUptoCardSaid : Prop := Claim7.holds Tryz.pinned (.plain (OpenSpec.upto fnExactCallOnSpec)) fnExactCallOnUptoCard

/-- THE SECOND FORM's CARD OF 'laws.FnSerial'. -/
def fnSerialUptoCard : Claim7 := { stood := { row := fnSerialUptoRow, standIns := [], harness := (true, "d8b1018ee02a441800818dac90769dbc09caff18266711d159069bc0b79c8719"), looks := true }, kinds := [], alts := [], laidByText := true, laidKinds := [.data, .data, .data, .sentinel, .sentinel, .sentinel], laidTests := true, laidLooks := .later }
def FnSerialUptoCardSaid : Prop := Claim7.holds Tryz.pinned (.plain (OpenSpec.upto fnSerialSpec)) fnSerialUptoCard

/-- THE SECOND FORM's CARD OF 'laws.FnExactAgrees'. -/
def fnExactAgreesUptoCard : Claim7 := { stood := { row := fnExactAgreesUptoRow, standIns := [], harness := (true, "d8b1018ee02a441800818dac90769dbc09caff18266711d159069bc0b79c8719"), looks := true }, kinds := [], alts := [], laidByText := true, laidKinds := [.data, .data, .data, .sentinel, .sentinel, .sentinel], laidTests := true, laidLooks := .later }
def FnExactAgreesUptoCardSaid : Prop := Claim7.holds Tryz.pinned (.plain (OpenSpec.upto fnExactAgreesSpec)) fnExactAgreesUptoCard

/-- THE SECOND FORM's CARD OF 'laws.FnExactSerialTouch'. -/
def fnExactSerialTouchUptoCard : Claim7 := { stood := { row := fnExactSerialTouchUptoRow, standIns := [], harness := (true, "d8b1018ee02a441800818dac90769dbc09caff18266711d159069bc0b79c8719"), looks := true }, kinds := [], alts := [], laidByText := true, laidKinds := [.data, .data, .data, .sentinel, .sentinel, .sentinel], laidTests := true, laidLooks := .later }
def FnExactSerialTouchUptoCardSaid : Prop := Claim7.holds Tryz.pinned (.plain (OpenSpec.upto fnExactSerialTouchSpec)) fnExactSerialTouchUptoCard
end Rows
end Go.Proofs.YtihghflppegnmaaGreatDoor
