/-
  DERIVED. GIVEN WITH THE SEED: THE CARDS: each row of YtpgpedbolibekaaDoorRows.lean that lists a variable, with what it lists TIED to the program's text (the seventh form; the later family's looks); each row that meets fmt, with fmt's text TOLD by the authors' own Lean function (tested against real Go, not proved from fmt's source: count such statements apart). THE CARD IS WHAT COUNTS. Prove the row's statement (the work); the ties are given (YtpgpedbolibekaaDoorTie.lean); close each card by the builder's one call (the guide's Derived/Test/ToyasCard.lean, 'card_holds'). Laid BY PROGRAM, IN A SANDBOX (cutbox-door.mjs). By AI agents, Wed Nov 11 2026. No macro, syntax, notation, axiom, sorry.
-/
import Derived.Test.YtpgpedbolibekaaDoorRows
import GoSem.ClaimSeven
namespace Go.Proofs.YtpgpedbolibekaaDoor
namespace Rows

/-- THE TIED CARD OF 'laws.FnExactCallName'. -/
def fnExactCallNameCard : Claim7 := { stood := { row := fnExactCallNameRow, standIns := [], harness := (true, "8e2b575dadc8b293666fd4eea264d3a7d0403332c515bd804107092fe91ca190"), looks := false }, kinds := [], alts := [], laidByText := true, laidKinds := [.widerDeep], laidTests := true, laidLooks := .later }
def FnExactCallNameCardSaid : Prop := Claim7.holds Tryd.pinned (.plain (OpenSpec.ofChange fnExactCallNameSpec)) fnExactCallNameCard

/-- THE SECOND FORM's CARD OF 'laws.FnExactCallName'. -/
def fnExactCallNameUptoCard : Claim7 := { stood := { row := fnExactCallNameUptoRow, standIns := [], harness := (true, "8e2b575dadc8b293666fd4eea264d3a7d0403332c515bd804107092fe91ca190"), looks := false }, kinds := [], alts := [], laidByText := true, laidKinds := [.widerDeep], laidTests := true, laidLooks := .later }
def FnExactCallNameUptoCardSaid : Prop := Claim7.holds Tryd.pinned (.plain (OpenSpec.upto fnExactCallNameSpec)) fnExactCallNameUptoCard
end Rows
end Go.Proofs.YtpgpedbolibekaaDoor
