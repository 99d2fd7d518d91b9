/-
  DERIVED. GIVEN WITH THE SEED: THE CARDS: each row of YtjlmoghifkgehaaDoorRows.lean that lists a variable, with what it lists TIED to the program's text (the seventh form; the later family's looks); each row that meets fmt, with fmt's text TOLD by the authors' own Lean function (tested against real Go, not proved from fmt's source: count such statements apart). THE CARD IS WHAT COUNTS. Prove the row's statement (the work); the ties are given (YtjlmoghifkgehaaDoorTie.lean); close each card by the builder's one call (the guide's Derived/Test/ToyasCard.lean, 'card_holds'). Laid BY PROGRAM, IN A SANDBOX (cutbox-door.mjs). By AI agents, Wed Nov 11 2026. No macro, syntax, notation, axiom, sorry.
-/
import Derived.Test.YtjlmoghifkgehaaDoorRows
import GoSem.ClaimSeven
namespace Go.Proofs.YtjlmoghifkgehaaDoor
namespace Rows

/-- THE TIED CARD OF 'laws.FnExactBoot'. -/
def fnExactBootCard : Claim7 := { stood := { row := fnExactBootRow, standIns := [], harness := (true, "31bf58c4c7bf8e50b2f00e8a6f21657a1729db3418361ce33dcc443b837fb643"), looks := true }, kinds := [], alts := [], laidByText := true, laidKinds := [.data, .data, .data, .sentinel, .sentinel], laidTests := true, laidLooks := .later }
def FnExactBootCardSaid : Prop := Claim7.holds Tryd.pinned (.plain (OpenSpec.ofChange fnExactBootSpec)) fnExactBootCard

/-- THE SECOND FORM's CARD OF 'laws.FnExactBoot'. -/
def fnExactBootUptoCard : Claim7 := { stood := { row := fnExactBootUptoRow, standIns := [], harness := (true, "31bf58c4c7bf8e50b2f00e8a6f21657a1729db3418361ce33dcc443b837fb643"), looks := true }, kinds := [], alts := [], laidByText := true, laidKinds := [.data, .data, .data, .sentinel, .sentinel], laidTests := true, laidLooks := .later }
def FnExactBootUptoCardSaid : Prop := Claim7.holds Tryd.pinned (.plain (OpenSpec.upto fnExactBootSpec)) fnExactBootUptoCard
end Rows
end Go.Proofs.YtjlmoghifkgehaaDoor
