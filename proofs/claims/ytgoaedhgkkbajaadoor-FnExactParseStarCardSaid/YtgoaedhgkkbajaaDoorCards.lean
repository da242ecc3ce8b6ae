/-
  DERIVED. GIVEN WITH THE SEED: THE CARDS: each row of YtgoaedhgkkbajaaDoorRows.lean that lists a variable, with what it lists TIED to the program's text (the seventh form; the later family's looks); each row that meets fmt, with fmt's text TOLD by the authors' own Lean function (tested against real Go, not proved from fmt's source: count such statements apart). THE CARD IS WHAT COUNTS. Prove the row's statement (the work); the ties are given (YtgoaedhgkkbajaaDoorTie.lean); close each card by the builder's one call (the guide's Derived/Test/ToyasCard.lean, 'card_holds'). Laid BY PROGRAM, IN A SANDBOX (cutbox-door.mjs). By AI agents, Wed Nov 11 2026. No macro, syntax, notation, axiom, sorry.
-/
import Derived.Test.YtgoaedhgkkbajaaDoorRows
import GoSem.ClaimSeven
namespace Go.Proofs.YtgoaedhgkkbajaaDoor
namespace Rows

/-- THE TIED CARD OF 'laws.FnExactLineText'. -/
def fnExactLineTextCard : Claim7 := { stood := { row := fnExactLineTextRow, standIns := [], harness := (true, "01358ecccd1a9e2b1c0e1b1ec68d61d3a9d2b04229010835d3197c57c175ccc0"), looks := true }, kinds := [], alts := [], laidByText := true, laidKinds := [.data, .data, .data], laidTests := true, laidLooks := .later }
def FnExactLineTextCardSaid : Prop := Claim7.holds Tryd.pinned (.plain (OpenSpec.ofChange fnExactLineTextSpec)) fnExactLineTextCard

/-- THE TIED CARD OF 'laws.FnExactFracText'. -/
def fnExactFracTextCard : Claim7 := { stood := { row := fnExactFracTextRow, standIns := [], harness := (true, "01358ecccd1a9e2b1c0e1b1ec68d61d3a9d2b04229010835d3197c57c175ccc0"), looks := true }, kinds := [], alts := [], laidByText := true, laidKinds := [.data, .data, .data], laidTests := true, laidLooks := .later }
def FnExactFracTextCardSaid : Prop := Claim7.holds Tryd.pinned (.plain (OpenSpec.ofChange fnExactFracTextSpec)) fnExactFracTextCard

/-- THE TIED CARD OF 'laws.FnExactRootsText'. -/
def fnExactRootsTextCard : Claim7 := { stood := { row := fnExactRootsTextRow, standIns := [], harness := (true, "01358ecccd1a9e2b1c0e1b1ec68d61d3a9d2b04229010835d3197c57c175ccc0"), looks := true }, kinds := [], alts := [], laidByText := true, laidKinds := [.data, .data, .data], laidTests := true, laidLooks := .later }
def FnExactRootsTextCardSaid : Prop := Claim7.holds Tryd.pinned (.plain (OpenSpec.ofChange fnExactRootsTextSpec)) fnExactRootsTextCard

/-- THE TIED CARD OF 'laws.FnExactStarText'. -/
def fnExactStarTextCard : Claim7 := { stood := { row := fnExactStarTextRow, standIns := [], harness := (true, "01358ecccd1a9e2b1c0e1b1ec68d61d3a9d2b04229010835d3197c57c175ccc0"), looks := true }, kinds := [], alts := [], laidByText := true, laidKinds := [.data, .data, .data], laidTests := true, laidLooks := .later }
def FnExactStarTextCardSaid : Prop := Claim7.holds Tryd.pinned (.plain (OpenSpec.ofChange fnExactStarTextSpec)) fnExactStarTextCard

/-- THE TIED CARD OF 'laws.FnExactParseFrac'. -/
def fnExactParseFracCard : Claim7 := { stood := { row := fnExactParseFracRow, standIns := [], harness := (true, "01358ecccd1a9e2b1c0e1b1ec68d61d3a9d2b04229010835d3197c57c175ccc0"), looks := true }, kinds := [], alts := [], laidByText := true, laidKinds := [.data, .data, .data, .sentinel, .sentinel], laidTests := true, laidLooks := .later }
def FnExactParseFracCardSaid : Prop := Claim7.holds Tryd.pinned (.plain (OpenSpec.ofChange fnExactParseFracSpec)) fnExactParseFracCard

/-- THE TIED CARD OF 'laws.FnExactParseLine'. -/
def fnExactParseLineCard : Claim7 := { stood := { row := fnExactParseLineRow, standIns := [], harness := (true, "01358ecccd1a9e2b1c0e1b1ec68d61d3a9d2b04229010835d3197c57c175ccc0"), looks := true }, kinds := [], alts := [], laidByText := true, laidKinds := [.data, .data, .data, .sentinel, .sentinel], laidTests := true, laidLooks := .later }
def FnExactParseLineCardSaid : Prop := Claim7.holds Tryd.pinned (.plain (OpenSpec.ofChange fnExactParseLineSpec)) fnExactParseLineCard

/-- THE TIED CARD OF 'laws.FnExactParseStar'. -/
def fnExactParseStarCard : Claim7 := { stood := { row := fnExactParseStarRow, standIns := [], harness := (true, "01358ecccd1a9e2b1c0e1b1ec68d61d3a9d2b04229010835d3197c57c175ccc0"), looks := true }, kinds := [], alts := [], laidByText := true, laidKinds := [.data, .data, .data, .data, .sentinel, .sentinel, .pinned], laidTests := true, laidLooks := .later }
def FnExactParseStarCardSaid : Prop := Claim7.holds Tryd.pinned (.plain (OpenSpec.ofChange fnExactParseStarSpec)) fnExactParseStarCard

/-- THE SECOND FORM's CARD OF 'laws.FnExactLineText'. -/
def fnExactLineTextUptoCard : Claim7 := { stood := { row := fnExactLineTextUptoRow, standIns := [], harness := (true, "01358ecccd1a9e2b1c0e1b1ec68d61d3a9d2b04229010835d3197c57c175ccc0"), looks := true }, kinds := [], alts := [], laidByText := true, laidKinds := [.data, .data, .data], laidTests := true, laidLooks := .later }
def FnExactLineTextUptoCardSaid : Prop := Claim7.holds Tryd.pinned (.plain (OpenSpec.upto fnExactLineTextSpec)) fnExactLineTextUptoCard

/-- THE SECOND FORM's CARD OF 'laws.FnExactFracText'. -/
def fnExactFracTextUptoCard : Claim7 := { stood := { row := fnExactFracTextUptoRow, standIns := [], harness := (true, "01358ecccd1a9e2b1c0e1b1ec68d61d3a9d2b04229010835d3197c57c175ccc0"), looks := true }, kinds := [], alts := [], laidByText := true, laidKinds := [.data, .data, .data], laidTests := true, laidLooks := .later }
def FnExactFracTextUptoCardSaid : Prop := Claim7.holds Tryd.pinned (.plain (OpenSpec.upto fnExactFracTextSpec)) fnExactFracTextUptoCard

/-- THE SECOND FORM's CARD OF 'laws.FnExactRootsText'. -/
def fnExactRootsTextUptoCard : Claim7 := { stood := { row := fnExactRootsTextUptoRow, standIns := [], harness := (true, "01358ecccd1a9e2b1c0e1b1ec68d61d3a9d2b04229010835d3197c57c175ccc0"), looks := true }, kinds := [], alts := [], laidByText := true, laidKinds := [.data, .data, .data], laidTests := true, laidLooks := .later }
def FnExactRootsTextUptoCardSaid : Prop := Claim7.holds Tryd.pinned (.plain (OpenSpec.upto fnExactRootsTextSpec)) fnExactRootsTextUptoCard

/-- THE SECOND FORM's CARD OF 'laws.FnExactStarText'. -/
def fnExactStarTextUptoCard : Claim7 := { stood := { row := fnExactStarTextUptoRow, standIns := [], harness := (true, "01358ecccd1a9e2b1c0e1b1ec68d61d3a9d2b04229010835d3197c57c175ccc0"), looks := true }, kinds := [], alts := [], laidByText := true, laidKinds := [.data, .data, .data], laidTests := true, laidLooks := .later }
def FnExactStarTextUptoCardSaid : Prop := Claim7.holds Tryd.pinned (.plain (OpenSpec.upto fnExactStarTextSpec)) fnExactStarTextUptoCard

/-- THE SECOND FORM's CARD OF 'laws.FnExactParseFrac'. -/
def fnExactParseFracUptoCard : Claim7 := { stood := { row := fnExactParseFracUptoRow, standIns := [], harness := (true, "01358ecccd1a9e2b1c0e1b1ec68d61d3a9d2b04229010835d3197c57c175ccc0"), looks := true }, kinds := [], alts := [], laidByText := true, laidKinds := [.data, .data, .data, .sentinel, .sentinel], laidTests := true, laidLooks := .later }
def FnExactParseFracUptoCardSaid : Prop := Claim7.holds Tryd.pinned (.plain (OpenSpec.upto fnExactParseFracSpec)) fnExactParseFracUptoCard

/-- THE SECOND FORM's CARD OF 'laws.FnExactParseLine'. -/
def fnExactParseLineUptoCard : Claim7 := { stood := { row := fnExactParseLineUptoRow, standIns := [], harness := (true, "01358ecccd1a9e2b1c0e1b1ec68d61d3a9d2b04229010835d3197c57c175ccc0"), looks := true }, kinds := [], alts := [], laidByText := true, laidKinds := [.data, .data, .data, .sentinel, .sentinel], laidTests := true, laidLooks := .later }
def FnExactParseLineUptoCardSaid : Prop := Claim7.holds Tryd.pinned (.plain (OpenSpec.upto fnExactParseLineSpec)) fnExactParseLineUptoCard

/-- THE SECOND FORM's CARD OF 'laws.FnExactParseStar'. -/
def fnExactParseStarUptoCard : Claim7 := { stood := { row := fnExactParseStarUptoRow, standIns := [], harness := (true, "01358ecccd1a9e2b1c0e1b1ec68d61d3a9d2b04229010835d3197c57c175ccc0"), looks := true }, kinds := [], alts := [], laidByText := true, laidKinds := [.data, .data, .data, .data, .sentinel, .sentinel, .pinned], laidTests := true, laidLooks := .later }
def FnExactParseStarUptoCardSaid : Prop := Claim7.holds Tryd.pinned (.plain (OpenSpec.upto fnExactParseStarSpec)) fnExactParseStarUptoCard
end Rows
end Go.Proofs.YtgoaedhgkkbajaaDoor
