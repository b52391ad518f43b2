/-
  DERIVED. GIVEN WITH THE SEED: THE CARDS: each row of YtnifgamlmaembaaDoorRows.lean that lists a variable, with what it lists TIED to the program's text (the seventh form; the later family's looks); each row that meets fmt, with fmt's text TOLD by the authors' own Lean function (tested against real Go, not proved from fmt's source: count such statements apart). THE CARD IS WHAT COUNTS. Prove the row's statement (the work); the ties are given (YtnifgamlmaembaaDoorTie.lean); close each card by the builder's one call (the guide's Derived/Test/ToyasCard.lean, 'card_holds'). Laid BY PROGRAM, IN A SANDBOX (cutbox-door.mjs). By AI agents, Wed Nov 11 2026. No macro, syntax, notation, axiom, sorry.
-/
import Derived.Test.YtnifgamlmaembaaDoorRows
import GoSem.ClaimSeven
namespace Go.Proofs.YtnifgamlmaembaaDoor
namespace Rows

/-- THE TIED CARD OF 'laws.FnExactFormatCircuit'. -/
def fnExactFormatCircuitCard : Claim7 := { stood := { row := fnExactFormatCircuitRow, standIns := [], harness := (true, "5fa976e0cb66323999ecfe2b61633bd2e7cea02de5ea932589ad86e1821abda6"), looks := true }, kinds := [], alts := [], laidByText := true, laidKinds := [.data, .data, .data], laidTests := true, laidLooks := .later }
def FnExactFormatCircuitCardSaid : Prop := Claim7.holds Tryd.pinned (.plain (OpenSpec.ofChange fnExactFormatCircuitSpec)) fnExactFormatCircuitCard

/-- THE TIED CARD OF 'laws.FnExactParseCircuit'. -/
def fnExactParseCircuitCard : Claim7 := { stood := { row := fnExactParseCircuitRow, standIns := [], harness := (true, "5fa976e0cb66323999ecfe2b61633bd2e7cea02de5ea932589ad86e1821abda6"), looks := true }, kinds := [], alts := [], laidByText := true, laidKinds := [.data, .data, .data, .data, .sentinel, .sentinel, .pinned], laidTests := true, laidLooks := .later }
def FnExactParseCircuitCardSaid : Prop := Claim7.holds Tryd.pinned (.plain (OpenSpec.ofChange fnExactParseCircuitSpec)) fnExactParseCircuitCard

/-- THE TIED CARD OF 'laws.FnFormat'. -/
def fnFormatCard : Claim7 := { stood := { row := fnFormatRow, standIns := [], harness := (true, "5fa976e0cb66323999ecfe2b61633bd2e7cea02de5ea932589ad86e1821abda6"), looks := true }, kinds := [], alts := [], laidByText := true, laidKinds := [.data, .data, .data, .data, .sentinel, .sentinel, .pinned], laidTests := true, laidLooks := .later }
def FnFormatCardSaid : Prop := Claim7.holds Tryd.pinned (.plain (OpenSpec.ofChange fnFormatSpec)) fnFormatCard

/-- THE SECOND FORM's CARD OF 'laws.FnExactFormatCircuit'. -/
def fnExactFormatCircuitUptoCard : Claim7 := { stood := { row := fnExactFormatCircuitUptoRow, standIns := [], harness := (true, "5fa976e0cb66323999ecfe2b61633bd2e7cea02de5ea932589ad86e1821abda6"), looks := true }, kinds := [], alts := [], laidByText := true, laidKinds := [.data, .data, .data], laidTests := true, laidLooks := .later }
def FnExactFormatCircuitUptoCardSaid : Prop := Claim7.holds Tryd.pinned (.plain (OpenSpec.upto fnExactFormatCircuitSpec)) fnExactFormatCircuitUptoCard

/-- THE SECOND FORM's CARD OF 'laws.FnExactParseCircuit'. -/
def fnExactParseCircuitUptoCard : Claim7 := { stood := { row := fnExactParseCircuitUptoRow, standIns := [], harness := (true, "5fa976e0cb66323999ecfe2b61633bd2e7cea02de5ea932589ad86e1821abda6"), looks := true }, kinds := [], alts := [], laidByText := true, laidKinds := [.data, .data, .data, .data, .sentinel, .sentinel, .pinned], laidTests := true, laidLooks := .later }
def FnExactParseCircuitUptoCardSaid : Prop := Claim7.holds Tryd.pinned (.plain (OpenSpec.upto fnExactParseCircuitSpec)) fnExactParseCircuitUptoCard

/-- THE SECOND FORM's CARD OF 'laws.FnFormat'. -/
def fnFormatUptoCard : Claim7 := { stood := { row := fnFormatUptoRow, standIns := [], harness := (true, "5fa976e0cb66323999ecfe2b61633bd2e7cea02de5ea932589ad86e1821abda6"), looks := true }, kinds := [], alts := [], laidByText := true, laidKinds := [.data, .data, .data, .data, .sentinel, .sentinel, .pinned], laidTests := true, laidLooks := .later }
def FnFormatUptoCardSaid : Prop := Claim7.holds Tryd.pinned (.plain (OpenSpec.upto fnFormatSpec)) fnFormatUptoCard
end Rows
end Go.Proofs.YtnifgamlmaembaaDoor
