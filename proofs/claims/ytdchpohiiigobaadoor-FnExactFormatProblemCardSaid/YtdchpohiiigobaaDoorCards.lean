/-
  DERIVED. GIVEN WITH THE SEED: THE CARDS: each row of YtdchpohiiigobaaDoorRows.lean that lists a variable, with what it lists TIED to the program's text (the seventh form; the later family's looks); each row that meets fmt, with fmt's text TOLD by the authors' own Lean function (tested against real Go, not proved from fmt's source: count such statements apart). THE CARD IS WHAT COUNTS. Prove the row's statement (the work); the ties are given (YtdchpohiiigobaaDoorTie.lean); close each card by the builder's one call (the guide's Derived/Test/ToyasCard.lean, 'card_holds'). Laid BY PROGRAM, IN A SANDBOX (cutbox-door.mjs). By AI agents, Wed Nov 11 2026. No macro, syntax, notation, axiom, sorry.
-/
import Derived.Test.YtdchpohiiigobaaDoorRows
import GoSem.ClaimSeven
namespace Go.Proofs.YtdchpohiiigobaaDoor
namespace Rows

/-- THE TIED CARD OF 'laws.FnExactFormatConstraint'. -/
def fnExactFormatConstraintCard : Claim7 := { stood := { row := fnExactFormatConstraintRow, standIns := [], harness := (true, "0e7ca0f478107c6d77823d43d7f2a987e882742f74475530a30025d58e101769"), looks := false }, kinds := [], alts := [], laidByText := true, laidKinds := [.data, .data, .data], laidTests := true, laidLooks := .later }
def FnExactFormatConstraintCardSaid : Prop := Claim7.holds Tryd.pinned (.plain (OpenSpec.ofChange fnExactFormatConstraintSpec)) fnExactFormatConstraintCard

/-- THE TIED CARD OF 'laws.FnExactFormatProblem'. -/
def fnExactFormatProblemCard : Claim7 := { stood := { row := fnExactFormatProblemRow, standIns := [], harness := (true, "0e7ca0f478107c6d77823d43d7f2a987e882742f74475530a30025d58e101769"), looks := false }, kinds := [], alts := [], laidByText := true, laidKinds := [.data, .data, .data], laidTests := true, laidLooks := .later }
def FnExactFormatProblemCardSaid : Prop := Claim7.holds Tryd.pinned (.plain (OpenSpec.ofChange fnExactFormatProblemSpec)) fnExactFormatProblemCard

/-- THE SECOND FORM's CARD OF 'laws.FnExactFormatConstraint'. -/
def fnExactFormatConstraintUptoCard : Claim7 := { stood := { row := fnExactFormatConstraintUptoRow, standIns := [], harness := (true, "0e7ca0f478107c6d77823d43d7f2a987e882742f74475530a30025d58e101769"), looks := false }, kinds := [], alts := [], laidByText := true, laidKinds := [.data, .data, .data], laidTests := true, laidLooks := .later }
def FnExactFormatConstraintUptoCardSaid : Prop := Claim7.holds Tryd.pinned (.plain (OpenSpec.upto fnExactFormatConstraintSpec)) fnExactFormatConstraintUptoCard

/-- THE SECOND FORM's CARD OF 'laws.FnExactFormatProblem'. -/
def fnExactFormatProblemUptoCard : Claim7 := { stood := { row := fnExactFormatProblemUptoRow, standIns := [], harness := (true, "0e7ca0f478107c6d77823d43d7f2a987e882742f74475530a30025d58e101769"), looks := false }, kinds := [], alts := [], laidByText := true, laidKinds := [.data, .data, .data], laidTests := true, laidLooks := .later }
def FnExactFormatProblemUptoCardSaid : Prop := Claim7.holds Tryd.pinned (.plain (OpenSpec.upto fnExactFormatProblemSpec)) fnExactFormatProblemUptoCard
end Rows
end Go.Proofs.YtdchpohiiigobaaDoor
