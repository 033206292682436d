/-
  DERIVED. GIVEN WITH THE SEED: THE CARDS: each row of YtpgkbipnkkeicaaDoorRows.lean that lists a variable, with what it lists TIED to the program's text (the seventh form; the later family's looks); each row that meets fmt, with fmt's text TOLD by the authors' own Lean function (tested against real Go, not proved from fmt's source: count such statements apart). THE CARD IS WHAT COUNTS. Prove the row's statement (the work); the ties are given (YtpgkbipnkkeicaaDoorTie.lean); close each card by the builder's one call (the guide's Derived/Test/ToyasCard.lean, 'card_holds'). Laid BY PROGRAM, IN A SANDBOX (cutbox-door.mjs). By AI agents, Wed Nov 11 2026. No macro, syntax, notation, axiom, sorry.
-/
import Derived.Test.YtpgkbipnkkeicaaDoorRows
import GoSem.ClaimSeven
namespace Go.Proofs.YtpgkbipnkkeicaaDoor
namespace Rows

/-- THE TIED CARD OF 'sortilegetop.TopLong'. -/
def topLongCard : Claim7 := { stood := { row := topLongRow, standIns := [], harness := (true, "518e1bc2748a5203e1ce3015e15e23bcead9f0bb1068c904bd2642b51749a73f"), looks := false }, kinds := [], alts := [], laidByText := true, laidKinds := [.data, .pinned], laidTests := true, laidLooks := .later }
def TopLongCardSaid : Prop := Claim7.holds Tryd.pinned (.plain (OpenSpec.ofChange topLongSpec)) topLongCard

/-- THE SECOND FORM's CARD OF 'sortilegetop.TopLong'. -/
def topLongUptoCard : Claim7 := { stood := { row := topLongUptoRow, standIns := [], harness := (true, "518e1bc2748a5203e1ce3015e15e23bcead9f0bb1068c904bd2642b51749a73f"), looks := false }, kinds := [], alts := [], laidByText := true, laidKinds := [.data, .pinned], laidTests := true, laidLooks := .later }
def TopLongUptoCardSaid : Prop := Claim7.holds Tryd.pinned (.plain (OpenSpec.upto topLongSpec)) topLongUptoCard
end Rows
end Go.Proofs.YtpgkbipnkkeicaaDoor
