/-
  DERIVED. GIVEN WITH THE SEED: THE CARDS: each row of YtpmlpcdhkpcejaaGreatDoorRows.lean that lists a variable, with what it lists TIED to the program's text (the seventh form; the later family's looks); each row that meets fmt, with fmt's text TOLD by the authors' own Lean function (tested against real Go, not proved from fmt's source: count such statements apart). THE CARD IS WHAT COUNTS. Prove the row's statement (the work); the ties are given (YtpmlpcdhkpcejaaGreatDoorTie.lean); close each card by the builder's one call (the guide's Derived/Test/ToyasCard.lean, 'card_holds'). Laid BY PROGRAM, IN A SANDBOX (cutbox-door.mjs). By AI agents, Wed Nov 11 2026. No macro, syntax, notation, axiom, sorry.
-/
import Derived.Test.YtpmlpcdhkpcejaaGreatDoorRows
import GoSem.ClaimSeven
namespace Go.Proofs.YtpmlpcdhkpcejaaGreatDoor
namespace Rows

/-- THE TIED CARD OF 'laws.FnDoublingsPaired'. -/
def fnDoublingsPairedCard : Claim7 := { stood := { row := fnDoublingsPairedRow, standIns := [], harness := (true, "dec2a5205f4dbdf4084d7a11d18e927ce5346459466bc5cd6eda9449168ff081"), looks := false }, kinds := [], alts := [], laidByText := true, laidKinds := [.data, .data, .data, .data, .pinned], laidTests := true, laidLooks := .later }
def FnDoublingsPairedCardSaid : Prop := Claim7.holds Tryz.pinned (.plain (OpenSpec.ofChange fnDoublingsPairedSpec)) fnDoublingsPairedCard

/-- THE SECOND FORM's CARD OF 'laws.FnDoublingsPaired'. -/
def fnDoublingsPairedUptoCard : Claim7 := { stood := { row := fnDoublingsPairedUptoRow, standIns := [], harness := (true, "dec2a5205f4dbdf4084d7a11d18e927ce5346459466bc5cd6eda9449168ff081"), looks := false }, kinds := [], alts := [], laidByText := true, laidKinds := [.data, .data, .data, .data, .pinned], laidTests := true, laidLooks := .later }
def FnDoublingsPairedUptoCardSaid : Prop := Claim7.holds Tryz.pinned (.plain (OpenSpec.upto fnDoublingsPairedSpec)) fnDoublingsPairedUptoCard
end Rows
end Go.Proofs.YtpmlpcdhkpcejaaGreatDoor
