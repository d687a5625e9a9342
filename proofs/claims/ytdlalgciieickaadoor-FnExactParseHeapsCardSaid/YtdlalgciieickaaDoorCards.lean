/-
  DERIVED. GIVEN WITH THE SEED: THE CARDS: each row of YtdlalgciieickaaDoorRows.lean that lists a variable, with what it lists TIED to the program's text (the seventh form; the later family's looks); each row that meets fmt, with fmt's text TOLD by the authors' own Lean function (tested against real Go, not proved from fmt's source: count such statements apart). THE CARD IS WHAT COUNTS. Prove the row's statement (the work); the ties are given (YtdlalgciieickaaDoorTie.lean); close each card by the builder's one call (the guide's Derived/Test/ToyasCard.lean, 'card_holds'). Laid BY PROGRAM, IN A SANDBOX (cutbox-door.mjs). By AI agents, Wed Nov 11 2026. No macro, syntax, notation, axiom, sorry.
-/
import Derived.Test.YtdlalgciieickaaDoorRows
import GoSem.ClaimSeven
namespace Go.Proofs.YtdlalgciieickaaDoor
namespace Rows

/-- THE TIED CARD OF 'laws.FnExactHeapsText'. -/
def fnExactHeapsTextCard : Claim7 := { stood := { row := fnExactHeapsTextRow, standIns := [], harness := (true, "e64138667738caf9c41426266ff7a91c4f14997560792f0d8d36255073dc91df"), looks := true }, kinds := [], alts := [], laidByText := true, laidKinds := [.data, .data, .data], laidTests := true, laidLooks := .later }
def FnExactHeapsTextCardSaid : Prop := Claim7.holds Tryd.pinned (.plain (OpenSpec.ofChange fnExactHeapsTextSpec)) fnExactHeapsTextCard

/-- THE TIED CARD OF 'laws.FnExactParseHeaps'. -/
def fnExactParseHeapsCard : Claim7 := { stood := { row := fnExactParseHeapsRow, standIns := [], harness := (true, "e64138667738caf9c41426266ff7a91c4f14997560792f0d8d36255073dc91df"), looks := true }, kinds := [], alts := [], laidByText := true, laidKinds := [.data, .data, .data, .data, .sentinel, .sentinel, .pinned], laidTests := true, laidLooks := .later }
def FnExactParseHeapsCardSaid : Prop := Claim7.holds Tryd.pinned (.plain (OpenSpec.ofChange fnExactParseHeapsSpec)) fnExactParseHeapsCard

/-- THE TIED CARD OF 'laws.FnExactParseDoublings'. -/
def fnExactParseDoublingsCard : Claim7 := { stood := { row := fnExactParseDoublingsRow, standIns := [], harness := (true, "e64138667738caf9c41426266ff7a91c4f14997560792f0d8d36255073dc91df"), looks := true }, kinds := [], alts := [], laidByText := true, laidKinds := [.data, .pinned], laidTests := true, laidLooks := .later }
def FnExactParseDoublingsCardSaid : Prop := Claim7.holds Tryd.pinned (.plain (OpenSpec.ofChange fnExactParseDoublingsSpec)) fnExactParseDoublingsCard

/-- THE TIED CARD OF 'laws.FnExactDoublingsText'. -/
def fnExactDoublingsTextCard : Claim7 := { stood := { row := fnExactDoublingsTextRow, standIns := [], harness := (true, "e64138667738caf9c41426266ff7a91c4f14997560792f0d8d36255073dc91df"), looks := true }, kinds := [], alts := [], laidByText := true, laidKinds := [.data, .data, .data], laidTests := true, laidLooks := .later }
def FnExactDoublingsTextCardSaid : Prop := Claim7.holds Tryd.pinned (.plain (OpenSpec.ofChange fnExactDoublingsTextSpec)) fnExactDoublingsTextCard

/-- THE TIED CARD OF 'laws.FnExactCountReached'. -/
def fnExactCountReachedCard : Claim7 := { stood := { row := fnExactCountReachedRow, standIns := [], harness := (true, "e64138667738caf9c41426266ff7a91c4f14997560792f0d8d36255073dc91df"), looks := true }, kinds := [], alts := [], laidByText := true, laidKinds := [.data, .data, .data], laidTests := true, laidLooks := .later }
def FnExactCountReachedCardSaid : Prop := Claim7.holds Tryd.pinned (.plain (OpenSpec.ofChange fnExactCountReachedSpec)) fnExactCountReachedCard

/-- THE TIED CARD OF 'laws.FnExactFewestToBecome'. -/
def fnExactFewestToBecomeCard : Claim7 := { stood := { row := fnExactFewestToBecomeRow, standIns := [], harness := (true, "e64138667738caf9c41426266ff7a91c4f14997560792f0d8d36255073dc91df"), looks := true }, kinds := [], alts := [], laidByText := true, laidKinds := [.data, .data, .data], laidTests := true, laidLooks := .later }
def FnExactFewestToBecomeCardSaid : Prop := Claim7.holds Tryd.pinned (.plain (OpenSpec.ofChange fnExactFewestToBecomeSpec)) fnExactFewestToBecomeCard

/-- THE TIED CARD OF 'laws.FnExactFewestToEmpty'. -/
def fnExactFewestToEmptyCard : Claim7 := { stood := { row := fnExactFewestToEmptyRow, standIns := [], harness := (true, "e64138667738caf9c41426266ff7a91c4f14997560792f0d8d36255073dc91df"), looks := true }, kinds := [], alts := [], laidByText := true, laidKinds := [.data, .data, .data], laidTests := true, laidLooks := .later }
def FnExactFewestToEmptyCardSaid : Prop := Claim7.holds Tryd.pinned (.plain (OpenSpec.ofChange fnExactFewestToEmptySpec)) fnExactFewestToEmptyCard

/-- THE TIED CARD OF 'laws.FnExactFirstToEmpty'. -/
def fnExactFirstToEmptyCard : Claim7 := { stood := { row := fnExactFirstToEmptyRow, standIns := [], harness := (true, "e64138667738caf9c41426266ff7a91c4f14997560792f0d8d36255073dc91df"), looks := true }, kinds := [], alts := [], laidByText := true, laidKinds := [.data, .data, .data], laidTests := true, laidLooks := .later }
def FnExactFirstToEmptyCardSaid : Prop := Claim7.holds Tryd.pinned (.plain (OpenSpec.ofChange fnExactFirstToEmptySpec)) fnExactFirstToEmptyCard

/-- THE SECOND FORM's CARD OF 'laws.FnExactHeapsText'. -/
def fnExactHeapsTextUptoCard : Claim7 := { stood := { row := fnExactHeapsTextUptoRow, standIns := [], harness := (true, "e64138667738caf9c41426266ff7a91c4f14997560792f0d8d36255073dc91df"), looks := true }, kinds := [], alts := [], laidByText := true, laidKinds := [.data, .data, .data], laidTests := true, laidLooks := .later }
def FnExactHeapsTextUptoCardSaid : Prop := Claim7.holds Tryd.pinned (.plain (OpenSpec.upto fnExactHeapsTextSpec)) fnExactHeapsTextUptoCard

/-- THE SECOND FORM's CARD OF 'laws.FnExactParseHeaps'. -/
def fnExactParseHeapsUptoCard : Claim7 := { stood := { row := fnExactParseHeapsUptoRow, standIns := [], harness := (true, "e64138667738caf9c41426266ff7a91c4f14997560792f0d8d36255073dc91df"), looks := true }, kinds := [], alts := [], laidByText := true, laidKinds := [.data, .data, .data, .data, .sentinel, .sentinel, .pinned], laidTests := true, laidLooks := .later }
def FnExactParseHeapsUptoCardSaid : Prop := Claim7.holds Tryd.pinned (.plain (OpenSpec.upto fnExactParseHeapsSpec)) fnExactParseHeapsUptoCard

/-- THE SECOND FORM's CARD OF 'laws.FnExactParseDoublings'. -/
def fnExactParseDoublingsUptoCard : Claim7 := { stood := { row := fnExactParseDoublingsUptoRow, standIns := [], harness := (true, "e64138667738caf9c41426266ff7a91c4f14997560792f0d8d36255073dc91df"), looks := true }, kinds := [], alts := [], laidByText := true, laidKinds := [.data, .pinned], laidTests := true, laidLooks := .later }
def FnExactParseDoublingsUptoCardSaid : Prop := Claim7.holds Tryd.pinned (.plain (OpenSpec.upto fnExactParseDoublingsSpec)) fnExactParseDoublingsUptoCard

/-- THE SECOND FORM's CARD OF 'laws.FnExactDoublingsText'. -/
def fnExactDoublingsTextUptoCard : Claim7 := { stood := { row := fnExactDoublingsTextUptoRow, standIns := [], harness := (true, "e64138667738caf9c41426266ff7a91c4f14997560792f0d8d36255073dc91df"), looks := true }, kinds := [], alts := [], laidByText := true, laidKinds := [.data, .data, .data], laidTests := true, laidLooks := .later }
def FnExactDoublingsTextUptoCardSaid : Prop := Claim7.holds Tryd.pinned (.plain (OpenSpec.upto fnExactDoublingsTextSpec)) fnExactDoublingsTextUptoCard

/-- THE SECOND FORM's CARD OF 'laws.FnExactCountReached'. -/
def fnExactCountReachedUptoCard : Claim7 := { stood := { row := fnExactCountReachedUptoRow, standIns := [], harness := (true, "e64138667738caf9c41426266ff7a91c4f14997560792f0d8d36255073dc91df"), looks := true }, kinds := [], alts := [], laidByText := true, laidKinds := [.data, .data, .data], laidTests := true, laidLooks := .later }
def FnExactCountReachedUptoCardSaid : Prop := Claim7.holds Tryd.pinned (.plain (OpenSpec.upto fnExactCountReachedSpec)) fnExactCountReachedUptoCard

/-- THE SECOND FORM's CARD OF 'laws.FnExactFewestToBecome'. -/
def fnExactFewestToBecomeUptoCard : Claim7 := { stood := { row := fnExactFewestToBecomeUptoRow, standIns := [], harness := (true, "e64138667738caf9c41426266ff7a91c4f14997560792f0d8d36255073dc91df"), looks := true }, kinds := [], alts := [], laidByText := true, laidKinds := [.data, .data, .data], laidTests := true, laidLooks := .later }
def FnExactFewestToBecomeUptoCardSaid : Prop := Claim7.holds Tryd.pinned (.plain (OpenSpec.upto fnExactFewestToBecomeSpec)) fnExactFewestToBecomeUptoCard

/-- THE SECOND FORM's CARD OF 'laws.FnExactFewestToEmpty'. -/
def fnExactFewestToEmptyUptoCard : Claim7 := { stood := { row := fnExactFewestToEmptyUptoRow, standIns := [], harness := (true, "e64138667738caf9c41426266ff7a91c4f14997560792f0d8d36255073dc91df"), looks := true }, kinds := [], alts := [], laidByText := true, laidKinds := [.data, .data, .data], laidTests := true, laidLooks := .later }
def FnExactFewestToEmptyUptoCardSaid : Prop := Claim7.holds Tryd.pinned (.plain (OpenSpec.upto fnExactFewestToEmptySpec)) fnExactFewestToEmptyUptoCard

/-- THE SECOND FORM's CARD OF 'laws.FnExactFirstToEmpty'. -/
def fnExactFirstToEmptyUptoCard : Claim7 := { stood := { row := fnExactFirstToEmptyUptoRow, standIns := [], harness := (true, "e64138667738caf9c41426266ff7a91c4f14997560792f0d8d36255073dc91df"), looks := true }, kinds := [], alts := [], laidByText := true, laidKinds := [.data, .data, .data], laidTests := true, laidLooks := .later }
def FnExactFirstToEmptyUptoCardSaid : Prop := Claim7.holds Tryd.pinned (.plain (OpenSpec.upto fnExactFirstToEmptySpec)) fnExactFirstToEmptyUptoCard
end Rows
end Go.Proofs.YtdlalgciieickaaDoor
