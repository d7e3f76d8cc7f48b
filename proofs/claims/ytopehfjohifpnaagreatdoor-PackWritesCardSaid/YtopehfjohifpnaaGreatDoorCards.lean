/-
  DERIVED. GIVEN WITH THE SEED: THE CARDS: each row of YtopehfjohifpnaaGreatDoorRows.lean that lists a variable, with what it lists TIED to the program's text (the seventh form; the later family's looks); each row that meets fmt, with fmt's text TOLD by the authors' own Lean function (tested against real Go, not proved from fmt's source: count such statements apart). THE CARD IS WHAT COUNTS. Prove the row's statement (the work); the ties are given (YtopehfjohifpnaaGreatDoorTie.lean); close each card by the builder's one call (the guide's Derived/Test/ToyasCard.lean, 'card_holds'). Laid BY PROGRAM, IN A SANDBOX (cutbox-door.mjs). By AI agents, Wed Nov 11 2026. No macro, syntax, notation, axiom, sorry.
-/
import Derived.Test.YtopehfjohifpnaaGreatDoorRows
import GoSem.ClaimSeven
namespace Go.Proofs.YtopehfjohifpnaaGreatDoor
namespace Rows

/-- THE TIED CARD OF 'tabularylaw12.PackWrites'. -/
def packWritesCard : Claim7 := { stood := { row := packWritesRow, standIns := [], harness := (true, "91b6fbcaf7c31e9e94c24cee232d8e84d1cc03580760819c46d16e1375c1097e"), looks := false }, kinds := [], alts := [], laidByText := true, laidKinds := [.data, .data, .data, .data, .data, .pinned], laidTests := true, laidLooks := .later }
def PackWritesCardSaid : Prop := Claim7.holds Tryz.pinned (.plain (OpenSpec.ofChange packWritesSpec)) packWritesCard

/-- THE TIED CARD OF 'tabularylaw12.PackAdds'. -/
def packAddsCard : Claim7 := { stood := { row := packAddsRow, standIns := [], harness := (true, "91b6fbcaf7c31e9e94c24cee232d8e84d1cc03580760819c46d16e1375c1097e"), looks := false }, kinds := [], alts := [], laidByText := true, laidKinds := [.data, .data, .data, .data, .data, .pinned], laidTests := true, laidLooks := .later }
def PackAddsCardSaid : Prop := Claim7.holds Tryz.pinned (.plain (OpenSpec.ofChange packAddsSpec)) packAddsCard

/-- THE TIED CARD OF 'tabularylaw12.PackBlocks'. -/
def packBlocksCard : Claim7 := { stood := { row := packBlocksRow, standIns := [], harness := (true, "91b6fbcaf7c31e9e94c24cee232d8e84d1cc03580760819c46d16e1375c1097e"), looks := false }, kinds := [], alts := [], laidByText := true, laidKinds := [.data, .data, .data, .data, .data, .pinned], laidTests := true, laidLooks := .later }
def PackBlocksCardSaid : Prop := Claim7.holds Tryz.pinned (.plain (OpenSpec.ofChange packBlocksSpec)) packBlocksCard

/-- THE TIED CARD OF 'tabularylaw12.PackOwn'. -/
def packOwnCard : Claim7 := { stood := { row := packOwnRow, standIns := [], harness := (true, "91b6fbcaf7c31e9e94c24cee232d8e84d1cc03580760819c46d16e1375c1097e"), looks := false }, kinds := [], alts := [], laidByText := true, laidKinds := [.data, .data, .data, .data, .data, .pinned], laidTests := true, laidLooks := .later }
def PackOwnCardSaid : Prop := Claim7.holds Tryz.pinned (.plain (OpenSpec.ofChange packOwnSpec)) packOwnCard

/-- THE TIED CARD OF 'tabularylaw12.PackShape'. -/
def packShapeCard : Claim7 := { stood := { row := packShapeRow, standIns := [], harness := (true, "91b6fbcaf7c31e9e94c24cee232d8e84d1cc03580760819c46d16e1375c1097e"), looks := false }, kinds := [], alts := [], laidByText := true, laidKinds := [.data, .data, .data, .data, .data, .pinned], laidTests := true, laidLooks := .later }
def PackShapeCardSaid : Prop := Claim7.holds Tryz.pinned (.plain (OpenSpec.ofChange packShapeSpec)) packShapeCard

/-- THE SECOND FORM's CARD OF 'tabularylaw12.PackWrites'. -/
def packWritesUptoCard : Claim7 := { stood := { row := packWritesUptoRow, standIns := [], harness := (true, "91b6fbcaf7c31e9e94c24cee232d8e84d1cc03580760819c46d16e1375c1097e"), looks := false }, kinds := [], alts := [], laidByText := true, laidKinds := [.data, .data, .data, .data, .data, .pinned], laidTests := true, laidLooks := .later }
def PackWritesUptoCardSaid : Prop := Claim7.holds Tryz.pinned (.plain (OpenSpec.upto packWritesSpec)) packWritesUptoCard

/-- THE SECOND FORM's CARD OF 'tabularylaw12.PackAdds'. -/
def packAddsUptoCard : Claim7 := { stood := { row := packAddsUptoRow, standIns := [], harness := (true, "91b6fbcaf7c31e9e94c24cee232d8e84d1cc03580760819c46d16e1375c1097e"), looks := false }, kinds := [], alts := [], laidByText := true, laidKinds := [.data, .data, .data, .data, .data, .pinned], laidTests := true, laidLooks := .later }
def PackAddsUptoCardSaid : Prop := Claim7.holds Tryz.pinned (.plain (OpenSpec.upto packAddsSpec)) packAddsUptoCard

/-- THE SECOND FORM's CARD OF 'tabularylaw12.PackBlocks'. -/
def packBlocksUptoCard : Claim7 := { stood := { row := packBlocksUptoRow, standIns := [], harness := (true, "91b6fbcaf7c31e9e94c24cee232d8e84d1cc03580760819c46d16e1375c1097e"), looks := false }, kinds := [], alts := [], laidByText := true, laidKinds := [.data, .data, .data, .data, .data, .pinned], laidTests := true, laidLooks := .later }
def PackBlocksUptoCardSaid : Prop := Claim7.holds Tryz.pinned (.plain (OpenSpec.upto packBlocksSpec)) packBlocksUptoCard

/-- THE SECOND FORM's CARD OF 'tabularylaw12.PackOwn'. -/
def packOwnUptoCard : Claim7 := { stood := { row := packOwnUptoRow, standIns := [], harness := (true, "91b6fbcaf7c31e9e94c24cee232d8e84d1cc03580760819c46d16e1375c1097e"), looks := false }, kinds := [], alts := [], laidByText := true, laidKinds := [.data, .data, .data, .data, .data, .pinned], laidTests := true, laidLooks := .later }
def PackOwnUptoCardSaid : Prop := Claim7.holds Tryz.pinned (.plain (OpenSpec.upto packOwnSpec)) packOwnUptoCard

/-- THE SECOND FORM's CARD OF 'tabularylaw12.PackShape'. -/
def packShapeUptoCard : Claim7 := { stood := { row := packShapeUptoRow, standIns := [], harness := (true, "91b6fbcaf7c31e9e94c24cee232d8e84d1cc03580760819c46d16e1375c1097e"), looks := false }, kinds := [], alts := [], laidByText := true, laidKinds := [.data, .data, .data, .data, .data, .pinned], laidTests := true, laidLooks := .later }
def PackShapeUptoCardSaid : Prop := Claim7.holds Tryz.pinned (.plain (OpenSpec.upto packShapeSpec)) packShapeUptoCard
end Rows
end Go.Proofs.YtopehfjohifpnaaGreatDoor
