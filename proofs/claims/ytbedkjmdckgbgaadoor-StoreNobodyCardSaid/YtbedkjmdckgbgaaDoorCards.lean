/-
  DERIVED. GIVEN WITH THE SEED: THE CARDS: each row of YtbedkjmdckgbgaaDoorRows.lean that lists a variable, with what it lists TIED to the program's text (the seventh form; the later family's looks); each row that meets fmt, with fmt's text TOLD by the authors' own Lean function (tested against real Go, not proved from fmt's source: count such statements apart). THE CARD IS WHAT COUNTS. Prove the row's statement (the work); the ties are given (YtbedkjmdckgbgaaDoorTie.lean); close each card by the builder's one call (the guide's Derived/Test/ToyasCard.lean, 'card_holds'). Laid BY PROGRAM, IN A SANDBOX (cutbox-door.mjs). By AI agents, Wed Nov 11 2026. No macro, syntax, notation, axiom, sorry.
-/
import Derived.Test.YtbedkjmdckgbgaaDoorRows
import GoSem.ClaimSeven
namespace Go.Proofs.YtbedkjmdckgbgaaDoor
namespace Rows

/-- THE TIED CARD OF 'turnbucklelaw20.StoreGets'. -/
def storeGetsCard : Claim7 := { stood := { row := storeGetsRow, standIns := [], harness := (true, "da0c8720fa5ebb3b0ee154d0ceb8c0858eb148b4084a7f3a1da244accd3f72c3"), looks := false }, kinds := [], alts := [], laidByText := true, laidKinds := [.data, .pinned], laidTests := true, laidLooks := .later }
def StoreGetsCardSaid : Prop := Claim7.holds Tryd.pinned (.plain (OpenSpec.ofChange storeGetsSpec)) storeGetsCard

/-- THE TIED CARD OF 'turnbucklelaw20.StoreOldest'. -/
def storeOldestCard : Claim7 := { stood := { row := storeOldestRow, standIns := [], harness := (true, "da0c8720fa5ebb3b0ee154d0ceb8c0858eb148b4084a7f3a1da244accd3f72c3"), looks := false }, kinds := [], alts := [], laidByText := true, laidKinds := [.data, .pinned], laidTests := true, laidLooks := .later }
def StoreOldestCardSaid : Prop := Claim7.holds Tryd.pinned (.plain (OpenSpec.ofChange storeOldestSpec)) storeOldestCard

/-- THE TIED CARD OF 'turnbucklelaw20.StoreNobody'. -/
def storeNobodyCard : Claim7 := { stood := { row := storeNobodyRow, standIns := [], harness := (true, "da0c8720fa5ebb3b0ee154d0ceb8c0858eb148b4084a7f3a1da244accd3f72c3"), looks := false }, kinds := [], alts := [], laidByText := true, laidKinds := [.data, .pinned], laidTests := true, laidLooks := .later }
def StoreNobodyCardSaid : Prop := Claim7.holds Tryd.pinned (.plain (OpenSpec.ofChange storeNobodySpec)) storeNobodyCard

/-- THE SECOND FORM's CARD OF 'turnbucklelaw20.StoreGets'. -/
def storeGetsUptoCard : Claim7 := { stood := { row := storeGetsUptoRow, standIns := [], harness := (true, "da0c8720fa5ebb3b0ee154d0ceb8c0858eb148b4084a7f3a1da244accd3f72c3"), looks := false }, kinds := [], alts := [], laidByText := true, laidKinds := [.data, .pinned], laidTests := true, laidLooks := .later }
def StoreGetsUptoCardSaid : Prop := Claim7.holds Tryd.pinned (.plain (OpenSpec.upto storeGetsSpec)) storeGetsUptoCard

/-- THE SECOND FORM's CARD OF 'turnbucklelaw20.StoreOldest'. -/
def storeOldestUptoCard : Claim7 := { stood := { row := storeOldestUptoRow, standIns := [], harness := (true, "da0c8720fa5ebb3b0ee154d0ceb8c0858eb148b4084a7f3a1da244accd3f72c3"), looks := false }, kinds := [], alts := [], laidByText := true, laidKinds := [.data, .pinned], laidTests := true, laidLooks := .later }
def StoreOldestUptoCardSaid : Prop := Claim7.holds Tryd.pinned (.plain (OpenSpec.upto storeOldestSpec)) storeOldestUptoCard

/-- THE SECOND FORM's CARD OF 'turnbucklelaw20.StoreNobody'. -/
def storeNobodyUptoCard : Claim7 := { stood := { row := storeNobodyUptoRow, standIns := [], harness := (true, "da0c8720fa5ebb3b0ee154d0ceb8c0858eb148b4084a7f3a1da244accd3f72c3"), looks := false }, kinds := [], alts := [], laidByText := true, laidKinds := [.data, .pinned], laidTests := true, laidLooks := .later }
def StoreNobodyUptoCardSaid : Prop := Claim7.holds Tryd.pinned (.plain (OpenSpec.upto storeNobodySpec)) storeNobodyUptoCard
end Rows
end Go.Proofs.YtbedkjmdckgbgaaDoor
