/-
  DERIVED. GIVEN WITH THE SEED: THE CARDS: each row of YtaepdbkfaoiimaaDoorRows.lean that lists a variable, with what it lists TIED to the program's text (the seventh form; the later family's looks); each row that meets fmt, with fmt's text TOLD by the authors' own Lean function (tested against real Go, not proved from fmt's source: count such statements apart). THE CARD IS WHAT COUNTS. Prove the row's statement (the work); the ties are given (YtaepdbkfaoiimaaDoorTie.lean); close each card by the builder's one call (the guide's Derived/Test/ToyasCard.lean, 'card_holds'). Laid BY PROGRAM, IN A SANDBOX (cutbox-door.mjs). By AI agents, Wed Nov 11 2026. No macro, syntax, notation, axiom, sorry.
-/
import Derived.Test.YtaepdbkfaoiimaaDoorRows
import GoSem.ClaimSeven
namespace Go.Proofs.YtaepdbkfaoiimaaDoor
namespace Rows

/-- THE TIED CARD OF 'tidegatelaw.Names'. -/
def namesCard : Claim7 := { stood := { row := namesRow, standIns := [], harness := (true, "1f781f5758dd9fc3b453468a6e962d8bb713860d4ac394348cc1f245ba5dea51"), looks := true }, kinds := [], alts := [], laidByText := true, laidKinds := [.data, .data, .data], laidTests := true, laidLooks := .later }
def NamesCardSaid : Prop := Claim7.holds Tryd.pinned (.plain (OpenSpec.ofChange namesSpec)) namesCard

/-- THE TIED CARD OF 'tidegatelaw.BatchSays'. -/
def batchSaysCard : Claim7 := { stood := { row := batchSaysRow, standIns := [], harness := (true, "1f781f5758dd9fc3b453468a6e962d8bb713860d4ac394348cc1f245ba5dea51"), looks := true }, kinds := [], alts := [], laidByText := true, laidKinds := [.data, .pinned], laidTests := true, laidLooks := .later }
def BatchSaysCardSaid : Prop := Claim7.holds Tryd.pinned (.plain (OpenSpec.ofChange batchSaysSpec)) batchSaysCard

/-- THE SECOND FORM's CARD OF 'tidegatelaw.Names'. -/
def namesUptoCard : Claim7 := { stood := { row := namesUptoRow, standIns := [], harness := (true, "1f781f5758dd9fc3b453468a6e962d8bb713860d4ac394348cc1f245ba5dea51"), looks := true }, kinds := [], alts := [], laidByText := true, laidKinds := [.data, .data, .data], laidTests := true, laidLooks := .later }
def NamesUptoCardSaid : Prop := Claim7.holds Tryd.pinned (.plain (OpenSpec.upto namesSpec)) namesUptoCard

/-- THE SECOND FORM's CARD OF 'tidegatelaw.BatchSays'. -/
def batchSaysUptoCard : Claim7 := { stood := { row := batchSaysUptoRow, standIns := [], harness := (true, "1f781f5758dd9fc3b453468a6e962d8bb713860d4ac394348cc1f245ba5dea51"), looks := true }, kinds := [], alts := [], laidByText := true, laidKinds := [.data, .pinned], laidTests := true, laidLooks := .later }
def BatchSaysUptoCardSaid : Prop := Claim7.holds Tryd.pinned (.plain (OpenSpec.upto batchSaysSpec)) batchSaysUptoCard
end Rows
end Go.Proofs.YtaepdbkfaoiimaaDoor
