/-
  DERIVED. GIVEN WITH THE SEED: THE CARDS: each row of YtkbknndlkjodpaaDoorRows.lean that lists a variable, with what it lists TIED to the program's text (the seventh form; the later family's looks); each row that meets fmt, with fmt's text TOLD by the authors' own Lean function (tested against real Go, not proved from fmt's source: count such statements apart). THE CARD IS WHAT COUNTS. Prove the row's statement (the work); the ties are given (YtkbknndlkjodpaaDoorTie.lean); close each card by the builder's one call (the guide's Derived/Test/ToyasCard.lean, 'card_holds'). Laid BY PROGRAM, IN A SANDBOX (cutbox-door.mjs). By AI agents, Wed Nov 11 2026. No macro, syntax, notation, axiom, sorry.
-/
import Derived.Test.YtkbknndlkjodpaaDoorRows
import GoSem.ClaimSeven
namespace Go.Proofs.YtkbknndlkjodpaaDoor
namespace Rows

/-- THE TIED CARD OF 'graftagelaw14.ObjectBytes'. -/
def objectBytesCard : Claim7 := { stood := { row := objectBytesRow, standIns := [], harness := (true, "592378b327c49065650e2e56b77e79522ce377d650027533f7e06dc85fa372bc"), looks := false }, kinds := [], alts := [], laidByText := true, laidKinds := [.data, .data, .data, .data], laidTests := true, laidLooks := .later }
def ObjectBytesCardSaid : Prop := Claim7.holds Tryd.pinned (.plain (OpenSpec.ofChange objectBytesSpec)) objectBytesCard

/-- THE TIED CARD OF 'graftagelaw14.ObjectParses'. -/
def objectParsesCard : Claim7 := { stood := { row := objectParsesRow, standIns := [], harness := (true, "592378b327c49065650e2e56b77e79522ce377d650027533f7e06dc85fa372bc"), looks := false }, kinds := [], alts := [], laidByText := true, laidKinds := [.data, .data, .data, .data], laidTests := true, laidLooks := .later }
def ObjectParsesCardSaid : Prop := Claim7.holds Tryd.pinned (.plain (OpenSpec.ofChange objectParsesSpec)) objectParsesCard

/-- THE TIED CARD OF 'graftagelaw14.ObjectWords'. -/
def objectWordsCard : Claim7 := { stood := { row := objectWordsRow, standIns := [], harness := (true, "592378b327c49065650e2e56b77e79522ce377d650027533f7e06dc85fa372bc"), looks := false }, kinds := [], alts := [], laidByText := true, laidKinds := [.data, .data, .data, .data], laidTests := true, laidLooks := .later }
def ObjectWordsCardSaid : Prop := Claim7.holds Tryd.pinned (.plain (OpenSpec.ofChange objectWordsSpec)) objectWordsCard

/-- THE SECOND FORM's CARD OF 'graftagelaw14.ObjectBytes'. -/
def objectBytesUptoCard : Claim7 := { stood := { row := objectBytesUptoRow, standIns := [], harness := (true, "592378b327c49065650e2e56b77e79522ce377d650027533f7e06dc85fa372bc"), looks := false }, kinds := [], alts := [], laidByText := true, laidKinds := [.data, .data, .data, .data], laidTests := true, laidLooks := .later }
def ObjectBytesUptoCardSaid : Prop := Claim7.holds Tryd.pinned (.plain (OpenSpec.upto objectBytesSpec)) objectBytesUptoCard

/-- THE SECOND FORM's CARD OF 'graftagelaw14.ObjectParses'. -/
def objectParsesUptoCard : Claim7 := { stood := { row := objectParsesUptoRow, standIns := [], harness := (true, "592378b327c49065650e2e56b77e79522ce377d650027533f7e06dc85fa372bc"), looks := false }, kinds := [], alts := [], laidByText := true, laidKinds := [.data, .data, .data, .data], laidTests := true, laidLooks := .later }
def ObjectParsesUptoCardSaid : Prop := Claim7.holds Tryd.pinned (.plain (OpenSpec.upto objectParsesSpec)) objectParsesUptoCard

/-- THE SECOND FORM's CARD OF 'graftagelaw14.ObjectWords'. -/
def objectWordsUptoCard : Claim7 := { stood := { row := objectWordsUptoRow, standIns := [], harness := (true, "592378b327c49065650e2e56b77e79522ce377d650027533f7e06dc85fa372bc"), looks := false }, kinds := [], alts := [], laidByText := true, laidKinds := [.data, .data, .data, .data], laidTests := true, laidLooks := .later }
def ObjectWordsUptoCardSaid : Prop := Claim7.holds Tryd.pinned (.plain (OpenSpec.upto objectWordsSpec)) objectWordsUptoCard
end Rows
end Go.Proofs.YtkbknndlkjodpaaDoor
