/-
  DERIVED. GIVEN WITH THE SEED: THE CARDS: each row of YtllabeiadeclkaaDoorRows.lean that lists a variable, with what it lists TIED to the program's text (the seventh form; the later family's looks); each row that meets fmt, with fmt's text TOLD by the authors' own Lean function (tested against real Go, not proved from fmt's source: count such statements apart). THE CARD IS WHAT COUNTS. Prove the row's statement (the work); the ties are given (YtllabeiadeclkaaDoorTie.lean); close each card by the builder's one call (the guide's Derived/Test/ToyasCard.lean, 'card_holds'). Laid BY PROGRAM, IN A SANDBOX (cutbox-door.mjs). By AI agents, Wed Nov 11 2026. No macro, syntax, notation, axiom, sorry.
-/
import Derived.Test.YtllabeiadeclkaaDoorRows
import GoSem.ClaimSeven
namespace Go.Proofs.YtllabeiadeclkaaDoor
namespace Rows

/-- THE TIED CARD OF 'vergerlaw16.BodyParses'. -/
def bodyParsesCard : Claim7 := { stood := { row := bodyParsesRow, standIns := [], harness := (true, "ff04d42cf1b9cf2e0a524419eaca2e8117b9621ba074a201ab963734271975e0"), looks := true }, kinds := [], alts := [], laidByText := true, laidKinds := [.data, .data, .data, .data, .sentinel, .sentinel, .pinned], laidTests := true, laidLooks := .later }
def BodyParsesCardSaid : Prop := Claim7.holds Tryd.pinned (.plain (OpenSpec.ofChange bodyParsesSpec)) bodyParsesCard

/-- THE TIED CARD OF 'vergerlaw24.CmdWords'. -/
def cmdWordsCard : Claim7 := { stood := { row := cmdWordsRow, standIns := [], harness := (true, "ff04d42cf1b9cf2e0a524419eaca2e8117b9621ba074a201ab963734271975e0"), looks := true }, kinds := [], alts := [], laidByText := true, laidKinds := [.data, .data, .data, .data, .sentinel, .sentinel, .pinned], laidTests := true, laidLooks := .later }
def CmdWordsCardSaid : Prop := Claim7.holds Tryd.pinned (.plain (OpenSpec.ofChange cmdWordsSpec)) cmdWordsCard

/-- THE TIED CARD OF 'vergerlaw24.CmdNumbers'. -/
def cmdNumbersCard : Claim7 := { stood := { row := cmdNumbersRow, standIns := [], harness := (true, "ff04d42cf1b9cf2e0a524419eaca2e8117b9621ba074a201ab963734271975e0"), looks := true }, kinds := [], alts := [], laidByText := true, laidKinds := [.data, .data, .data, .data, .sentinel, .sentinel, .pinned], laidTests := true, laidLooks := .later }
def CmdNumbersCardSaid : Prop := Claim7.holds Tryd.pinned (.plain (OpenSpec.ofChange cmdNumbersSpec)) cmdNumbersCard

/-- THE SECOND FORM's CARD OF 'vergerlaw16.BodyParses'. -/
def bodyParsesUptoCard : Claim7 := { stood := { row := bodyParsesUptoRow, standIns := [], harness := (true, "ff04d42cf1b9cf2e0a524419eaca2e8117b9621ba074a201ab963734271975e0"), looks := true }, kinds := [], alts := [], laidByText := true, laidKinds := [.data, .data, .data, .data, .sentinel, .sentinel, .pinned], laidTests := true, laidLooks := .later }
def BodyParsesUptoCardSaid : Prop := Claim7.holds Tryd.pinned (.plain (OpenSpec.upto bodyParsesSpec)) bodyParsesUptoCard

/-- THE SECOND FORM's CARD OF 'vergerlaw24.CmdWords'. -/
def cmdWordsUptoCard : Claim7 := { stood := { row := cmdWordsUptoRow, standIns := [], harness := (true, "ff04d42cf1b9cf2e0a524419eaca2e8117b9621ba074a201ab963734271975e0"), looks := true }, kinds := [], alts := [], laidByText := true, laidKinds := [.data, .data, .data, .data, .sentinel, .sentinel, .pinned], laidTests := true, laidLooks := .later }
def CmdWordsUptoCardSaid : Prop := Claim7.holds Tryd.pinned (.plain (OpenSpec.upto cmdWordsSpec)) cmdWordsUptoCard

/-- THE SECOND FORM's CARD OF 'vergerlaw24.CmdNumbers'. -/
def cmdNumbersUptoCard : Claim7 := { stood := { row := cmdNumbersUptoRow, standIns := [], harness := (true, "ff04d42cf1b9cf2e0a524419eaca2e8117b9621ba074a201ab963734271975e0"), looks := true }, kinds := [], alts := [], laidByText := true, laidKinds := [.data, .data, .data, .data, .sentinel, .sentinel, .pinned], laidTests := true, laidLooks := .later }
def CmdNumbersUptoCardSaid : Prop := Claim7.holds Tryd.pinned (.plain (OpenSpec.upto cmdNumbersSpec)) cmdNumbersUptoCard
end Rows
end Go.Proofs.YtllabeiadeclkaaDoor
