/-
  DERIVED. GIVEN WITH THE SEED: THE CARDS: each row of YtlinaloemppniaaDoorRows.lean that lists a variable, with what it lists TIED to the program's text (the seventh form; the later family's looks); each row that meets fmt, with fmt's text TOLD by the authors' own Lean function (tested against real Go, not proved from fmt's source: count such statements apart). THE CARD IS WHAT COUNTS. Prove the row's statement (the work); the ties are given (YtlinaloemppniaaDoorTie.lean); close each card by the builder's one call (the guide's Derived/Test/ToyasCard.lean, 'card_holds'). Laid BY PROGRAM, IN A SANDBOX (cutbox-door.mjs). By AI agents, Wed Nov 11 2026. No macro, syntax, notation, axiom, sorry.
-/
import Derived.Test.YtlinaloemppniaaDoorRows
import GoSem.ClaimSeven
namespace Go.Proofs.YtlinaloemppniaaDoor
namespace Rows

/-- THE TIED CARD OF 'winklelaw04.CrcSums'. -/
def crcSumsCard : Claim7 := { stood := { row := crcSumsRow, standIns := [], harness := (true, "a9cbd1283d25d4d5c96544a61a0a2f143272d4cce3597245d1e94ff6830de7c7"), looks := false }, kinds := [], alts := [], laidByText := true, laidKinds := [.data], laidTests := true, laidLooks := .later }
def CrcSumsCardSaid : Prop := Claim7.holds Tryd.pinned (.plain (OpenSpec.ofChange crcSumsSpec)) crcSumsCard

/-- THE TIED CARD OF 'winklelaw04.CrcSteps'. -/
def crcStepsCard : Claim7 := { stood := { row := crcStepsRow, standIns := [], harness := (true, "a9cbd1283d25d4d5c96544a61a0a2f143272d4cce3597245d1e94ff6830de7c7"), looks := false }, kinds := [], alts := [], laidByText := true, laidKinds := [.data], laidTests := true, laidLooks := .later }
def CrcStepsCardSaid : Prop := Claim7.holds Tryd.pinned (.plain (OpenSpec.ofChange crcStepsSpec)) crcStepsCard

/-- THE TIED CARD OF 'winklelaw04.CrcSees'. -/
def crcSeesCard : Claim7 := { stood := { row := crcSeesRow, standIns := [], harness := (true, "a9cbd1283d25d4d5c96544a61a0a2f143272d4cce3597245d1e94ff6830de7c7"), looks := false }, kinds := [], alts := [], laidByText := true, laidKinds := [.data], laidTests := true, laidLooks := .later }
def CrcSeesCardSaid : Prop := Claim7.holds Tryd.pinned (.plain (OpenSpec.ofChange crcSeesSpec)) crcSeesCard

/-- THE TIED CARD OF 'winklelaw04.CrcKnown'. -/
def crcKnownCard : Claim7 := { stood := { row := crcKnownRow, standIns := [], harness := (true, "a9cbd1283d25d4d5c96544a61a0a2f143272d4cce3597245d1e94ff6830de7c7"), looks := false }, kinds := [], alts := [], laidByText := true, laidKinds := [.data], laidTests := true, laidLooks := .later }
def CrcKnownCardSaid : Prop := Claim7.holds Tryd.pinned (.plain (OpenSpec.ofChange crcKnownSpec)) crcKnownCard

/-- THE TIED CARD OF 'winklelaw04.CrcJoins'. -/
def crcJoinsCard : Claim7 := { stood := { row := crcJoinsRow, standIns := [], harness := (true, "a9cbd1283d25d4d5c96544a61a0a2f143272d4cce3597245d1e94ff6830de7c7"), looks := false }, kinds := [], alts := [], laidByText := true, laidKinds := [.data], laidTests := true, laidLooks := .later }
def CrcJoinsCardSaid : Prop := Claim7.holds Tryd.pinned (.plain (OpenSpec.ofChange crcJoinsSpec)) crcJoinsCard

/-- THE SECOND FORM's CARD OF 'winklelaw04.CrcSums'. -/
def crcSumsUptoCard : Claim7 := { stood := { row := crcSumsUptoRow, standIns := [], harness := (true, "a9cbd1283d25d4d5c96544a61a0a2f143272d4cce3597245d1e94ff6830de7c7"), looks := false }, kinds := [], alts := [], laidByText := true, laidKinds := [.data], laidTests := true, laidLooks := .later }
def CrcSumsUptoCardSaid : Prop := Claim7.holds Tryd.pinned (.plain (OpenSpec.upto crcSumsSpec)) crcSumsUptoCard

/-- THE SECOND FORM's CARD OF 'winklelaw04.CrcSteps'. -/
def crcStepsUptoCard : Claim7 := { stood := { row := crcStepsUptoRow, standIns := [], harness := (true, "a9cbd1283d25d4d5c96544a61a0a2f143272d4cce3597245d1e94ff6830de7c7"), looks := false }, kinds := [], alts := [], laidByText := true, laidKinds := [.data], laidTests := true, laidLooks := .later }
def CrcStepsUptoCardSaid : Prop := Claim7.holds Tryd.pinned (.plain (OpenSpec.upto crcStepsSpec)) crcStepsUptoCard

/-- THE SECOND FORM's CARD OF 'winklelaw04.CrcSees'. -/
def crcSeesUptoCard : Claim7 := { stood := { row := crcSeesUptoRow, standIns := [], harness := (true, "a9cbd1283d25d4d5c96544a61a0a2f143272d4cce3597245d1e94ff6830de7c7"), looks := false }, kinds := [], alts := [], laidByText := true, laidKinds := [.data], laidTests := true, laidLooks := .later }
def CrcSeesUptoCardSaid : Prop := Claim7.holds Tryd.pinned (.plain (OpenSpec.upto crcSeesSpec)) crcSeesUptoCard

/-- THE SECOND FORM's CARD OF 'winklelaw04.CrcKnown'. -/
def crcKnownUptoCard : Claim7 := { stood := { row := crcKnownUptoRow, standIns := [], harness := (true, "a9cbd1283d25d4d5c96544a61a0a2f143272d4cce3597245d1e94ff6830de7c7"), looks := false }, kinds := [], alts := [], laidByText := true, laidKinds := [.data], laidTests := true, laidLooks := .later }
def CrcKnownUptoCardSaid : Prop := Claim7.holds Tryd.pinned (.plain (OpenSpec.upto crcKnownSpec)) crcKnownUptoCard

/-- THE SECOND FORM's CARD OF 'winklelaw04.CrcJoins'. -/
def crcJoinsUptoCard : Claim7 := { stood := { row := crcJoinsUptoRow, standIns := [], harness := (true, "a9cbd1283d25d4d5c96544a61a0a2f143272d4cce3597245d1e94ff6830de7c7"), looks := false }, kinds := [], alts := [], laidByText := true, laidKinds := [.data], laidTests := true, laidLooks := .later }
def CrcJoinsUptoCardSaid : Prop := Claim7.holds Tryd.pinned (.plain (OpenSpec.upto crcJoinsSpec)) crcJoinsUptoCard
end Rows
end Go.Proofs.YtlinaloemppniaaDoor
