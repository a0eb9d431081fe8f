/-
  DERIVED. GIVEN WITH THE SEED: THE CARDS: each row of YtfphcecjhdkcoaaGreatDoorRows.lean that lists a variable, with what it lists TIED to the program's text (the seventh form; the later family's looks); each row that meets fmt, with fmt's text TOLD by the authors' own Lean function (tested against real Go, not proved from fmt's source: count such statements apart). THE CARD IS WHAT COUNTS. Prove the row's statement (the work); the ties are given (YtfphcecjhdkcoaaGreatDoorTie.lean); close each card by the builder's one call (the guide's Derived/Test/ToyasCard.lean, 'card_holds'). Laid BY PROGRAM, IN A SANDBOX (cutbox-door.mjs). By AI agents, Wed Nov 11 2026. No macro, syntax, notation, axiom, sorry.
-/
import Derived.Test.YtfphcecjhdkcoaaGreatDoorRows
import GoSem.ClaimSeven
namespace Go.Proofs.YtfphcecjhdkcoaaGreatDoor
namespace Rows

/-- THE TIED CARD OF 'parcelslaw.Forms'. -/
def formsCard : Claim7 := { stood := { row := formsRow, standIns := [], harness := (true, "f4aca273a0232dad4aecb962fc8083af1ff484613bfe0ce246a95e4460c1fc5b"), looks := true }, kinds := [], alts := [], laidByText := true, laidKinds := [.data, .handle, .widerDeep, .pinned, .pinned], laidTests := true, laidLooks := .later }
def FormsCardSaid : Prop := Claim7.holds Tryz.pinned (.plain (OpenSpec.ofChange formsSpec)) formsCard

/-- THE TIED CARD OF 'parcelskeep.Formed'. -/
def formedCard : Claim7 := { stood := { row := formedRow, standIns := [], harness := (true, "f4aca273a0232dad4aecb962fc8083af1ff484613bfe0ce246a95e4460c1fc5b"), looks := true }, kinds := [], alts := [], laidByText := true, laidKinds := [.data, .handle, .widerDeep, .pinned, .pinned], laidTests := true, laidLooks := .later }
def FormedCardSaid : Prop := Claim7.holds Tryz.pinned (.plain (OpenSpec.ofChange formedSpec)) formedCard

/-- THE TIED CARD OF 'parcelskeep.Turned'. -/
def turnedCard : Claim7 := { stood := { row := turnedRow, standIns := [], harness := (true, "f4aca273a0232dad4aecb962fc8083af1ff484613bfe0ce246a95e4460c1fc5b"), looks := true }, kinds := [], alts := [], laidByText := true, laidKinds := [.data, .handle, .widerDeep, .pinned, .pinned], laidTests := true, laidLooks := .later }
def TurnedCardSaid : Prop := Claim7.holds Tryz.pinned (.plain (OpenSpec.ofChange turnedSpec)) turnedCard

/-- THE TIED CARD OF 'parcelskeep.Refused'. -/
def refusedCard : Claim7 := { stood := { row := refusedRow, standIns := [], harness := (true, "f4aca273a0232dad4aecb962fc8083af1ff484613bfe0ce246a95e4460c1fc5b"), looks := true }, kinds := [], alts := [], laidByText := true, laidKinds := [.data, .handle, .widerDeep, .pinned, .pinned], laidTests := true, laidLooks := .later }
def RefusedCardSaid : Prop := Claim7.holds Tryz.pinned (.plain (OpenSpec.ofChange refusedSpec)) refusedCard

/-- THE TIED CARD OF 'parcelskeep.Survives'. -/
def survivesCard : Claim7 := { stood := { row := survivesRow, standIns := [], harness := (true, "f4aca273a0232dad4aecb962fc8083af1ff484613bfe0ce246a95e4460c1fc5b"), looks := true }, kinds := [], alts := [], laidByText := true, laidKinds := [.data, .handle, .widerDeep, .pinned, .pinned], laidTests := true, laidLooks := .later }
def SurvivesCardSaid : Prop := Claim7.holds Tryz.pinned (.plain (OpenSpec.ofChange survivesSpec)) survivesCard

/-- THE TIED CARD OF 'parcelskeep.Back'. -/
def backCard : Claim7 := { stood := { row := backRow, standIns := [], harness := (true, "f4aca273a0232dad4aecb962fc8083af1ff484613bfe0ce246a95e4460c1fc5b"), looks := true }, kinds := [], alts := [], laidByText := true, laidKinds := [.data, .handle, .widerDeep, .pinned, .pinned], laidTests := true, laidLooks := .later }
def BackCardSaid : Prop := Claim7.holds Tryz.pinned (.plain (OpenSpec.ofChange backSpec)) backCard

/-- THE TIED CARD OF 'parcelskeep.Sound'. -/
def soundCard : Claim7 := { stood := { row := soundRow, standIns := [], harness := (true, "f4aca273a0232dad4aecb962fc8083af1ff484613bfe0ce246a95e4460c1fc5b"), looks := true }, kinds := [], alts := [], laidByText := true, laidKinds := [.data, .handle, .widerDeep, .pinned, .pinned], laidTests := true, laidLooks := .later }
def SoundCardSaid : Prop := Claim7.holds Tryz.pinned (.plain (OpenSpec.ofChange soundSpec)) soundCard

/-- THE TIED CARD OF 'parcelskeep.Known'. -/
def knownCard : Claim7 := { stood := { row := knownRow, standIns := [], harness := (true, "f4aca273a0232dad4aecb962fc8083af1ff484613bfe0ce246a95e4460c1fc5b"), looks := true }, kinds := [], alts := [], laidByText := true, laidKinds := [.data, .handle, .widerDeep, .pinned, .pinned], laidTests := true, laidLooks := .later }
def KnownCardSaid : Prop := Claim7.holds Tryz.pinned (.plain (OpenSpec.ofChange knownSpec)) knownCard

/-- THE TIED CARD OF 'parcelslaw.Plans'. -/
def plansCard : Claim7 := { stood := { row := plansRow, standIns := [], harness := (true, "f4aca273a0232dad4aecb962fc8083af1ff484613bfe0ce246a95e4460c1fc5b"), looks := true }, kinds := [], alts := [], laidByText := true, laidKinds := [.data, .handle, .widerDeep, .pinned, .pinned], laidTests := true, laidLooks := .later }
def PlansCardSaid : Prop := Claim7.holds Tryz.pinned (.plain (OpenSpec.ofChange plansSpec)) plansCard

/-- THE TIED CARD OF 'parcelslaw.Stores'. -/
def storesCard : Claim7 := { stood := { row := storesRow, standIns := [], harness := (true, "f4aca273a0232dad4aecb962fc8083af1ff484613bfe0ce246a95e4460c1fc5b"), looks := true }, kinds := [], alts := [], laidByText := true, laidKinds := [.data, .handle, .widerDeep, .pinned, .pinned], laidTests := true, laidLooks := .later }
def StoresCardSaid : Prop := Claim7.holds Tryz.pinned (.plain (OpenSpec.ofChange storesSpec)) storesCard

/-- THE TIED CARD OF 'parcelslaw.Cuts'. -/
def cutsCard : Claim7 := { stood := { row := cutsRow, standIns := [], harness := (true, "f4aca273a0232dad4aecb962fc8083af1ff484613bfe0ce246a95e4460c1fc5b"), looks := true }, kinds := [], alts := [], laidByText := true, laidKinds := [.data, .handle, .widerDeep, .pinned, .pinned], laidTests := true, laidLooks := .later }
def CutsCardSaid : Prop := Claim7.holds Tryz.pinned (.plain (OpenSpec.ofChange cutsSpec)) cutsCard

/-- THE TIED CARD OF 'parcelslaw.All'. -/
def allCard : Claim7 := { stood := { row := allRow, standIns := [], harness := (true, "f4aca273a0232dad4aecb962fc8083af1ff484613bfe0ce246a95e4460c1fc5b"), looks := true }, kinds := [], alts := [], laidByText := true, laidKinds := [.data, .handle, .widerDeep, .pinned, .pinned], laidTests := true, laidLooks := .later }
def AllCardSaid : Prop := Claim7.holds Tryz.pinned (.plain (OpenSpec.ofChange allSpec)) allCard

/-- THE SECOND FORM's CARD OF 'parcelslaw.Forms'. -/
def formsUptoCard : Claim7 := { stood := { row := formsUptoRow, standIns := [], harness := (true, "f4aca273a0232dad4aecb962fc8083af1ff484613bfe0ce246a95e4460c1fc5b"), looks := true }, kinds := [], alts := [], laidByText := true, laidKinds := [.data, .handle, .widerDeep, .pinned, .pinned], laidTests := true, laidLooks := .later }
def FormsUptoCardSaid : Prop := Claim7.holds Tryz.pinned (.plain (OpenSpec.upto formsSpec)) formsUptoCard

/-- THE SECOND FORM's CARD OF 'parcelskeep.Formed'. -/
def formedUptoCard : Claim7 := { stood := { row := formedUptoRow, standIns := [], harness := (true, "f4aca273a0232dad4aecb962fc8083af1ff484613bfe0ce246a95e4460c1fc5b"), looks := true }, kinds := [], alts := [], laidByText := true, laidKinds := [.data, .handle, .widerDeep, .pinned, .pinned], laidTests := true, laidLooks := .later }
def FormedUptoCardSaid : Prop := Claim7.holds Tryz.pinned (.plain (OpenSpec.upto formedSpec)) formedUptoCard

/-- THE SECOND FORM's CARD OF 'parcelskeep.Turned'. -/
def turnedUptoCard : Claim7 := { stood := { row := turnedUptoRow, standIns := [], harness := (true, "f4aca273a0232dad4aecb962fc8083af1ff484613bfe0ce246a95e4460c1fc5b"), looks := true }, kinds := [], alts := [], laidByText := true, laidKinds := [.data, .handle, .widerDeep, .pinned, .pinned], laidTests := true, laidLooks := .later }
def TurnedUptoCardSaid : Prop := Claim7.holds Tryz.pinned (.plain (OpenSpec.upto turnedSpec)) turnedUptoCard

/-- THE SECOND FORM's CARD OF 'parcelskeep.Refused'. -/
def refusedUptoCard : Claim7 := { stood := { row := refusedUptoRow, standIns := [], harness := (true, "f4aca273a0232dad4aecb962fc8083af1ff484613bfe0ce246a95e4460c1fc5b"), looks := true }, kinds := [], alts := [], laidByText := true, laidKinds := [.data, .handle, .widerDeep, .pinned, .pinned], laidTests := true, laidLooks := .later }
def RefusedUptoCardSaid : Prop := Claim7.holds Tryz.pinned (.plain (OpenSpec.upto refusedSpec)) refusedUptoCard

/-- THE SECOND FORM's CARD OF 'parcelskeep.Survives'. -/
def survivesUptoCard : Claim7 := { stood := { row := survivesUptoRow, standIns := [], harness := (true, "f4aca273a0232dad4aecb962fc8083af1ff484613bfe0ce246a95e4460c1fc5b"), looks := true }, kinds := [], alts := [], laidByText := true, laidKinds := [.data, .handle, .widerDeep, .pinned, .pinned], laidTests := true, laidLooks := .later }
def SurvivesUptoCardSaid : Prop := Claim7.holds Tryz.pinned (.plain (OpenSpec.upto survivesSpec)) survivesUptoCard

/-- THE SECOND FORM's CARD OF 'parcelskeep.Back'. -/
def backUptoCard : Claim7 := { stood := { row := backUptoRow, standIns := [], harness := (true, "f4aca273a0232dad4aecb962fc8083af1ff484613bfe0ce246a95e4460c1fc5b"), looks := true }, kinds := [], alts := [], laidByText := true, laidKinds := [.data, .handle, .widerDeep, .pinned, .pinned], laidTests := true, laidLooks := .later }
def BackUptoCardSaid : Prop := Claim7.holds Tryz.pinned (.plain (OpenSpec.upto backSpec)) backUptoCard

/-- THE SECOND FORM's CARD OF 'parcelskeep.Sound'. -/
def soundUptoCard : Claim7 := { stood := { row := soundUptoRow, standIns := [], harness := (true, "f4aca273a0232dad4aecb962fc8083af1ff484613bfe0ce246a95e4460c1fc5b"), looks := true }, kinds := [], alts := [], laidByText := true, laidKinds := [.data, .handle, .widerDeep, .pinned, .pinned], laidTests := true, laidLooks := .later }
def SoundUptoCardSaid : Prop := Claim7.holds Tryz.pinned (.plain (OpenSpec.upto soundSpec)) soundUptoCard

/-- THE SECOND FORM's CARD OF 'parcelskeep.Known'. -/
def knownUptoCard : Claim7 := { stood := { row := knownUptoRow, standIns := [], harness := (true, "f4aca273a0232dad4aecb962fc8083af1ff484613bfe0ce246a95e4460c1fc5b"), looks := true }, kinds := [], alts := [], laidByText := true, laidKinds := [.data, .handle, .widerDeep, .pinned, .pinned], laidTests := true, laidLooks := .later }
def KnownUptoCardSaid : Prop := Claim7.holds Tryz.pinned (.plain (OpenSpec.upto knownSpec)) knownUptoCard

/-- THE SECOND FORM's CARD OF 'parcelslaw.Plans'. -/
def plansUptoCard : Claim7 := { stood := { row := plansUptoRow, standIns := [], harness := (true, "f4aca273a0232dad4aecb962fc8083af1ff484613bfe0ce246a95e4460c1fc5b"), looks := true }, kinds := [], alts := [], laidByText := true, laidKinds := [.data, .handle, .widerDeep, .pinned, .pinned], laidTests := true, laidLooks := .later }
def PlansUptoCardSaid : Prop := Claim7.holds Tryz.pinned (.plain (OpenSpec.upto plansSpec)) plansUptoCard

/-- THE SECOND FORM's CARD OF 'parcelslaw.Stores'. -/
def storesUptoCard : Claim7 := { stood := { row := storesUptoRow, standIns := [], harness := (true, "f4aca273a0232dad4aecb962fc8083af1ff484613bfe0ce246a95e4460c1fc5b"), looks := true }, kinds := [], alts := [], laidByText := true, laidKinds := [.data, .handle, .widerDeep, .pinned, .pinned], laidTests := true, laidLooks := .later }
def StoresUptoCardSaid : Prop := Claim7.holds Tryz.pinned (.plain (OpenSpec.upto storesSpec)) storesUptoCard

/-- THE SECOND FORM's CARD OF 'parcelslaw.Cuts'. -/
def cutsUptoCard : Claim7 := { stood := { row := cutsUptoRow, standIns := [], harness := (true, "f4aca273a0232dad4aecb962fc8083af1ff484613bfe0ce246a95e4460c1fc5b"), looks := true }, kinds := [], alts := [], laidByText := true, laidKinds := [.data, .handle, .widerDeep, .pinned, .pinned], laidTests := true, laidLooks := .later }
def CutsUptoCardSaid : Prop := Claim7.holds Tryz.pinned (.plain (OpenSpec.upto cutsSpec)) cutsUptoCard

/-- THE SECOND FORM's CARD OF 'parcelslaw.All'. -/
def allUptoCard : Claim7 := { stood := { row := allUptoRow, standIns := [], harness := (true, "f4aca273a0232dad4aecb962fc8083af1ff484613bfe0ce246a95e4460c1fc5b"), looks := true }, kinds := [], alts := [], laidByText := true, laidKinds := [.data, .handle, .widerDeep, .pinned, .pinned], laidTests := true, laidLooks := .later }
def AllUptoCardSaid : Prop := Claim7.holds Tryz.pinned (.plain (OpenSpec.upto allSpec)) allUptoCard
end Rows
end Go.Proofs.YtfphcecjhdkcoaaGreatDoor
