/-
  DERIVED. GIVEN WITH THE SEED: THE CARDS: each row of YtdfdjampodkpgaaDoorRows.lean that lists a variable, with what it lists TIED to the program's text (the seventh form; the later family's looks); each row that meets fmt, with fmt's text TOLD by the authors' own Lean function (tested against real Go, not proved from fmt's source: count such statements apart). THE CARD IS WHAT COUNTS. Prove the row's statement (the work); the ties are given (YtdfdjampodkpgaaDoorTie.lean); close each card by the builder's one call (the guide's Derived/Test/ToyasCard.lean, 'card_holds'). Laid BY PROGRAM, IN A SANDBOX (cutbox-door.mjs). By AI agents, Wed Nov 11 2026. No macro, syntax, notation, axiom, sorry.
-/
import Derived.Test.YtdfdjampodkpgaaDoorRows
import GoSem.ClaimSeven
namespace Go.Proofs.YtdfdjampodkpgaaDoor
namespace Rows

/-- THE TIED CARD OF 'swinggatelaw.TokenTells'. -/
def tokenTellsCard : Claim7 := { stood := { row := tokenTellsRow, standIns := [], harness := (true, "bed42d342f7b44c2adfc288866fe8ac76853d5128a8738c03993b020d559ecce"), looks := true }, kinds := [], alts := [], laidByText := true, laidKinds := [.pinned], laidTests := true, laidLooks := .later }
def TokenTellsCardSaid : Prop := Claim7.holds Tryd.pinned (.plain (OpenSpec.ofChange tokenTellsSpec)) tokenTellsCard

/-- THE TIED CARD OF 'swinggatelaw.AdmitTells'. -/
def admitTellsCard : Claim7 := { stood := { row := admitTellsRow, standIns := [], harness := (true, "bed42d342f7b44c2adfc288866fe8ac76853d5128a8738c03993b020d559ecce"), looks := true }, kinds := [], alts := [], laidByText := true, laidKinds := [.pinned], laidTests := true, laidLooks := .later }
def AdmitTellsCardSaid : Prop := Claim7.holds Tryd.pinned (.plain (OpenSpec.ofChange admitTellsSpec)) admitTellsCard

/-- THE TIED CARD OF 'swinggatelaw.TokenBack'. -/
def tokenBackCard : Claim7 := { stood := { row := tokenBackRow, standIns := [], harness := (true, "bed42d342f7b44c2adfc288866fe8ac76853d5128a8738c03993b020d559ecce"), looks := true }, kinds := [], alts := [], laidByText := true, laidKinds := [.pinned], laidTests := true, laidLooks := .later }
def TokenBackCardSaid : Prop := Claim7.holds Tryd.pinned (.plain (OpenSpec.ofChange tokenBackSpec)) tokenBackCard

/-- THE TIED CARD OF 'swinggatelaw.AdmitOnly'. -/
def admitOnlyCard : Claim7 := { stood := { row := admitOnlyRow, standIns := [], harness := (true, "bed42d342f7b44c2adfc288866fe8ac76853d5128a8738c03993b020d559ecce"), looks := true }, kinds := [], alts := [], laidByText := true, laidKinds := [.pinned], laidTests := true, laidLooks := .later }
def AdmitOnlyCardSaid : Prop := Claim7.holds Tryd.pinned (.plain (OpenSpec.ofChange admitOnlySpec)) admitOnlyCard

/-- THE TIED CARD OF 'swinggatelaw.AdmitLatest'. -/
def admitLatestCard : Claim7 := { stood := { row := admitLatestRow, standIns := [], harness := (true, "bed42d342f7b44c2adfc288866fe8ac76853d5128a8738c03993b020d559ecce"), looks := true }, kinds := [], alts := [], laidByText := true, laidKinds := [.pinned], laidTests := true, laidLooks := .later }
def AdmitLatestCardSaid : Prop := Claim7.holds Tryd.pinned (.plain (OpenSpec.ofChange admitLatestSpec)) admitLatestCard

/-- THE TIED CARD OF 'swinggatelaw.AdmitOld'. -/
def admitOldCard : Claim7 := { stood := { row := admitOldRow, standIns := [], harness := (true, "bed42d342f7b44c2adfc288866fe8ac76853d5128a8738c03993b020d559ecce"), looks := true }, kinds := [], alts := [], laidByText := true, laidKinds := [.pinned], laidTests := true, laidLooks := .later }
def AdmitOldCardSaid : Prop := Claim7.holds Tryd.pinned (.plain (OpenSpec.ofChange admitOldSpec)) admitOldCard

/-- THE SECOND FORM's CARD OF 'swinggatelaw.TokenTells'. -/
def tokenTellsUptoCard : Claim7 := { stood := { row := tokenTellsUptoRow, standIns := [], harness := (true, "bed42d342f7b44c2adfc288866fe8ac76853d5128a8738c03993b020d559ecce"), looks := true }, kinds := [], alts := [], laidByText := true, laidKinds := [.pinned], laidTests := true, laidLooks := .later }
def TokenTellsUptoCardSaid : Prop := Claim7.holds Tryd.pinned (.plain (OpenSpec.upto tokenTellsSpec)) tokenTellsUptoCard

/-- THE SECOND FORM's CARD OF 'swinggatelaw.AdmitTells'. -/
def admitTellsUptoCard : Claim7 := { stood := { row := admitTellsUptoRow, standIns := [], harness := (true, "bed42d342f7b44c2adfc288866fe8ac76853d5128a8738c03993b020d559ecce"), looks := true }, kinds := [], alts := [], laidByText := true, laidKinds := [.pinned], laidTests := true, laidLooks := .later }
def AdmitTellsUptoCardSaid : Prop := Claim7.holds Tryd.pinned (.plain (OpenSpec.upto admitTellsSpec)) admitTellsUptoCard

/-- THE SECOND FORM's CARD OF 'swinggatelaw.TokenBack'. -/
def tokenBackUptoCard : Claim7 := { stood := { row := tokenBackUptoRow, standIns := [], harness := (true, "bed42d342f7b44c2adfc288866fe8ac76853d5128a8738c03993b020d559ecce"), looks := true }, kinds := [], alts := [], laidByText := true, laidKinds := [.pinned], laidTests := true, laidLooks := .later }
def TokenBackUptoCardSaid : Prop := Claim7.holds Tryd.pinned (.plain (OpenSpec.upto tokenBackSpec)) tokenBackUptoCard

/-- THE SECOND FORM's CARD OF 'swinggatelaw.AdmitOnly'. -/
def admitOnlyUptoCard : Claim7 := { stood := { row := admitOnlyUptoRow, standIns := [], harness := (true, "bed42d342f7b44c2adfc288866fe8ac76853d5128a8738c03993b020d559ecce"), looks := true }, kinds := [], alts := [], laidByText := true, laidKinds := [.pinned], laidTests := true, laidLooks := .later }
def AdmitOnlyUptoCardSaid : Prop := Claim7.holds Tryd.pinned (.plain (OpenSpec.upto admitOnlySpec)) admitOnlyUptoCard

/-- THE SECOND FORM's CARD OF 'swinggatelaw.AdmitLatest'. -/
def admitLatestUptoCard : Claim7 := { stood := { row := admitLatestUptoRow, standIns := [], harness := (true, "bed42d342f7b44c2adfc288866fe8ac76853d5128a8738c03993b020d559ecce"), looks := true }, kinds := [], alts := [], laidByText := true, laidKinds := [.pinned], laidTests := true, laidLooks := .later }
def AdmitLatestUptoCardSaid : Prop := Claim7.holds Tryd.pinned (.plain (OpenSpec.upto admitLatestSpec)) admitLatestUptoCard

/-- THE SECOND FORM's CARD OF 'swinggatelaw.AdmitOld'. -/
def admitOldUptoCard : Claim7 := { stood := { row := admitOldUptoRow, standIns := [], harness := (true, "bed42d342f7b44c2adfc288866fe8ac76853d5128a8738c03993b020d559ecce"), looks := true }, kinds := [], alts := [], laidByText := true, laidKinds := [.pinned], laidTests := true, laidLooks := .later }
def AdmitOldUptoCardSaid : Prop := Claim7.holds Tryd.pinned (.plain (OpenSpec.upto admitOldSpec)) admitOldUptoCard
end Rows
end Go.Proofs.YtdfdjampodkpgaaDoor
