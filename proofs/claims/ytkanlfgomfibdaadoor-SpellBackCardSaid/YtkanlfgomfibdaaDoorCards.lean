/-
  DERIVED. GIVEN WITH THE SEED: THE CARDS: each row of YtkanlfgomfibdaaDoorRows.lean that lists a variable, with what it lists TIED to the program's text (the seventh form; the later family's looks); each row that meets fmt, with fmt's text TOLD by the authors' own Lean function (tested against real Go, not proved from fmt's source: count such statements apart). THE CARD IS WHAT COUNTS. Prove the row's statement (the work); the ties are given (YtkanlfgomfibdaaDoorTie.lean); close each card by the builder's one call (the guide's Derived/Test/ToyasCard.lean, 'card_holds'). Laid BY PROGRAM, IN A SANDBOX (cutbox-door.mjs). By AI agents, Wed Nov 11 2026. No macro, syntax, notation, axiom, sorry.
-/
import Derived.Test.YtkanlfgomfibdaaDoorRows
import GoSem.ClaimSeven
namespace Go.Proofs.YtkanlfgomfibdaaDoor
namespace Rows

/-- THE TIED CARD OF 'swinggatelaw.SpellTells'. -/
def spellTellsCard : Claim7 := { stood := { row := spellTellsRow, standIns := [], harness := (true, "4ea7c3a0a695e9d440c07a62ccfe47396786688fda51c724215a1e8fea992fc1"), looks := false }, kinds := [], alts := [], laidByText := true, laidKinds := [.pinned], laidTests := true, laidLooks := .later }
def SpellTellsCardSaid : Prop := Claim7.holds Tryd.pinned (.plain (OpenSpec.ofChange spellTellsSpec)) spellTellsCard

/-- THE TIED CARD OF 'swinggatelaw.SpellBack'. -/
def spellBackCard : Claim7 := { stood := { row := spellBackRow, standIns := [], harness := (true, "4ea7c3a0a695e9d440c07a62ccfe47396786688fda51c724215a1e8fea992fc1"), looks := false }, kinds := [], alts := [], laidByText := true, laidKinds := [.pinned], laidTests := true, laidLooks := .later }
def SpellBackCardSaid : Prop := Claim7.holds Tryd.pinned (.plain (OpenSpec.ofChange spellBackSpec)) spellBackCard

/-- THE TIED CARD OF 'swinggatelaw.SpellFair'. -/
def spellFairCard : Claim7 := { stood := { row := spellFairRow, standIns := [], harness := (true, "4ea7c3a0a695e9d440c07a62ccfe47396786688fda51c724215a1e8fea992fc1"), looks := false }, kinds := [], alts := [], laidByText := true, laidKinds := [.pinned], laidTests := true, laidLooks := .later }
def SpellFairCardSaid : Prop := Claim7.holds Tryd.pinned (.plain (OpenSpec.ofChange spellFairSpec)) spellFairCard

/-- THE TIED CARD OF 'swinggatelaw.SpellLoose'. -/
def spellLooseCard : Claim7 := { stood := { row := spellLooseRow, standIns := [], harness := (true, "4ea7c3a0a695e9d440c07a62ccfe47396786688fda51c724215a1e8fea992fc1"), looks := false }, kinds := [], alts := [], laidByText := true, laidKinds := [.pinned], laidTests := true, laidLooks := .later }
def SpellLooseCardSaid : Prop := Claim7.holds Tryd.pinned (.plain (OpenSpec.ofChange spellLooseSpec)) spellLooseCard

/-- THE SECOND FORM's CARD OF 'swinggatelaw.SpellTells'. -/
def spellTellsUptoCard : Claim7 := { stood := { row := spellTellsUptoRow, standIns := [], harness := (true, "4ea7c3a0a695e9d440c07a62ccfe47396786688fda51c724215a1e8fea992fc1"), looks := false }, kinds := [], alts := [], laidByText := true, laidKinds := [.pinned], laidTests := true, laidLooks := .later }
def SpellTellsUptoCardSaid : Prop := Claim7.holds Tryd.pinned (.plain (OpenSpec.upto spellTellsSpec)) spellTellsUptoCard

/-- THE SECOND FORM's CARD OF 'swinggatelaw.SpellBack'. -/
def spellBackUptoCard : Claim7 := { stood := { row := spellBackUptoRow, standIns := [], harness := (true, "4ea7c3a0a695e9d440c07a62ccfe47396786688fda51c724215a1e8fea992fc1"), looks := false }, kinds := [], alts := [], laidByText := true, laidKinds := [.pinned], laidTests := true, laidLooks := .later }
def SpellBackUptoCardSaid : Prop := Claim7.holds Tryd.pinned (.plain (OpenSpec.upto spellBackSpec)) spellBackUptoCard

/-- THE SECOND FORM's CARD OF 'swinggatelaw.SpellFair'. -/
def spellFairUptoCard : Claim7 := { stood := { row := spellFairUptoRow, standIns := [], harness := (true, "4ea7c3a0a695e9d440c07a62ccfe47396786688fda51c724215a1e8fea992fc1"), looks := false }, kinds := [], alts := [], laidByText := true, laidKinds := [.pinned], laidTests := true, laidLooks := .later }
def SpellFairUptoCardSaid : Prop := Claim7.holds Tryd.pinned (.plain (OpenSpec.upto spellFairSpec)) spellFairUptoCard

/-- THE SECOND FORM's CARD OF 'swinggatelaw.SpellLoose'. -/
def spellLooseUptoCard : Claim7 := { stood := { row := spellLooseUptoRow, standIns := [], harness := (true, "4ea7c3a0a695e9d440c07a62ccfe47396786688fda51c724215a1e8fea992fc1"), looks := false }, kinds := [], alts := [], laidByText := true, laidKinds := [.pinned], laidTests := true, laidLooks := .later }
def SpellLooseUptoCardSaid : Prop := Claim7.holds Tryd.pinned (.plain (OpenSpec.upto spellLooseSpec)) spellLooseUptoCard
end Rows
end Go.Proofs.YtkanlfgomfibdaaDoor
