/-
  NARROWER THAN 'FOR EVERY INPUT', by the rows' own cells (each row's printed sentence says how): SpellTells: laid · SpellBack: laid · SpellFair: laid · SpellLoose: laid.
  DERIVED. THE GIVEN ROWS OF THIS SEAT. 4 by the template 'for every input the law returns true; each argument reads behind the call as it read before'; 0 by the template 'total and deterministic' (their statements: YtkanlfgomfibdaaDoorTotals.lean).
  GIVEN WITH THE SEED: the statements are not yours to turn. If you find one false, say at which input.
  Laid BY PROGRAM, IN A SANDBOX (cutbox-rows.mjs): the forced cells as the released guide's own fill.sh prints them over the translation 0ae693ef0b88577a… (all of the seat's roots in one cut). By AI agents, Wed Nov 11 2026. No macro, syntax, notation, axiom, sorry.
-/
import Derived.Test.YtkanlfgomfibdaaDoorChecked
import GoSem.PinnedTables
import GoSem.Claim
import GoSem.ClaimJoined
import GoSem.ClaimMapViews
import Derived.JoinedTies
import Derived.KernelRfl
namespace Go.Proofs.YtkanlfgomfibdaaDoor
/- THE CELL 'sum', in the pinned program and in every row, IS THE sha256 OF THE DUMP (.gsa) THAT YtkanlfgomfibdaaDoorProg.lean LOADS. Nothing in Lean hashes anything: it is a label: what it is worth is what the hold of that sum in a sandbox is worth. -/
noncomputable def Tryd.pinned : Pinned := { name := "ytkanlfgomfibdaadoor", sum := "0ae693ef0b88577a8ed9a850a8e9d0c72d2a0397c7dea4c6d7c3468d5d1e4dac", checked := Tryd.checked }
namespace Rows
def none {H : Type} : Left H := { results := [], args := [] }

/- WHAT THE LISTED PACKAGE-LEVEL VARIABLES READ AS WHEN THE CALL BEGINS. Each datum BY PROGRAM (the guide's laid-datum.mjs) off the statement by which the dump's own 'gosem.cut.vars' lays the variable. In a bare row this is a premise. The card (YtkanlfgomfibdaaDoorCards.lean) ties it to the program's text. -/
/-- One of Go's own tables, pinned by name: the form's constant. -/
def laid_unicode_CaseRanges : DataW Unit := Go.Pinned.caseRanges

/-- 'swinggatelaw.SpellTells': WHATEVER THE INPUT: true; the input reads as it did. -/
def spellTellsSpec : ChangeSpec := { name := "spellTells", fn := fun _ => fun
  | [d1, d2] => { results := [.lit (.bool true)], args := [d1, d2] }
  | _ => none }
def spellTellsRow : OpenClaim := { program := "ytkanlfgomfibdaadoor", sum := "0ae693ef0b88577a8ed9a850a8e9d0c72d2a0397c7dea4c6d7c3468d5d1e4dac", func := "swinggate/swinggatelaw.SpellTells", spec := "spellTells", inPlace := ["internal/bytealg.IndexByteString", "internal/bytealg.IndexString"], named := ["unicode.CaseRanges", "internal/bytealg.MaxLen"], apart := false, laid := [("unicode.CaseRanges", laid_unicode_CaseRanges)] }
def SpellTellsSaid : Prop := spellTellsRow.holds Tryd.pinned (OpenSpec.ofChange spellTellsSpec)

/-- ITS FALSE NEIGHBOUR: 'it returns false'. Refute it at one input. -/
def spellTellsWrong : ChangeSpec := { name := "spellTells", fn := fun _ => fun
  | [d1, d2] => { results := [.lit (.bool false)], args := [d1, d2] }
  | _ => none }
def SpellTellsWrongFalsely : Prop := spellTellsRow.holds Tryd.pinned (OpenSpec.ofChange spellTellsWrong)

/-- 'swinggatelaw.SpellBack': WHATEVER THE INPUT: true; the input reads as it did. -/
def spellBackSpec : ChangeSpec := { name := "spellBack", fn := fun _ => fun
  | [d] => { results := [.lit (.bool true)], args := [d] }
  | _ => none }
def spellBackRow : OpenClaim := { program := "ytkanlfgomfibdaadoor", sum := "0ae693ef0b88577a8ed9a850a8e9d0c72d2a0397c7dea4c6d7c3468d5d1e4dac", func := "swinggate/swinggatelaw.SpellBack", spec := "spellBack", inPlace := ["internal/bytealg.IndexByteString", "internal/bytealg.IndexString"], named := ["unicode.CaseRanges", "internal/bytealg.MaxLen"], apart := false, laid := [("unicode.CaseRanges", laid_unicode_CaseRanges)] }
def SpellBackSaid : Prop := spellBackRow.holds Tryd.pinned (OpenSpec.ofChange spellBackSpec)

/-- ITS FALSE NEIGHBOUR: 'it returns false'. Refute it at one input. -/
def spellBackWrong : ChangeSpec := { name := "spellBack", fn := fun _ => fun
  | [d] => { results := [.lit (.bool false)], args := [d] }
  | _ => none }
def SpellBackWrongFalsely : Prop := spellBackRow.holds Tryd.pinned (OpenSpec.ofChange spellBackWrong)

/-- 'swinggatelaw.SpellFair': WHATEVER THE INPUT: true; the input reads as it did. -/
def spellFairSpec : ChangeSpec := { name := "spellFair", fn := fun _ => fun
  | [d] => { results := [.lit (.bool true)], args := [d] }
  | _ => none }
def spellFairRow : OpenClaim := { program := "ytkanlfgomfibdaadoor", sum := "0ae693ef0b88577a8ed9a850a8e9d0c72d2a0397c7dea4c6d7c3468d5d1e4dac", func := "swinggate/swinggatelaw.SpellFair", spec := "spellFair", inPlace := ["internal/bytealg.IndexByteString", "internal/bytealg.IndexString"], named := ["unicode.CaseRanges", "internal/bytealg.MaxLen"], apart := false, laid := [("unicode.CaseRanges", laid_unicode_CaseRanges)] }
def SpellFairSaid : Prop := spellFairRow.holds Tryd.pinned (OpenSpec.ofChange spellFairSpec)

/-- ITS FALSE NEIGHBOUR: 'it returns false'. Refute it at one input. -/
def spellFairWrong : ChangeSpec := { name := "spellFair", fn := fun _ => fun
  | [d] => { results := [.lit (.bool false)], args := [d] }
  | _ => none }
def SpellFairWrongFalsely : Prop := spellFairRow.holds Tryd.pinned (OpenSpec.ofChange spellFairWrong)

/-- 'swinggatelaw.SpellLoose': WHATEVER THE INPUT: true; the input reads as it did. -/
def spellLooseSpec : ChangeSpec := { name := "spellLoose", fn := fun _ => fun
  | [d1, d2] => { results := [.lit (.bool true)], args := [d1, d2] }
  | _ => none }
def spellLooseRow : OpenClaim := { program := "ytkanlfgomfibdaadoor", sum := "0ae693ef0b88577a8ed9a850a8e9d0c72d2a0397c7dea4c6d7c3468d5d1e4dac", func := "swinggate/swinggatelaw.SpellLoose", spec := "spellLoose", inPlace := ["internal/bytealg.IndexByteString", "internal/bytealg.IndexString"], named := ["unicode.CaseRanges", "internal/bytealg.MaxLen"], apart := false, laid := [("unicode.CaseRanges", laid_unicode_CaseRanges)] }
def SpellLooseSaid : Prop := spellLooseRow.holds Tryd.pinned (OpenSpec.ofChange spellLooseSpec)

/-- ITS FALSE NEIGHBOUR: 'it returns false'. Refute it at one input. -/
def spellLooseWrong : ChangeSpec := { name := "spellLoose", fn := fun _ => fun
  | [d1, d2] => { results := [.lit (.bool false)], args := [d1, d2] }
  | _ => none }
def SpellLooseWrongFalsely : Prop := spellLooseRow.holds Tryd.pinned (OpenSpec.ofChange spellLooseWrong)

/- THE SECOND FORM. 'bulk': how many values and letters a reading holds, each counted each time it is reached (what is shared counts as often as it is met; a slice's spare places count too). A statement '..UptoSaid' is the law's where the arguments, and the package variables that the reading takes, are together of bulk at most 1048576: NARROWER than '..Said'. Prove '..Said' where nothing that the law and all that it calls make is longer than what came in: it says more and counts as full. Else prove '..UptoSaid'. A law counts once. -/
mutual
def uptoBulk {H : Type} : DataW H → Nat
  | .lit (.string bytes) => bytes.length + 1
  | .lit _ => 1
  | .nil => 1
  | .ptr d => uptoBulk d + 1
  | .slice elems spare => uptoBulkAll elems + uptoBulkAll spare + 1
  | .agg parts => uptoBulkAll parts + 1
  | .iface _ d => uptoBulk d + 1
  | .map entries => uptoBulkEntries entries + 1
  | .held _ => 1
def uptoBulkAll {H : Type} : List (DataW H) → Nat
  | [] => 0
  | d :: r => uptoBulk d + uptoBulkAll r
def uptoBulkEntries {H : Type} : List (Lit × DataW H) → Nat
  | [] => 0
  | x :: r => uptoBulkEntry x + uptoBulkEntries r
def uptoBulkEntry {H : Type} : Lit × DataW H → Nat
  | (.string bytes, d) => bytes.length + uptoBulk d + 1
  | (_, d) => uptoBulk d + 1
 end
def uptoSmall : (H : Type) → List (DataW H) → Bool := fun _ ds => decide (uptoBulkAll ds ≤ 1048576)
def OpenSpec.upto (s : _root_.Go.ChangeSpec) : _root_.Go.OpenSpec := { _root_.Go.OpenSpec.ofChange s with cond := some uptoSmall }

/-- 'swinggatelaw.SpellTells', WHERE WHAT IT READS IS OF BULK AT MOST 1048576: true; the input reads as it did. -/
def spellTellsUptoRow : OpenClaim := { program := "ytkanlfgomfibdaadoor", sum := "0ae693ef0b88577a8ed9a850a8e9d0c72d2a0397c7dea4c6d7c3468d5d1e4dac", func := "swinggate/swinggatelaw.SpellTells", spec := "spellTells", inPlace := ["internal/bytealg.IndexByteString", "internal/bytealg.IndexString"], named := ["unicode.CaseRanges", "internal/bytealg.MaxLen"], apart := false, laid := [("unicode.CaseRanges", laid_unicode_CaseRanges)], narrowed := true }
def SpellTellsUptoSaid : Prop := spellTellsUptoRow.holds Tryd.pinned (OpenSpec.upto spellTellsSpec)

/-- 'swinggatelaw.SpellBack', WHERE WHAT IT READS IS OF BULK AT MOST 1048576: true; the input reads as it did. -/
def spellBackUptoRow : OpenClaim := { program := "ytkanlfgomfibdaadoor", sum := "0ae693ef0b88577a8ed9a850a8e9d0c72d2a0397c7dea4c6d7c3468d5d1e4dac", func := "swinggate/swinggatelaw.SpellBack", spec := "spellBack", inPlace := ["internal/bytealg.IndexByteString", "internal/bytealg.IndexString"], named := ["unicode.CaseRanges", "internal/bytealg.MaxLen"], apart := false, laid := [("unicode.CaseRanges", laid_unicode_CaseRanges)], narrowed := true }
def SpellBackUptoSaid : Prop := spellBackUptoRow.holds Tryd.pinned (OpenSpec.upto spellBackSpec)

/-- 'swinggatelaw.SpellFair', WHERE WHAT IT READS IS OF BULK AT MOST 1048576: true; the input reads as it did. -/
def spellFairUptoRow : OpenClaim := { program := "ytkanlfgomfibdaadoor", sum := "0ae693ef0b88577a8ed9a850a8e9d0c72d2a0397c7dea4c6d7c3468d5d1e4dac", func := "swinggate/swinggatelaw.SpellFair", spec := "spellFair", inPlace := ["internal/bytealg.IndexByteString", "internal/bytealg.IndexString"], named := ["unicode.CaseRanges", "internal/bytealg.MaxLen"], apart := false, laid := [("unicode.CaseRanges", laid_unicode_CaseRanges)], narrowed := true }
def SpellFairUptoSaid : Prop := spellFairUptoRow.holds Tryd.pinned (OpenSpec.upto spellFairSpec)

/-- 'swinggatelaw.SpellLoose', WHERE WHAT IT READS IS OF BULK AT MOST 1048576: true; the input reads as it did. -/
def spellLooseUptoRow : OpenClaim := { program := "ytkanlfgomfibdaadoor", sum := "0ae693ef0b88577a8ed9a850a8e9d0c72d2a0397c7dea4c6d7c3468d5d1e4dac", func := "swinggate/swinggatelaw.SpellLoose", spec := "spellLoose", inPlace := ["internal/bytealg.IndexByteString", "internal/bytealg.IndexString"], named := ["unicode.CaseRanges", "internal/bytealg.MaxLen"], apart := false, laid := [("unicode.CaseRanges", laid_unicode_CaseRanges)], narrowed := true }
def SpellLooseUptoSaid : Prop := spellLooseUptoRow.holds Tryd.pinned (OpenSpec.upto spellLooseSpec)

end Rows
end Go.Proofs.YtkanlfgomfibdaaDoor
