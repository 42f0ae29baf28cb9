/-
  NARROWER THAN 'FOR EVERY INPUT', by the rows' own cells (each row's printed sentence says how): TokenTells: laid · AdmitTells: laid · TokenBack: laid · AdmitOnly: laid · AdmitLatest: laid · AdmitOld: laid.
  DERIVED. THE GIVEN ROWS OF THIS SEAT. 6 by the template 'for every input the law returns true; each argument reads behind the call as it read before'; 0 by the template 'total and deterministic' (their statements: YtdfdjampodkpgaaDoorTotals.lean).
  GIVEN WITH THE SEED: the statements are not yours to turn. If you find one false, say at which input.
  Laid BY PROGRAM, IN A SANDBOX (cutbox-rows.mjs): the forced cells as the released guide's own fill.sh prints them over the translation f4fd52caf96bc72d… (all of the seat's roots in one cut). By AI agents, Wed Nov 11 2026. No macro, syntax, notation, axiom, sorry.
-/
import Derived.Test.YtdfdjampodkpgaaDoorChecked
import GoSem.PinnedTables
import GoSem.Claim
import GoSem.ClaimJoined
import GoSem.ClaimMapViews
import Derived.JoinedTies
import Derived.KernelRfl
namespace Go.Proofs.YtdfdjampodkpgaaDoor
/- THE CELL 'sum', in the pinned program and in every row, IS THE sha256 OF THE DUMP (.gsa) THAT YtdfdjampodkpgaaDoorProg.lean LOADS. Nothing in Lean hashes anything: it is a label: what it is worth is what the hold of that sum in a sandbox is worth. -/
noncomputable def Tryd.pinned : Pinned := { name := "ytdfdjampodkpgaadoor", sum := "f4fd52caf96bc72d058ed6f3a66f3b6a959e6a642d46cacea193faa7b40ea055", checked := Tryd.checked }
namespace Rows
def none {H : Type} : Left H := { results := [], args := [] }

/- WHAT THE LISTED PACKAGE-LEVEL VARIABLES READ AS WHEN THE CALL BEGINS. Each datum BY PROGRAM (the guide's laid-datum.mjs) off the statement by which the dump's own 'gosem.cut.vars' lays the variable. In a bare row this is a premise. The card (YtdfdjampodkpgaaDoorCards.lean) ties it to the program's text. -/
/-- One of Go's own tables, pinned by name: the form's constant. -/
def laid_unicode_CaseRanges : DataW Unit := Go.Pinned.caseRanges

/-- 'swinggatelaw.TokenTells': WHATEVER THE INPUT: true; the input reads as it did. -/
def tokenTellsSpec : ChangeSpec := { name := "tokenTells", fn := fun _ => fun
  | [d1, d2, d3] => { results := [.lit (.bool true)], args := [d1, d2, d3] }
  | _ => none }
def tokenTellsRow : OpenClaim := { program := "ytdfdjampodkpgaadoor", sum := "f4fd52caf96bc72d058ed6f3a66f3b6a959e6a642d46cacea193faa7b40ea055", func := "swinggate/swinggatelaw.TokenTells", spec := "tokenTells", inPlace := ["internal/bytealg.IndexByteString", "internal/bytealg.IndexString"], unfollowed := true, recurses := true, named := ["unicode.CaseRanges", "internal/bytealg.MaxLen"], apart := false, laid := [("unicode.CaseRanges", laid_unicode_CaseRanges)] }
def TokenTellsSaid : Prop := tokenTellsRow.holds Tryd.pinned (OpenSpec.ofChange tokenTellsSpec)

/-- ITS FALSE NEIGHBOUR: 'it returns false'. Refute it at one input. -/
def tokenTellsWrong : ChangeSpec := { name := "tokenTells", fn := fun _ => fun
  | [d1, d2, d3] => { results := [.lit (.bool false)], args := [d1, d2, d3] }
  | _ => none }
def TokenTellsWrongFalsely : Prop := tokenTellsRow.holds Tryd.pinned (OpenSpec.ofChange tokenTellsWrong)

/-- 'swinggatelaw.AdmitTells': WHATEVER THE INPUT: true; the input reads as it did. -/
def admitTellsSpec : ChangeSpec := { name := "admitTells", fn := fun _ => fun
  | [d1, d2, d3, d4, d5] => { results := [.lit (.bool true)], args := [d1, d2, d3, d4, d5] }
  | _ => none }
def admitTellsRow : OpenClaim := { program := "ytdfdjampodkpgaadoor", sum := "f4fd52caf96bc72d058ed6f3a66f3b6a959e6a642d46cacea193faa7b40ea055", func := "swinggate/swinggatelaw.AdmitTells", spec := "admitTells", inPlace := ["internal/bytealg.IndexByteString", "internal/bytealg.IndexString"], unfollowed := true, recurses := true, named := ["unicode.CaseRanges", "internal/bytealg.MaxLen"], apart := false, laid := [("unicode.CaseRanges", laid_unicode_CaseRanges)] }
def AdmitTellsSaid : Prop := admitTellsRow.holds Tryd.pinned (OpenSpec.ofChange admitTellsSpec)

/-- ITS FALSE NEIGHBOUR: 'it returns false'. Refute it at one input. -/
def admitTellsWrong : ChangeSpec := { name := "admitTells", fn := fun _ => fun
  | [d1, d2, d3, d4, d5] => { results := [.lit (.bool false)], args := [d1, d2, d3, d4, d5] }
  | _ => none }
def AdmitTellsWrongFalsely : Prop := admitTellsRow.holds Tryd.pinned (OpenSpec.ofChange admitTellsWrong)

/-- 'swinggatelaw.TokenBack': WHATEVER THE INPUT: true; the input reads as it did. -/
def tokenBackSpec : ChangeSpec := { name := "tokenBack", fn := fun _ => fun
  | [d1, d2] => { results := [.lit (.bool true)], args := [d1, d2] }
  | _ => none }
def tokenBackRow : OpenClaim := { program := "ytdfdjampodkpgaadoor", sum := "f4fd52caf96bc72d058ed6f3a66f3b6a959e6a642d46cacea193faa7b40ea055", func := "swinggate/swinggatelaw.TokenBack", spec := "tokenBack", inPlace := ["internal/bytealg.IndexByteString", "internal/bytealg.IndexString"], unfollowed := true, recurses := true, named := ["unicode.CaseRanges", "internal/bytealg.MaxLen"], apart := false, laid := [("unicode.CaseRanges", laid_unicode_CaseRanges)] }
def TokenBackSaid : Prop := tokenBackRow.holds Tryd.pinned (OpenSpec.ofChange tokenBackSpec)

/-- ITS FALSE NEIGHBOUR: 'it returns false'. Refute it at one input. -/
def tokenBackWrong : ChangeSpec := { name := "tokenBack", fn := fun _ => fun
  | [d1, d2] => { results := [.lit (.bool false)], args := [d1, d2] }
  | _ => none }
def TokenBackWrongFalsely : Prop := tokenBackRow.holds Tryd.pinned (OpenSpec.ofChange tokenBackWrong)

/-- 'swinggatelaw.AdmitOnly': WHATEVER THE INPUT: true; the input reads as it did. -/
def admitOnlySpec : ChangeSpec := { name := "admitOnly", fn := fun _ => fun
  | [d1, d2, d3, d4, d5] => { results := [.lit (.bool true)], args := [d1, d2, d3, d4, d5] }
  | _ => none }
def admitOnlyRow : OpenClaim := { program := "ytdfdjampodkpgaadoor", sum := "f4fd52caf96bc72d058ed6f3a66f3b6a959e6a642d46cacea193faa7b40ea055", func := "swinggate/swinggatelaw.AdmitOnly", spec := "admitOnly", inPlace := ["internal/bytealg.IndexByteString", "internal/bytealg.IndexString"], unfollowed := true, recurses := true, named := ["unicode.CaseRanges", "internal/bytealg.MaxLen"], apart := false, laid := [("unicode.CaseRanges", laid_unicode_CaseRanges)] }
def AdmitOnlySaid : Prop := admitOnlyRow.holds Tryd.pinned (OpenSpec.ofChange admitOnlySpec)

/-- ITS FALSE NEIGHBOUR: 'it returns false'. Refute it at one input. -/
def admitOnlyWrong : ChangeSpec := { name := "admitOnly", fn := fun _ => fun
  | [d1, d2, d3, d4, d5] => { results := [.lit (.bool false)], args := [d1, d2, d3, d4, d5] }
  | _ => none }
def AdmitOnlyWrongFalsely : Prop := admitOnlyRow.holds Tryd.pinned (OpenSpec.ofChange admitOnlyWrong)

/-- 'swinggatelaw.AdmitLatest': WHATEVER THE INPUT: true; the input reads as it did. -/
def admitLatestSpec : ChangeSpec := { name := "admitLatest", fn := fun _ => fun
  | [d1, d2, d3, d4, d5, d6] => { results := [.lit (.bool true)], args := [d1, d2, d3, d4, d5, d6] }
  | _ => none }
def admitLatestRow : OpenClaim := { program := "ytdfdjampodkpgaadoor", sum := "f4fd52caf96bc72d058ed6f3a66f3b6a959e6a642d46cacea193faa7b40ea055", func := "swinggate/swinggatelaw.AdmitLatest", spec := "admitLatest", inPlace := ["internal/bytealg.IndexByteString", "internal/bytealg.IndexString"], unfollowed := true, recurses := true, named := ["unicode.CaseRanges", "internal/bytealg.MaxLen"], apart := false, laid := [("unicode.CaseRanges", laid_unicode_CaseRanges)] }
def AdmitLatestSaid : Prop := admitLatestRow.holds Tryd.pinned (OpenSpec.ofChange admitLatestSpec)

/-- ITS FALSE NEIGHBOUR: 'it returns false'. Refute it at one input. -/
def admitLatestWrong : ChangeSpec := { name := "admitLatest", fn := fun _ => fun
  | [d1, d2, d3, d4, d5, d6] => { results := [.lit (.bool false)], args := [d1, d2, d3, d4, d5, d6] }
  | _ => none }
def AdmitLatestWrongFalsely : Prop := admitLatestRow.holds Tryd.pinned (OpenSpec.ofChange admitLatestWrong)

/-- 'swinggatelaw.AdmitOld': WHATEVER THE INPUT: true; the input reads as it did. -/
def admitOldSpec : ChangeSpec := { name := "admitOld", fn := fun _ => fun
  | [d1, d2, d3, d4] => { results := [.lit (.bool true)], args := [d1, d2, d3, d4] }
  | _ => none }
def admitOldRow : OpenClaim := { program := "ytdfdjampodkpgaadoor", sum := "f4fd52caf96bc72d058ed6f3a66f3b6a959e6a642d46cacea193faa7b40ea055", func := "swinggate/swinggatelaw.AdmitOld", spec := "admitOld", inPlace := ["internal/bytealg.IndexByteString", "internal/bytealg.IndexString"], unfollowed := true, recurses := true, named := ["unicode.CaseRanges", "internal/bytealg.MaxLen"], apart := false, laid := [("unicode.CaseRanges", laid_unicode_CaseRanges)] }
def AdmitOldSaid : Prop := admitOldRow.holds Tryd.pinned (OpenSpec.ofChange admitOldSpec)

/-- ITS FALSE NEIGHBOUR: 'it returns false'. Refute it at one input. -/
def admitOldWrong : ChangeSpec := { name := "admitOld", fn := fun _ => fun
  | [d1, d2, d3, d4] => { results := [.lit (.bool false)], args := [d1, d2, d3, d4] }
  | _ => none }
def AdmitOldWrongFalsely : Prop := admitOldRow.holds Tryd.pinned (OpenSpec.ofChange admitOldWrong)

/- THE SECOND FORM. 'bulk': how many values and letters a reading holds, each counted each time it is reached (what is shared counts as often as it is met; a slice's spare places count too). A statement '..UptoSaid' is the law's where the arguments, and the package variables that the reading takes, are together of bulk at most 1048576: NARROWER than '..Said'. Prove '..Said' where nothing that the law and all that it calls make is longer than what came in: it says more and counts as full. Else prove '..UptoSaid'. A law counts once. -/
mutual
def uptoBulk {H : Type} : DataW H → Nat
  | .lit (.string bytes) => bytes.length + 1
  | .lit _ => 1
  | .nil => 1
  | .ptr d => uptoBulk d + 1
  | .slice elems spare => uptoBulkAll elems + uptoBulkAll spare + 1
  | .agg parts => uptoBulkAll parts + 1
  | .iface _ d => uptoBulk d + 1
  | .map entries => uptoBulkEntries entries + 1
  | .held _ => 1
def uptoBulkAll {H : Type} : List (DataW H) → Nat
  | [] => 0
  | d :: r => uptoBulk d + uptoBulkAll r
def uptoBulkEntries {H : Type} : List (Lit × DataW H) → Nat
  | [] => 0
  | x :: r => uptoBulkEntry x + uptoBulkEntries r
def uptoBulkEntry {H : Type} : Lit × DataW H → Nat
  | (.string bytes, d) => bytes.length + uptoBulk d + 1
  | (_, d) => uptoBulk d + 1
 end
def uptoSmall : (H : Type) → List (DataW H) → Bool := fun _ ds => decide (uptoBulkAll ds ≤ 1048576)
def OpenSpec.upto (s : _root_.Go.ChangeSpec) : _root_.Go.OpenSpec := { _root_.Go.OpenSpec.ofChange s with cond := some uptoSmall }

/-- 'swinggatelaw.TokenTells', WHERE WHAT IT READS IS OF BULK AT MOST 1048576: true; the input reads as it did. -/
def tokenTellsUptoRow : OpenClaim := { program := "ytdfdjampodkpgaadoor", sum := "f4fd52caf96bc72d058ed6f3a66f3b6a959e6a642d46cacea193faa7b40ea055", func := "swinggate/swinggatelaw.TokenTells", spec := "tokenTells", inPlace := ["internal/bytealg.IndexByteString", "internal/bytealg.IndexString"], unfollowed := true, recurses := true, named := ["unicode.CaseRanges", "internal/bytealg.MaxLen"], apart := false, laid := [("unicode.CaseRanges", laid_unicode_CaseRanges)], narrowed := true }
def TokenTellsUptoSaid : Prop := tokenTellsUptoRow.holds Tryd.pinned (OpenSpec.upto tokenTellsSpec)

/-- 'swinggatelaw.AdmitTells', WHERE WHAT IT READS IS OF BULK AT MOST 1048576: true; the input reads as it did. -/
def admitTellsUptoRow : OpenClaim := { program := "ytdfdjampodkpgaadoor", sum := "f4fd52caf96bc72d058ed6f3a66f3b6a959e6a642d46cacea193faa7b40ea055", func := "swinggate/swinggatelaw.AdmitTells", spec := "admitTells", inPlace := ["internal/bytealg.IndexByteString", "internal/bytealg.IndexString"], unfollowed := true, recurses := true, named := ["unicode.CaseRanges", "internal/bytealg.MaxLen"], apart := false, laid := [("unicode.CaseRanges", laid_unicode_CaseRanges)], narrowed := true }
def AdmitTellsUptoSaid : Prop := admitTellsUptoRow.holds Tryd.pinned (OpenSpec.upto admitTellsSpec)

/-- 'swinggatelaw.TokenBack', WHERE WHAT IT READS IS OF BULK AT MOST 1048576: true; the input reads as it did. -/
def tokenBackUptoRow : OpenClaim := { program := "ytdfdjampodkpgaadoor", sum := "f4fd52caf96bc72d058ed6f3a66f3b6a959e6a642d46cacea193faa7b40ea055", func := "swinggate/swinggatelaw.TokenBack", spec := "tokenBack", inPlace := ["internal/bytealg.IndexByteString", "internal/bytealg.IndexString"], unfollowed := true, recurses := true, named := ["unicode.CaseRanges", "internal/bytealg.MaxLen"], apart := false, laid := [("unicode.CaseRanges", laid_unicode_CaseRanges)], narrowed := true }
def TokenBackUptoSaid : Prop := tokenBackUptoRow.holds Tryd.pinned (OpenSpec.upto tokenBackSpec)

/-- 'swinggatelaw.AdmitOnly', WHERE WHAT IT READS IS OF BULK AT MOST 1048576: true; the input reads as it did. -/
def admitOnlyUptoRow : OpenClaim := { program := "ytdfdjampodkpgaadoor", sum := "f4fd52caf96bc72d058ed6f3a66f3b6a959e6a642d46cacea193faa7b40ea055", func := "swinggate/swinggatelaw.AdmitOnly", spec := "admitOnly", inPlace := ["internal/bytealg.IndexByteString", "internal/bytealg.IndexString"], unfollowed := true, recurses := true, named := ["unicode.CaseRanges", "internal/bytealg.MaxLen"], apart := false, laid := [("unicode.CaseRanges", laid_unicode_CaseRanges)], narrowed := true }
def AdmitOnlyUptoSaid : Prop := admitOnlyUptoRow.holds Tryd.pinned (OpenSpec.upto admitOnlySpec)

/-- 'swinggatelaw.AdmitLatest', WHERE WHAT IT READS IS OF BULK AT MOST 1048576: true; the input reads as it did. -/
def admitLatestUptoRow : OpenClaim := { program := "ytdfdjampodkpgaadoor", sum := "f4fd52caf96bc72d058ed6f3a66f3b6a959e6a642d46cacea193faa7b40ea055", func := "swinggate/swinggatelaw.AdmitLatest", spec := "admitLatest", inPlace := ["internal/bytealg.IndexByteString", "internal/bytealg.IndexString"], unfollowed := true, recurses := true, named := ["unicode.CaseRanges", "internal/bytealg.MaxLen"], apart := false, laid := [("unicode.CaseRanges", laid_unicode_CaseRanges)], narrowed := true }
def AdmitLatestUptoSaid : Prop := admitLatestUptoRow.holds Tryd.pinned (OpenSpec.upto admitLatestSpec)

/-- 'swinggatelaw.AdmitOld', WHERE WHAT IT READS IS OF BULK AT MOST 1048576: true; the input reads as it did. -/
def admitOldUptoRow : OpenClaim := { program := "ytdfdjampodkpgaadoor", sum := "f4fd52caf96bc72d058ed6f3a66f3b6a959e6a642d46cacea193faa7b40ea055", func := "swinggate/swinggatelaw.AdmitOld", spec := "admitOld", inPlace := ["internal/bytealg.IndexByteString", "internal/bytealg.IndexString"], unfollowed := true, recurses := true, named := ["unicode.CaseRanges", "internal/bytealg.MaxLen"], apart := false, laid := [("unicode.CaseRanges", laid_unicode_CaseRanges)], narrowed := true }
def AdmitOldUptoSaid : Prop := admitOldUptoRow.holds Tryd.pinned (OpenSpec.upto admitOldSpec)

end Rows
end Go.Proofs.YtdfdjampodkpgaaDoor
