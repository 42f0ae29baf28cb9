/-
  No cell of these rows narrows 'for every input' (looked for: loops, veiled, ifaces, maps, wideKeys, modest, calm, conditions, laid).
  DERIVED. THE GIVEN ROWS OF THIS SEAT. 5 by the template 'for every input the law returns true; each argument reads behind the call as it read before'; 0 by the template 'total and deterministic' (their statements: YtcgncmlldjblmaaTotals.lean).
  GIVEN WITH THE SEED: the statements are not yours to turn. If you find one false, say at which input.
  Laid BY PROGRAM, IN A SANDBOX (cutbox-rows.mjs): the forced cells as the released guide's own fill.sh prints them over the translation 9afd47048b891070… (all of the seat's roots in one cut). By AI agents, Wed Nov 11 2026. No macro, syntax, notation, axiom, sorry.
-/
import Derived.Test.YtcgncmlldjblmaaChecked
import GoSem.Claim
import GoSem.ClaimJoined
import GoSem.ClaimMapViews
import Derived.JoinedTies
import Derived.KernelRfl
namespace Go.Proofs.Ytcgncmlldjblmaa
/- THE CELL 'sum', in the pinned program and in every row, IS THE sha256 OF THE DUMP (.gsa) THAT YtcgncmlldjblmaaProg.lean LOADS. Nothing in Lean hashes anything: it is a label: what it is worth is what the hold of that sum in a sandbox is worth. -/
noncomputable def Try.pinned : Pinned := { name := "ytcgncmlldjblmaa", sum := "9afd47048b891070cb6c997969830a3f7b5dd35d1b4c244a7c22eed2492098fe", checked := Try.checked }
namespace Rows
def none {H : Type} : Left H := { results := [], args := [] }

/-- 'swinggatelaw.PassTells': WHATEVER THE INPUT: true; the input reads as it did. -/
def passTellsSpec : ChangeSpec := { name := "passTells", fn := fun _ => fun
  | [d1, d2, d3, d4] => { results := [.lit (.bool true)], args := [d1, d2, d3, d4] }
  | _ => none }
def passTellsRow : OpenClaim := { program := "ytcgncmlldjblmaa", sum := "9afd47048b891070cb6c997969830a3f7b5dd35d1b4c244a7c22eed2492098fe", func := "swinggate/swinggatelaw.PassTells", spec := "passTells", unfollowed := true, recurses := true, apart := false }
def PassTellsSaid : Prop := passTellsRow.holds Try.pinned (OpenSpec.ofChange passTellsSpec)

/-- ITS FALSE NEIGHBOUR: 'it returns false'. Refute it at one input. -/
def passTellsWrong : ChangeSpec := { name := "passTells", fn := fun _ => fun
  | [d1, d2, d3, d4] => { results := [.lit (.bool false)], args := [d1, d2, d3, d4] }
  | _ => none }
def PassTellsWrongFalsely : Prop := passTellsRow.holds Try.pinned (OpenSpec.ofChange passTellsWrong)

/-- 'swinggatelaw.RenewTells': WHATEVER THE INPUT: true; the input reads as it did. -/
def renewTellsSpec : ChangeSpec := { name := "renewTells", fn := fun _ => fun
  | [d1, d2, d3] => { results := [.lit (.bool true)], args := [d1, d2, d3] }
  | _ => none }
def renewTellsRow : OpenClaim := { program := "ytcgncmlldjblmaa", sum := "9afd47048b891070cb6c997969830a3f7b5dd35d1b4c244a7c22eed2492098fe", func := "swinggate/swinggatelaw.RenewTells", spec := "renewTells", unfollowed := true, recurses := true, apart := false }
def RenewTellsSaid : Prop := renewTellsRow.holds Try.pinned (OpenSpec.ofChange renewTellsSpec)

/-- ITS FALSE NEIGHBOUR: 'it returns false'. Refute it at one input. -/
def renewTellsWrong : ChangeSpec := { name := "renewTells", fn := fun _ => fun
  | [d1, d2, d3] => { results := [.lit (.bool false)], args := [d1, d2, d3] }
  | _ => none }
def RenewTellsWrongFalsely : Prop := renewTellsRow.holds Try.pinned (OpenSpec.ofChange renewTellsWrong)

/-- 'swinggatelaw.RenewJoins': WHATEVER THE INPUT: true; the input reads as it did. -/
def renewJoinsSpec : ChangeSpec := { name := "renewJoins", fn := fun _ => fun
  | [d1, d2, d3, d4, d5] => { results := [.lit (.bool true)], args := [d1, d2, d3, d4, d5] }
  | _ => none }
def renewJoinsRow : OpenClaim := { program := "ytcgncmlldjblmaa", sum := "9afd47048b891070cb6c997969830a3f7b5dd35d1b4c244a7c22eed2492098fe", func := "swinggate/swinggatelaw.RenewJoins", spec := "renewJoins", unfollowed := true, recurses := true, apart := false }
def RenewJoinsSaid : Prop := renewJoinsRow.holds Try.pinned (OpenSpec.ofChange renewJoinsSpec)

/-- ITS FALSE NEIGHBOUR: 'it returns false'. Refute it at one input. -/
def renewJoinsWrong : ChangeSpec := { name := "renewJoins", fn := fun _ => fun
  | [d1, d2, d3, d4, d5] => { results := [.lit (.bool false)], args := [d1, d2, d3, d4, d5] }
  | _ => none }
def RenewJoinsWrongFalsely : Prop := renewJoinsRow.holds Try.pinned (OpenSpec.ofChange renewJoinsWrong)

/-- 'swinggatelaw.CutHas': WHATEVER THE INPUT: true; the input reads as it did. -/
def cutHasSpec : ChangeSpec := { name := "cutHas", fn := fun _ => fun
  | [d1, d2, d3, d4] => { results := [.lit (.bool true)], args := [d1, d2, d3, d4] }
  | _ => none }
def cutHasRow : OpenClaim := { program := "ytcgncmlldjblmaa", sum := "9afd47048b891070cb6c997969830a3f7b5dd35d1b4c244a7c22eed2492098fe", func := "swinggate/swinggatelaw.CutHas", spec := "cutHas", unfollowed := true, recurses := true, apart := false }
def CutHasSaid : Prop := cutHasRow.holds Try.pinned (OpenSpec.ofChange cutHasSpec)

/-- ITS FALSE NEIGHBOUR: 'it returns false'. Refute it at one input. -/
def cutHasWrong : ChangeSpec := { name := "cutHas", fn := fun _ => fun
  | [d1, d2, d3, d4] => { results := [.lit (.bool false)], args := [d1, d2, d3, d4] }
  | _ => none }
def CutHasWrongFalsely : Prop := cutHasRow.holds Try.pinned (OpenSpec.ofChange cutHasWrong)

/-- 'swinggatelaw.CutBack': WHATEVER THE INPUT: true; the input reads as it did. -/
def cutBackSpec : ChangeSpec := { name := "cutBack", fn := fun _ => fun
  | [d1, d2, d3] => { results := [.lit (.bool true)], args := [d1, d2, d3] }
  | _ => none }
def cutBackRow : OpenClaim := { program := "ytcgncmlldjblmaa", sum := "9afd47048b891070cb6c997969830a3f7b5dd35d1b4c244a7c22eed2492098fe", func := "swinggate/swinggatelaw.CutBack", spec := "cutBack", unfollowed := true, recurses := true, apart := false }
def CutBackSaid : Prop := cutBackRow.holds Try.pinned (OpenSpec.ofChange cutBackSpec)

/-- ITS FALSE NEIGHBOUR: 'it returns false'. Refute it at one input. -/
def cutBackWrong : ChangeSpec := { name := "cutBack", fn := fun _ => fun
  | [d1, d2, d3] => { results := [.lit (.bool false)], args := [d1, d2, d3] }
  | _ => none }
def CutBackWrongFalsely : Prop := cutBackRow.holds Try.pinned (OpenSpec.ofChange cutBackWrong)

/- THE SECOND FORM. 'bulk': how many values and letters a reading holds, each counted each time it is reached (what is shared counts as often as it is met; a slice's spare places count too). A statement '..UptoSaid' is the law's where the arguments, and the package variables that the reading takes, are together of bulk at most 1048576: NARROWER than '..Said'. Prove '..Said' where nothing that the law and all that it calls make is longer than what came in: it says more and counts as full. Else prove '..UptoSaid'. A law counts once. -/
mutual
def uptoBulk {H : Type} : DataW H → Nat
  | .lit (.string bytes) => bytes.length + 1
  | .lit _ => 1
  | .nil => 1
  | .ptr d => uptoBulk d + 1
  | .slice elems spare => uptoBulkAll elems + uptoBulkAll spare + 1
  | .agg parts => uptoBulkAll parts + 1
  | .iface _ d => uptoBulk d + 1
  | .map entries => uptoBulkEntries entries + 1
  | .held _ => 1
def uptoBulkAll {H : Type} : List (DataW H) → Nat
  | [] => 0
  | d :: r => uptoBulk d + uptoBulkAll r
def uptoBulkEntries {H : Type} : List (Lit × DataW H) → Nat
  | [] => 0
  | x :: r => uptoBulkEntry x + uptoBulkEntries r
def uptoBulkEntry {H : Type} : Lit × DataW H → Nat
  | (.string bytes, d) => bytes.length + uptoBulk d + 1
  | (_, d) => uptoBulk d + 1
 end
def uptoSmall : (H : Type) → List (DataW H) → Bool := fun _ ds => decide (uptoBulkAll ds ≤ 1048576)
def OpenSpec.upto (s : _root_.Go.ChangeSpec) : _root_.Go.OpenSpec := { _root_.Go.OpenSpec.ofChange s with cond := some uptoSmall }

/-- 'swinggatelaw.PassTells', WHERE WHAT IT READS IS OF BULK AT MOST 1048576: true; the input reads as it did. -/
def passTellsUptoRow : OpenClaim := { program := "ytcgncmlldjblmaa", sum := "9afd47048b891070cb6c997969830a3f7b5dd35d1b4c244a7c22eed2492098fe", func := "swinggate/swinggatelaw.PassTells", spec := "passTells", unfollowed := true, recurses := true, apart := false, narrowed := true }
def PassTellsUptoSaid : Prop := passTellsUptoRow.holds Try.pinned (OpenSpec.upto passTellsSpec)

/-- 'swinggatelaw.RenewTells', WHERE WHAT IT READS IS OF BULK AT MOST 1048576: true; the input reads as it did. -/
def renewTellsUptoRow : OpenClaim := { program := "ytcgncmlldjblmaa", sum := "9afd47048b891070cb6c997969830a3f7b5dd35d1b4c244a7c22eed2492098fe", func := "swinggate/swinggatelaw.RenewTells", spec := "renewTells", unfollowed := true, recurses := true, apart := false, narrowed := true }
def RenewTellsUptoSaid : Prop := renewTellsUptoRow.holds Try.pinned (OpenSpec.upto renewTellsSpec)

/-- 'swinggatelaw.RenewJoins', WHERE WHAT IT READS IS OF BULK AT MOST 1048576: true; the input reads as it did. -/
def renewJoinsUptoRow : OpenClaim := { program := "ytcgncmlldjblmaa", sum := "9afd47048b891070cb6c997969830a3f7b5dd35d1b4c244a7c22eed2492098fe", func := "swinggate/swinggatelaw.RenewJoins", spec := "renewJoins", unfollowed := true, recurses := true, apart := false, narrowed := true }
def RenewJoinsUptoSaid : Prop := renewJoinsUptoRow.holds Try.pinned (OpenSpec.upto renewJoinsSpec)

/-- 'swinggatelaw.CutHas', WHERE WHAT IT READS IS OF BULK AT MOST 1048576: true; the input reads as it did. -/
def cutHasUptoRow : OpenClaim := { program := "ytcgncmlldjblmaa", sum := "9afd47048b891070cb6c997969830a3f7b5dd35d1b4c244a7c22eed2492098fe", func := "swinggate/swinggatelaw.CutHas", spec := "cutHas", unfollowed := true, recurses := true, apart := false, narrowed := true }
def CutHasUptoSaid : Prop := cutHasUptoRow.holds Try.pinned (OpenSpec.upto cutHasSpec)

/-- 'swinggatelaw.CutBack', WHERE WHAT IT READS IS OF BULK AT MOST 1048576: true; the input reads as it did. -/
def cutBackUptoRow : OpenClaim := { program := "ytcgncmlldjblmaa", sum := "9afd47048b891070cb6c997969830a3f7b5dd35d1b4c244a7c22eed2492098fe", func := "swinggate/swinggatelaw.CutBack", spec := "cutBack", unfollowed := true, recurses := true, apart := false, narrowed := true }
def CutBackUptoSaid : Prop := cutBackUptoRow.holds Try.pinned (OpenSpec.upto cutBackSpec)

end Rows
end Go.Proofs.Ytcgncmlldjblmaa
