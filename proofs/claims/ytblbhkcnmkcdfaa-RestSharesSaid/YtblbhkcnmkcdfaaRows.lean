/-
  No cell of these rows narrows 'for every input' (looked for: loops, veiled, ifaces, maps, wideKeys, modest, calm, conditions, laid).
  DERIVED. THE GIVEN ROWS OF THIS SEAT. 7 by the template 'for every input the law returns true; each argument reads behind the call as it read before'; 0 by the template 'total and deterministic' (their statements: YtblbhkcnmkcdfaaTotals.lean).
  GIVEN WITH THE SEED: the statements are not yours to turn. If you find one false, say at which input.
  Laid BY PROGRAM, IN A SANDBOX (cutbox-rows.mjs): the forced cells as the released guide's own fill.sh prints them over the translation 109008af7e3b8a30… (all of the seat's roots in one cut). By AI agents, Wed Nov 11 2026. No macro, syntax, notation, axiom, sorry.
-/
import Derived.Test.YtblbhkcnmkcdfaaChecked
import GoSem.Claim
import GoSem.ClaimJoined
import GoSem.ClaimMapViews
import Derived.JoinedTies
import Derived.KernelRfl
namespace Go.Proofs.Ytblbhkcnmkcdfaa
/- THE CELL 'sum', in the pinned program and in every row, IS THE sha256 OF THE DUMP (.gsa) THAT YtblbhkcnmkcdfaaProg.lean LOADS. Nothing in Lean hashes anything: it is a label: what it is worth is what the hold of that sum in a sandbox is worth. -/
noncomputable def Try.pinned : Pinned := { name := "ytblbhkcnmkcdfaa", sum := "109008af7e3b8a30a7fc2162234cc148bfaddfebfefe9eb46159ee24e880d5d9", checked := Try.checked }
namespace Rows
def none {H : Type} : Left H := { results := [], args := [] }

/-- 'swinggatelaw.ShareTells': WHATEVER THE INPUT: true; the input reads as it did. -/
def shareTellsSpec : ChangeSpec := { name := "shareTells", fn := fun _ => fun
  | [d1, d2, d3, d4] => { results := [.lit (.bool true)], args := [d1, d2, d3, d4] }
  | _ => none }
def shareTellsRow : OpenClaim := { program := "ytblbhkcnmkcdfaa", sum := "109008af7e3b8a30a7fc2162234cc148bfaddfebfefe9eb46159ee24e880d5d9", func := "swinggate/swinggatelaw.ShareTells", spec := "shareTells", unfollowed := true, recurses := true, apart := false }
def ShareTellsSaid : Prop := shareTellsRow.holds Try.pinned (OpenSpec.ofChange shareTellsSpec)

/-- ITS FALSE NEIGHBOUR: 'it returns false'. Refute it at one input. -/
def shareTellsWrong : ChangeSpec := { name := "shareTells", fn := fun _ => fun
  | [d1, d2, d3, d4] => { results := [.lit (.bool false)], args := [d1, d2, d3, d4] }
  | _ => none }
def ShareTellsWrongFalsely : Prop := shareTellsRow.holds Try.pinned (OpenSpec.ofChange shareTellsWrong)

/-- 'swinggatelaw.EvenWhole': WHATEVER THE INPUT: true; the input reads as it did. -/
def evenWholeSpec : ChangeSpec := { name := "evenWhole", fn := fun _ => fun
  | [d1, d2] => { results := [.lit (.bool true)], args := [d1, d2] }
  | _ => none }
def evenWholeRow : OpenClaim := { program := "ytblbhkcnmkcdfaa", sum := "109008af7e3b8a30a7fc2162234cc148bfaddfebfefe9eb46159ee24e880d5d9", func := "swinggate/swinggatelaw.EvenWhole", spec := "evenWhole", unfollowed := true, recurses := true, apart := false }
def EvenWholeSaid : Prop := evenWholeRow.holds Try.pinned (OpenSpec.ofChange evenWholeSpec)

/-- ITS FALSE NEIGHBOUR: 'it returns false'. Refute it at one input. -/
def evenWholeWrong : ChangeSpec := { name := "evenWhole", fn := fun _ => fun
  | [d1, d2] => { results := [.lit (.bool false)], args := [d1, d2] }
  | _ => none }
def EvenWholeWrongFalsely : Prop := evenWholeRow.holds Try.pinned (OpenSpec.ofChange evenWholeWrong)

/-- 'swinggatelaw.HamiltonQuota': WHATEVER THE INPUT: true; the input reads as it did. -/
def hamiltonQuotaSpec : ChangeSpec := { name := "hamiltonQuota", fn := fun _ => fun
  | [d1, d2] => { results := [.lit (.bool true)], args := [d1, d2] }
  | _ => none }
def hamiltonQuotaRow : OpenClaim := { program := "ytblbhkcnmkcdfaa", sum := "109008af7e3b8a30a7fc2162234cc148bfaddfebfefe9eb46159ee24e880d5d9", func := "swinggate/swinggatelaw.HamiltonQuota", spec := "hamiltonQuota", unfollowed := true, recurses := true, apart := false }
def HamiltonQuotaSaid : Prop := hamiltonQuotaRow.holds Try.pinned (OpenSpec.ofChange hamiltonQuotaSpec)

/-- ITS FALSE NEIGHBOUR: 'it returns false'. Refute it at one input. -/
def hamiltonQuotaWrong : ChangeSpec := { name := "hamiltonQuota", fn := fun _ => fun
  | [d1, d2] => { results := [.lit (.bool false)], args := [d1, d2] }
  | _ => none }
def HamiltonQuotaWrongFalsely : Prop := hamiltonQuotaRow.holds Try.pinned (OpenSpec.ofChange hamiltonQuotaWrong)

/-- 'swinggatelaw.HamiltonOrder': WHATEVER THE INPUT: true; the input reads as it did. -/
def hamiltonOrderSpec : ChangeSpec := { name := "hamiltonOrder", fn := fun _ => fun
  | [d1, d2, d3, d4] => { results := [.lit (.bool true)], args := [d1, d2, d3, d4] }
  | _ => none }
def hamiltonOrderRow : OpenClaim := { program := "ytblbhkcnmkcdfaa", sum := "109008af7e3b8a30a7fc2162234cc148bfaddfebfefe9eb46159ee24e880d5d9", func := "swinggate/swinggatelaw.HamiltonOrder", spec := "hamiltonOrder", unfollowed := true, recurses := true, apart := false }
def HamiltonOrderSaid : Prop := hamiltonOrderRow.holds Try.pinned (OpenSpec.ofChange hamiltonOrderSpec)

/-- ITS FALSE NEIGHBOUR: 'it returns false'. Refute it at one input. -/
def hamiltonOrderWrong : ChangeSpec := { name := "hamiltonOrder", fn := fun _ => fun
  | [d1, d2, d3, d4] => { results := [.lit (.bool false)], args := [d1, d2, d3, d4] }
  | _ => none }
def HamiltonOrderWrongFalsely : Prop := hamiltonOrderRow.holds Try.pinned (OpenSpec.ofChange hamiltonOrderWrong)

/-- 'swinggatelaw.JeffersonHouse': WHATEVER THE INPUT: true; the input reads as it did. -/
def jeffersonHouseSpec : ChangeSpec := { name := "jeffersonHouse", fn := fun _ => fun
  | [d1, d2] => { results := [.lit (.bool true)], args := [d1, d2] }
  | _ => none }
def jeffersonHouseRow : OpenClaim := { program := "ytblbhkcnmkcdfaa", sum := "109008af7e3b8a30a7fc2162234cc148bfaddfebfefe9eb46159ee24e880d5d9", func := "swinggate/swinggatelaw.JeffersonHouse", spec := "jeffersonHouse", unfollowed := true, recurses := true, apart := false }
def JeffersonHouseSaid : Prop := jeffersonHouseRow.holds Try.pinned (OpenSpec.ofChange jeffersonHouseSpec)

/-- ITS FALSE NEIGHBOUR: 'it returns false'. Refute it at one input. -/
def jeffersonHouseWrong : ChangeSpec := { name := "jeffersonHouse", fn := fun _ => fun
  | [d1, d2] => { results := [.lit (.bool false)], args := [d1, d2] }
  | _ => none }
def JeffersonHouseWrongFalsely : Prop := jeffersonHouseRow.holds Try.pinned (OpenSpec.ofChange jeffersonHouseWrong)

/-- 'swinggatelaw.JeffersonBest': WHATEVER THE INPUT: true; the input reads as it did. -/
def jeffersonBestSpec : ChangeSpec := { name := "jeffersonBest", fn := fun _ => fun
  | [d1, d2, d3, d4] => { results := [.lit (.bool true)], args := [d1, d2, d3, d4] }
  | _ => none }
def jeffersonBestRow : OpenClaim := { program := "ytblbhkcnmkcdfaa", sum := "109008af7e3b8a30a7fc2162234cc148bfaddfebfefe9eb46159ee24e880d5d9", func := "swinggate/swinggatelaw.JeffersonBest", spec := "jeffersonBest", unfollowed := true, recurses := true, apart := false }
def JeffersonBestSaid : Prop := jeffersonBestRow.holds Try.pinned (OpenSpec.ofChange jeffersonBestSpec)

/-- ITS FALSE NEIGHBOUR: 'it returns false'. Refute it at one input. -/
def jeffersonBestWrong : ChangeSpec := { name := "jeffersonBest", fn := fun _ => fun
  | [d1, d2, d3, d4] => { results := [.lit (.bool false)], args := [d1, d2, d3, d4] }
  | _ => none }
def JeffersonBestWrongFalsely : Prop := jeffersonBestRow.holds Try.pinned (OpenSpec.ofChange jeffersonBestWrong)

/-- 'swinggatelaw.RestShares': WHATEVER THE INPUT: true; the input reads as it did. -/
def restSharesSpec : ChangeSpec := { name := "restShares", fn := fun _ => fun
  | [d1, d2] => { results := [.lit (.bool true)], args := [d1, d2] }
  | _ => none }
def restSharesRow : OpenClaim := { program := "ytblbhkcnmkcdfaa", sum := "109008af7e3b8a30a7fc2162234cc148bfaddfebfefe9eb46159ee24e880d5d9", func := "swinggate/swinggatelaw.RestShares", spec := "restShares", unfollowed := true, recurses := true, apart := false }
def RestSharesSaid : Prop := restSharesRow.holds Try.pinned (OpenSpec.ofChange restSharesSpec)

/-- ITS FALSE NEIGHBOUR: 'it returns false'. Refute it at one input. -/
def restSharesWrong : ChangeSpec := { name := "restShares", fn := fun _ => fun
  | [d1, d2] => { results := [.lit (.bool false)], args := [d1, d2] }
  | _ => none }
def RestSharesWrongFalsely : Prop := restSharesRow.holds Try.pinned (OpenSpec.ofChange restSharesWrong)

/- THE SECOND FORM. 'bulk': how many values and letters a reading holds, each counted each time it is reached (what is shared counts as often as it is met; a slice's spare places count too). A statement '..UptoSaid' is the law's where the arguments, and the package variables that the reading takes, are together of bulk at most 1048576: NARROWER than '..Said'. Prove '..Said' where nothing that the law and all that it calls make is longer than what came in: it says more and counts as full. Else prove '..UptoSaid'. A law counts once. -/
mutual
def uptoBulk {H : Type} : DataW H → Nat
  | .lit (.string bytes) => bytes.length + 1
  | .lit _ => 1
  | .nil => 1
  | .ptr d => uptoBulk d + 1
  | .slice elems spare => uptoBulkAll elems + uptoBulkAll spare + 1
  | .agg parts => uptoBulkAll parts + 1
  | .iface _ d => uptoBulk d + 1
  | .map entries => uptoBulkEntries entries + 1
  | .held _ => 1
def uptoBulkAll {H : Type} : List (DataW H) → Nat
  | [] => 0
  | d :: r => uptoBulk d + uptoBulkAll r
def uptoBulkEntries {H : Type} : List (Lit × DataW H) → Nat
  | [] => 0
  | x :: r => uptoBulkEntry x + uptoBulkEntries r
def uptoBulkEntry {H : Type} : Lit × DataW H → Nat
  | (.string bytes, d) => bytes.length + uptoBulk d + 1
  | (_, d) => uptoBulk d + 1
 end
def uptoSmall : (H : Type) → List (DataW H) → Bool := fun _ ds => decide (uptoBulkAll ds ≤ 1048576)
def OpenSpec.upto (s : _root_.Go.ChangeSpec) : _root_.Go.OpenSpec := { _root_.Go.OpenSpec.ofChange s with cond := some uptoSmall }

/-- 'swinggatelaw.ShareTells', WHERE WHAT IT READS IS OF BULK AT MOST 1048576: true; the input reads as it did. -/
def shareTellsUptoRow : OpenClaim := { program := "ytblbhkcnmkcdfaa", sum := "109008af7e3b8a30a7fc2162234cc148bfaddfebfefe9eb46159ee24e880d5d9", func := "swinggate/swinggatelaw.ShareTells", spec := "shareTells", unfollowed := true, recurses := true, apart := false, narrowed := true }
def ShareTellsUptoSaid : Prop := shareTellsUptoRow.holds Try.pinned (OpenSpec.upto shareTellsSpec)

/-- 'swinggatelaw.EvenWhole', WHERE WHAT IT READS IS OF BULK AT MOST 1048576: true; the input reads as it did. -/
def evenWholeUptoRow : OpenClaim := { program := "ytblbhkcnmkcdfaa", sum := "109008af7e3b8a30a7fc2162234cc148bfaddfebfefe9eb46159ee24e880d5d9", func := "swinggate/swinggatelaw.EvenWhole", spec := "evenWhole", unfollowed := true, recurses := true, apart := false, narrowed := true }
def EvenWholeUptoSaid : Prop := evenWholeUptoRow.holds Try.pinned (OpenSpec.upto evenWholeSpec)

/-- 'swinggatelaw.HamiltonQuota', WHERE WHAT IT READS IS OF BULK AT MOST 1048576: true; the input reads as it did. -/
def hamiltonQuotaUptoRow : OpenClaim := { program := "ytblbhkcnmkcdfaa", sum := "109008af7e3b8a30a7fc2162234cc148bfaddfebfefe9eb46159ee24e880d5d9", func := "swinggate/swinggatelaw.HamiltonQuota", spec := "hamiltonQuota", unfollowed := true, recurses := true, apart := false, narrowed := true }
def HamiltonQuotaUptoSaid : Prop := hamiltonQuotaUptoRow.holds Try.pinned (OpenSpec.upto hamiltonQuotaSpec)

/-- 'swinggatelaw.HamiltonOrder', WHERE WHAT IT READS IS OF BULK AT MOST 1048576: true; the input reads as it did. -/
def hamiltonOrderUptoRow : OpenClaim := { program := "ytblbhkcnmkcdfaa", sum := "109008af7e3b8a30a7fc2162234cc148bfaddfebfefe9eb46159ee24e880d5d9", func := "swinggate/swinggatelaw.HamiltonOrder", spec := "hamiltonOrder", unfollowed := true, recurses := true, apart := false, narrowed := true }
def HamiltonOrderUptoSaid : Prop := hamiltonOrderUptoRow.holds Try.pinned (OpenSpec.upto hamiltonOrderSpec)

/-- 'swinggatelaw.JeffersonHouse', WHERE WHAT IT READS IS OF BULK AT MOST 1048576: true; the input reads as it did. -/
def jeffersonHouseUptoRow : OpenClaim := { program := "ytblbhkcnmkcdfaa", sum := "109008af7e3b8a30a7fc2162234cc148bfaddfebfefe9eb46159ee24e880d5d9", func := "swinggate/swinggatelaw.JeffersonHouse", spec := "jeffersonHouse", unfollowed := true, recurses := true, apart := false, narrowed := true }
def JeffersonHouseUptoSaid : Prop := jeffersonHouseUptoRow.holds Try.pinned (OpenSpec.upto jeffersonHouseSpec)

/-- 'swinggatelaw.JeffersonBest', WHERE WHAT IT READS IS OF BULK AT MOST 1048576: true; the input reads as it did. -/
def jeffersonBestUptoRow : OpenClaim := { program := "ytblbhkcnmkcdfaa", sum := "109008af7e3b8a30a7fc2162234cc148bfaddfebfefe9eb46159ee24e880d5d9", func := "swinggate/swinggatelaw.JeffersonBest", spec := "jeffersonBest", unfollowed := true, recurses := true, apart := false, narrowed := true }
def JeffersonBestUptoSaid : Prop := jeffersonBestUptoRow.holds Try.pinned (OpenSpec.upto jeffersonBestSpec)

/-- 'swinggatelaw.RestShares', WHERE WHAT IT READS IS OF BULK AT MOST 1048576: true; the input reads as it did. -/
def restSharesUptoRow : OpenClaim := { program := "ytblbhkcnmkcdfaa", sum := "109008af7e3b8a30a7fc2162234cc148bfaddfebfefe9eb46159ee24e880d5d9", func := "swinggate/swinggatelaw.RestShares", spec := "restShares", unfollowed := true, recurses := true, apart := false, narrowed := true }
def RestSharesUptoSaid : Prop := restSharesUptoRow.holds Try.pinned (OpenSpec.upto restSharesSpec)

end Rows
end Go.Proofs.Ytblbhkcnmkcdfaa
