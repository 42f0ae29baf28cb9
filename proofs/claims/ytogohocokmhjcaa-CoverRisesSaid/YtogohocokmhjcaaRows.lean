/-
  No cell of these rows narrows 'for every input' (looked for: loops, veiled, ifaces, maps, wideKeys, modest, calm, conditions, laid).
  DERIVED. THE GIVEN ROWS OF THIS SEAT. 10 by the template 'for every input the law returns true; each argument reads behind the call as it read before'; 0 by the template 'total and deterministic' (their statements: YtogohocokmhjcaaTotals.lean).
  GIVEN WITH THE SEED: the statements are not yours to turn. If you find one false, say at which input.
  Laid BY PROGRAM, IN A SANDBOX (cutbox-rows.mjs): the forced cells as the released guide's own fill.sh prints them over the translation 8b96f87c562a16bb… (all of the seat's roots in one cut). By AI agents, Wed Nov 11 2026. No macro, syntax, notation, axiom, sorry.
-/
import Derived.Test.YtogohocokmhjcaaChecked
import GoSem.Claim
import GoSem.ClaimJoined
import GoSem.ClaimMapViews
import Derived.JoinedTies
import Derived.KernelRfl
namespace Go.Proofs.Ytogohocokmhjcaa
/- THE CELL 'sum', in the pinned program and in every row, IS THE sha256 OF THE DUMP (.gsa) THAT YtogohocokmhjcaaProg.lean LOADS. Nothing in Lean hashes anything: it is a label: what it is worth is what the hold of that sum in a sandbox is worth. -/
noncomputable def Try.pinned : Pinned := { name := "ytogohocokmhjcaa", sum := "8b96f87c562a16bba941ace0163b011500c7ce1835795bfde7b1f7bfeddfccb7", checked := Try.checked }
namespace Rows
def none {H : Type} : Left H := { results := [], args := [] }

/-- 'swinggatelaw.RefundTells': WHATEVER THE INPUT: true; the input reads as it did. -/
def refundTellsSpec : ChangeSpec := { name := "refundTells", fn := fun _ => fun
  | [d1, d2, d3, d4] => { results := [.lit (.bool true)], args := [d1, d2, d3, d4] }
  | _ => none }
def refundTellsRow : OpenClaim := { program := "ytogohocokmhjcaa", sum := "8b96f87c562a16bba941ace0163b011500c7ce1835795bfde7b1f7bfeddfccb7", func := "swinggate/swinggatelaw.RefundTells", spec := "refundTells", apart := false }
def RefundTellsSaid : Prop := refundTellsRow.holds Try.pinned (OpenSpec.ofChange refundTellsSpec)

/-- ITS FALSE NEIGHBOUR: 'it returns false'. Refute it at one input. -/
def refundTellsWrong : ChangeSpec := { name := "refundTells", fn := fun _ => fun
  | [d1, d2, d3, d4] => { results := [.lit (.bool false)], args := [d1, d2, d3, d4] }
  | _ => none }
def RefundTellsWrongFalsely : Prop := refundTellsRow.holds Try.pinned (OpenSpec.ofChange refundTellsWrong)

/-- 'swinggatelaw.RefundFalls': WHATEVER THE INPUT: true; the input reads as it did. -/
def refundFallsSpec : ChangeSpec := { name := "refundFalls", fn := fun _ => fun
  | [d1, d2, d3, d4, d5, d6] => { results := [.lit (.bool true)], args := [d1, d2, d3, d4, d5, d6] }
  | _ => none }
def refundFallsRow : OpenClaim := { program := "ytogohocokmhjcaa", sum := "8b96f87c562a16bba941ace0163b011500c7ce1835795bfde7b1f7bfeddfccb7", func := "swinggate/swinggatelaw.RefundFalls", spec := "refundFalls", apart := false }
def RefundFallsSaid : Prop := refundFallsRow.holds Try.pinned (OpenSpec.ofChange refundFallsSpec)

/-- ITS FALSE NEIGHBOUR: 'it returns false'. Refute it at one input. -/
def refundFallsWrong : ChangeSpec := { name := "refundFalls", fn := fun _ => fun
  | [d1, d2, d3, d4, d5, d6] => { results := [.lit (.bool false)], args := [d1, d2, d3, d4, d5, d6] }
  | _ => none }
def RefundFallsWrongFalsely : Prop := refundFallsRow.holds Try.pinned (OpenSpec.ofChange refundFallsWrong)

/-- 'swinggatelaw.PenceTells': WHATEVER THE INPUT: true; the input reads as it did. -/
def penceTellsSpec : ChangeSpec := { name := "penceTells", fn := fun _ => fun
  | [d1, d2, d3, d4, d5, d6] => { results := [.lit (.bool true)], args := [d1, d2, d3, d4, d5, d6] }
  | _ => none }
def penceTellsRow : OpenClaim := { program := "ytogohocokmhjcaa", sum := "8b96f87c562a16bba941ace0163b011500c7ce1835795bfde7b1f7bfeddfccb7", func := "swinggate/swinggatelaw.PenceTells", spec := "penceTells", unfollowed := true, recurses := true, apart := false }
def PenceTellsSaid : Prop := penceTellsRow.holds Try.pinned (OpenSpec.ofChange penceTellsSpec)

/-- ITS FALSE NEIGHBOUR: 'it returns false'. Refute it at one input. -/
def penceTellsWrong : ChangeSpec := { name := "penceTells", fn := fun _ => fun
  | [d1, d2, d3, d4, d5, d6] => { results := [.lit (.bool false)], args := [d1, d2, d3, d4, d5, d6] }
  | _ => none }
def PenceTellsWrongFalsely : Prop := penceTellsRow.holds Try.pinned (OpenSpec.ofChange penceTellsWrong)

/-- 'swinggatelaw.PenceNear': WHATEVER THE INPUT: true; the input reads as it did. -/
def penceNearSpec : ChangeSpec := { name := "penceNear", fn := fun _ => fun
  | [d1, d2, d3, d4] => { results := [.lit (.bool true)], args := [d1, d2, d3, d4] }
  | _ => none }
def penceNearRow : OpenClaim := { program := "ytogohocokmhjcaa", sum := "8b96f87c562a16bba941ace0163b011500c7ce1835795bfde7b1f7bfeddfccb7", func := "swinggate/swinggatelaw.PenceNear", spec := "penceNear", unfollowed := true, recurses := true, apart := false }
def PenceNearSaid : Prop := penceNearRow.holds Try.pinned (OpenSpec.ofChange penceNearSpec)

/-- ITS FALSE NEIGHBOUR: 'it returns false'. Refute it at one input. -/
def penceNearWrong : ChangeSpec := { name := "penceNear", fn := fun _ => fun
  | [d1, d2, d3, d4] => { results := [.lit (.bool false)], args := [d1, d2, d3, d4] }
  | _ => none }
def PenceNearWrongFalsely : Prop := penceNearRow.holds Try.pinned (OpenSpec.ofChange penceNearWrong)

/-- 'swinggatelaw.PenceRises': WHATEVER THE INPUT: true; the input reads as it did. -/
def penceRisesSpec : ChangeSpec := { name := "penceRises", fn := fun _ => fun
  | [d1, d2, d3, d4, d5] => { results := [.lit (.bool true)], args := [d1, d2, d3, d4, d5] }
  | _ => none }
def penceRisesRow : OpenClaim := { program := "ytogohocokmhjcaa", sum := "8b96f87c562a16bba941ace0163b011500c7ce1835795bfde7b1f7bfeddfccb7", func := "swinggate/swinggatelaw.PenceRises", spec := "penceRises", unfollowed := true, recurses := true, apart := false }
def PenceRisesSaid : Prop := penceRisesRow.holds Try.pinned (OpenSpec.ofChange penceRisesSpec)

/-- ITS FALSE NEIGHBOUR: 'it returns false'. Refute it at one input. -/
def penceRisesWrong : ChangeSpec := { name := "penceRises", fn := fun _ => fun
  | [d1, d2, d3, d4, d5] => { results := [.lit (.bool false)], args := [d1, d2, d3, d4, d5] }
  | _ => none }
def PenceRisesWrongFalsely : Prop := penceRisesRow.holds Try.pinned (OpenSpec.ofChange penceRisesWrong)

/-- 'swinggatelaw.PenceWhole': WHATEVER THE INPUT: true; the input reads as it did. -/
def penceWholeSpec : ChangeSpec := { name := "penceWhole", fn := fun _ => fun
  | [d1, d2, d3, d4, d5, d6] => { results := [.lit (.bool true)], args := [d1, d2, d3, d4, d5, d6] }
  | _ => none }
def penceWholeRow : OpenClaim := { program := "ytogohocokmhjcaa", sum := "8b96f87c562a16bba941ace0163b011500c7ce1835795bfde7b1f7bfeddfccb7", func := "swinggate/swinggatelaw.PenceWhole", spec := "penceWhole", unfollowed := true, recurses := true, apart := false }
def PenceWholeSaid : Prop := penceWholeRow.holds Try.pinned (OpenSpec.ofChange penceWholeSpec)

/-- ITS FALSE NEIGHBOUR: 'it returns false'. Refute it at one input. -/
def penceWholeWrong : ChangeSpec := { name := "penceWhole", fn := fun _ => fun
  | [d1, d2, d3, d4, d5, d6] => { results := [.lit (.bool false)], args := [d1, d2, d3, d4, d5, d6] }
  | _ => none }
def PenceWholeWrongFalsely : Prop := penceWholeRow.holds Try.pinned (OpenSpec.ofChange penceWholeWrong)

/-- 'swinggatelaw.CoverTells': WHATEVER THE INPUT: true; the input reads as it did. -/
def coverTellsSpec : ChangeSpec := { name := "coverTells", fn := fun _ => fun
  | [d1, d2] => { results := [.lit (.bool true)], args := [d1, d2] }
  | _ => none }
def coverTellsRow : OpenClaim := { program := "ytogohocokmhjcaa", sum := "8b96f87c562a16bba941ace0163b011500c7ce1835795bfde7b1f7bfeddfccb7", func := "swinggate/swinggatelaw.CoverTells", spec := "coverTells", apart := false }
def CoverTellsSaid : Prop := coverTellsRow.holds Try.pinned (OpenSpec.ofChange coverTellsSpec)

/-- ITS FALSE NEIGHBOUR: 'it returns false'. Refute it at one input. -/
def coverTellsWrong : ChangeSpec := { name := "coverTells", fn := fun _ => fun
  | [d1, d2] => { results := [.lit (.bool false)], args := [d1, d2] }
  | _ => none }
def CoverTellsWrongFalsely : Prop := coverTellsRow.holds Try.pinned (OpenSpec.ofChange coverTellsWrong)

/-- 'swinggatelaw.CoverPlan': WHATEVER THE INPUT: true; the input reads as it did. -/
def coverPlanSpec : ChangeSpec := { name := "coverPlan", fn := fun _ => fun
  | [d1, d2] => { results := [.lit (.bool true)], args := [d1, d2] }
  | _ => none }
def coverPlanRow : OpenClaim := { program := "ytogohocokmhjcaa", sum := "8b96f87c562a16bba941ace0163b011500c7ce1835795bfde7b1f7bfeddfccb7", func := "swinggate/swinggatelaw.CoverPlan", spec := "coverPlan", apart := false }
def CoverPlanSaid : Prop := coverPlanRow.holds Try.pinned (OpenSpec.ofChange coverPlanSpec)

/-- ITS FALSE NEIGHBOUR: 'it returns false'. Refute it at one input. -/
def coverPlanWrong : ChangeSpec := { name := "coverPlan", fn := fun _ => fun
  | [d1, d2] => { results := [.lit (.bool false)], args := [d1, d2] }
  | _ => none }
def CoverPlanWrongFalsely : Prop := coverPlanRow.holds Try.pinned (OpenSpec.ofChange coverPlanWrong)

/-- 'swinggatelaw.CoverLeast': WHATEVER THE INPUT: true; the input reads as it did. -/
def coverLeastSpec : ChangeSpec := { name := "coverLeast", fn := fun _ => fun
  | [d1, d2, d3, d4] => { results := [.lit (.bool true)], args := [d1, d2, d3, d4] }
  | _ => none }
def coverLeastRow : OpenClaim := { program := "ytogohocokmhjcaa", sum := "8b96f87c562a16bba941ace0163b011500c7ce1835795bfde7b1f7bfeddfccb7", func := "swinggate/swinggatelaw.CoverLeast", spec := "coverLeast", apart := false }
def CoverLeastSaid : Prop := coverLeastRow.holds Try.pinned (OpenSpec.ofChange coverLeastSpec)

/-- ITS FALSE NEIGHBOUR: 'it returns false'. Refute it at one input. -/
def coverLeastWrong : ChangeSpec := { name := "coverLeast", fn := fun _ => fun
  | [d1, d2, d3, d4] => { results := [.lit (.bool false)], args := [d1, d2, d3, d4] }
  | _ => none }
def CoverLeastWrongFalsely : Prop := coverLeastRow.holds Try.pinned (OpenSpec.ofChange coverLeastWrong)

/-- 'swinggatelaw.CoverRises': WHATEVER THE INPUT: true; the input reads as it did. -/
def coverRisesSpec : ChangeSpec := { name := "coverRises", fn := fun _ => fun
  | [d1, d2, d3, d4] => { results := [.lit (.bool true)], args := [d1, d2, d3, d4] }
  | _ => none }
def coverRisesRow : OpenClaim := { program := "ytogohocokmhjcaa", sum := "8b96f87c562a16bba941ace0163b011500c7ce1835795bfde7b1f7bfeddfccb7", func := "swinggate/swinggatelaw.CoverRises", spec := "coverRises", apart := false }
def CoverRisesSaid : Prop := coverRisesRow.holds Try.pinned (OpenSpec.ofChange coverRisesSpec)

/-- ITS FALSE NEIGHBOUR: 'it returns false'. Refute it at one input. -/
def coverRisesWrong : ChangeSpec := { name := "coverRises", fn := fun _ => fun
  | [d1, d2, d3, d4] => { results := [.lit (.bool false)], args := [d1, d2, d3, d4] }
  | _ => none }
def CoverRisesWrongFalsely : Prop := coverRisesRow.holds Try.pinned (OpenSpec.ofChange coverRisesWrong)

/- THE SECOND FORM. 'bulk': how many values and letters a reading holds, each counted each time it is reached (what is shared counts as often as it is met; a slice's spare places count too). A statement '..UptoSaid' is the law's where the arguments, and the package variables that the reading takes, are together of bulk at most 1048576: NARROWER than '..Said'. Prove '..Said' where nothing that the law and all that it calls make is longer than what came in: it says more and counts as full. Else prove '..UptoSaid'. A law counts once. -/
mutual
def uptoBulk {H : Type} : DataW H → Nat
  | .lit (.string bytes) => bytes.length + 1
  | .lit _ => 1
  | .nil => 1
  | .ptr d => uptoBulk d + 1
  | .slice elems spare => uptoBulkAll elems + uptoBulkAll spare + 1
  | .agg parts => uptoBulkAll parts + 1
  | .iface _ d => uptoBulk d + 1
  | .map entries => uptoBulkEntries entries + 1
  | .held _ => 1
def uptoBulkAll {H : Type} : List (DataW H) → Nat
  | [] => 0
  | d :: r => uptoBulk d + uptoBulkAll r
def uptoBulkEntries {H : Type} : List (Lit × DataW H) → Nat
  | [] => 0
  | x :: r => uptoBulkEntry x + uptoBulkEntries r
def uptoBulkEntry {H : Type} : Lit × DataW H → Nat
  | (.string bytes, d) => bytes.length + uptoBulk d + 1
  | (_, d) => uptoBulk d + 1
 end
def uptoSmall : (H : Type) → List (DataW H) → Bool := fun _ ds => decide (uptoBulkAll ds ≤ 1048576)
def OpenSpec.upto (s : _root_.Go.ChangeSpec) : _root_.Go.OpenSpec := { _root_.Go.OpenSpec.ofChange s with cond := some uptoSmall }

/-- 'swinggatelaw.RefundTells', WHERE WHAT IT READS IS OF BULK AT MOST 1048576: true; the input reads as it did. -/
def refundTellsUptoRow : OpenClaim := { program := "ytogohocokmhjcaa", sum := "8b96f87c562a16bba941ace0163b011500c7ce1835795bfde7b1f7bfeddfccb7", func := "swinggate/swinggatelaw.RefundTells", spec := "refundTells", apart := false, narrowed := true }
def RefundTellsUptoSaid : Prop := refundTellsUptoRow.holds Try.pinned (OpenSpec.upto refundTellsSpec)

/-- 'swinggatelaw.RefundFalls', WHERE WHAT IT READS IS OF BULK AT MOST 1048576: true; the input reads as it did. -/
def refundFallsUptoRow : OpenClaim := { program := "ytogohocokmhjcaa", sum := "8b96f87c562a16bba941ace0163b011500c7ce1835795bfde7b1f7bfeddfccb7", func := "swinggate/swinggatelaw.RefundFalls", spec := "refundFalls", apart := false, narrowed := true }
def RefundFallsUptoSaid : Prop := refundFallsUptoRow.holds Try.pinned (OpenSpec.upto refundFallsSpec)

/-- 'swinggatelaw.PenceTells', WHERE WHAT IT READS IS OF BULK AT MOST 1048576: true; the input reads as it did. -/
def penceTellsUptoRow : OpenClaim := { program := "ytogohocokmhjcaa", sum := "8b96f87c562a16bba941ace0163b011500c7ce1835795bfde7b1f7bfeddfccb7", func := "swinggate/swinggatelaw.PenceTells", spec := "penceTells", unfollowed := true, recurses := true, apart := false, narrowed := true }
def PenceTellsUptoSaid : Prop := penceTellsUptoRow.holds Try.pinned (OpenSpec.upto penceTellsSpec)

/-- 'swinggatelaw.PenceNear', WHERE WHAT IT READS IS OF BULK AT MOST 1048576: true; the input reads as it did. -/
def penceNearUptoRow : OpenClaim := { program := "ytogohocokmhjcaa", sum := "8b96f87c562a16bba941ace0163b011500c7ce1835795bfde7b1f7bfeddfccb7", func := "swinggate/swinggatelaw.PenceNear", spec := "penceNear", unfollowed := true, recurses := true, apart := false, narrowed := true }
def PenceNearUptoSaid : Prop := penceNearUptoRow.holds Try.pinned (OpenSpec.upto penceNearSpec)

/-- 'swinggatelaw.PenceRises', WHERE WHAT IT READS IS OF BULK AT MOST 1048576: true; the input reads as it did. -/
def penceRisesUptoRow : OpenClaim := { program := "ytogohocokmhjcaa", sum := "8b96f87c562a16bba941ace0163b011500c7ce1835795bfde7b1f7bfeddfccb7", func := "swinggate/swinggatelaw.PenceRises", spec := "penceRises", unfollowed := true, recurses := true, apart := false, narrowed := true }
def PenceRisesUptoSaid : Prop := penceRisesUptoRow.holds Try.pinned (OpenSpec.upto penceRisesSpec)

/-- 'swinggatelaw.PenceWhole', WHERE WHAT IT READS IS OF BULK AT MOST 1048576: true; the input reads as it did. -/
def penceWholeUptoRow : OpenClaim := { program := "ytogohocokmhjcaa", sum := "8b96f87c562a16bba941ace0163b011500c7ce1835795bfde7b1f7bfeddfccb7", func := "swinggate/swinggatelaw.PenceWhole", spec := "penceWhole", unfollowed := true, recurses := true, apart := false, narrowed := true }
def PenceWholeUptoSaid : Prop := penceWholeUptoRow.holds Try.pinned (OpenSpec.upto penceWholeSpec)

/-- 'swinggatelaw.CoverTells', WHERE WHAT IT READS IS OF BULK AT MOST 1048576: true; the input reads as it did. -/
def coverTellsUptoRow : OpenClaim := { program := "ytogohocokmhjcaa", sum := "8b96f87c562a16bba941ace0163b011500c7ce1835795bfde7b1f7bfeddfccb7", func := "swinggate/swinggatelaw.CoverTells", spec := "coverTells", apart := false, narrowed := true }
def CoverTellsUptoSaid : Prop := coverTellsUptoRow.holds Try.pinned (OpenSpec.upto coverTellsSpec)

/-- 'swinggatelaw.CoverPlan', WHERE WHAT IT READS IS OF BULK AT MOST 1048576: true; the input reads as it did. -/
def coverPlanUptoRow : OpenClaim := { program := "ytogohocokmhjcaa", sum := "8b96f87c562a16bba941ace0163b011500c7ce1835795bfde7b1f7bfeddfccb7", func := "swinggate/swinggatelaw.CoverPlan", spec := "coverPlan", apart := false, narrowed := true }
def CoverPlanUptoSaid : Prop := coverPlanUptoRow.holds Try.pinned (OpenSpec.upto coverPlanSpec)

/-- 'swinggatelaw.CoverLeast', WHERE WHAT IT READS IS OF BULK AT MOST 1048576: true; the input reads as it did. -/
def coverLeastUptoRow : OpenClaim := { program := "ytogohocokmhjcaa", sum := "8b96f87c562a16bba941ace0163b011500c7ce1835795bfde7b1f7bfeddfccb7", func := "swinggate/swinggatelaw.CoverLeast", spec := "coverLeast", apart := false, narrowed := true }
def CoverLeastUptoSaid : Prop := coverLeastUptoRow.holds Try.pinned (OpenSpec.upto coverLeastSpec)

/-- 'swinggatelaw.CoverRises', WHERE WHAT IT READS IS OF BULK AT MOST 1048576: true; the input reads as it did. -/
def coverRisesUptoRow : OpenClaim := { program := "ytogohocokmhjcaa", sum := "8b96f87c562a16bba941ace0163b011500c7ce1835795bfde7b1f7bfeddfccb7", func := "swinggate/swinggatelaw.CoverRises", spec := "coverRises", apart := false, narrowed := true }
def CoverRisesUptoSaid : Prop := coverRisesUptoRow.holds Try.pinned (OpenSpec.upto coverRisesSpec)

end Rows
end Go.Proofs.Ytogohocokmhjcaa
