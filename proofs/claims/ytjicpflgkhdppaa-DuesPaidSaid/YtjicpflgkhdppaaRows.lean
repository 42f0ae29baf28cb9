/-
  No cell of these rows narrows 'for every input' (looked for: loops, veiled, ifaces, maps, wideKeys, modest, calm, conditions, laid).
  DERIVED. THE GIVEN ROWS OF THIS SEAT. 9 by the template 'for every input the law returns true; each argument reads behind the call as it read before'; 0 by the template 'total and deterministic' (their statements: YtjicpflgkhdppaaTotals.lean).
  GIVEN WITH THE SEED: the statements are not yours to turn. If you find one false, say at which input.
  Laid BY PROGRAM, IN A SANDBOX (cutbox-rows.mjs): the forced cells as the released guide's own fill.sh prints them over the translation dc8d8b1188f5598f… (all of the seat's roots in one cut). By AI agents, Wed Nov 11 2026. No macro, syntax, notation, axiom, sorry.
-/
import Derived.Test.YtjicpflgkhdppaaChecked
import GoSem.Claim
import GoSem.ClaimJoined
import GoSem.ClaimMapViews
import Derived.JoinedTies
import Derived.KernelRfl
namespace Go.Proofs.Ytjicpflgkhdppaa
/- THE CELL 'sum', in the pinned program and in every row, IS THE sha256 OF THE DUMP (.gsa) THAT YtjicpflgkhdppaaProg.lean LOADS. Nothing in Lean hashes anything: it is a label: what it is worth is what the hold of that sum in a sandbox is worth. -/
noncomputable def Try.pinned : Pinned := { name := "ytjicpflgkhdppaa", sum := "dc8d8b1188f5598f4023b7576f8f178f73c25fbbd8ae53160aaa5dfbe173dcbe", checked := Try.checked }
namespace Rows
def none {H : Type} : Left H := { results := [], args := [] }

/-- 'swinggatelaw.HolidaysTell': WHATEVER THE INPUT: true; the input reads as it did. -/
def holidaysTellSpec : ChangeSpec := { name := "holidaysTell", fn := fun _ => fun
  | [d1, d2] => { results := [.lit (.bool true)], args := [d1, d2] }
  | _ => none }
def holidaysTellRow : OpenClaim := { program := "ytjicpflgkhdppaa", sum := "dc8d8b1188f5598f4023b7576f8f178f73c25fbbd8ae53160aaa5dfbe173dcbe", func := "swinggate/swinggatelaw.HolidaysTell", spec := "holidaysTell", recurses := true, apart := false }
def HolidaysTellSaid : Prop := holidaysTellRow.holds Try.pinned (OpenSpec.ofChange holidaysTellSpec)

/-- ITS FALSE NEIGHBOUR: 'it returns false'. Refute it at one input. -/
def holidaysTellWrong : ChangeSpec := { name := "holidaysTell", fn := fun _ => fun
  | [d1, d2] => { results := [.lit (.bool false)], args := [d1, d2] }
  | _ => none }
def HolidaysTellWrongFalsely : Prop := holidaysTellRow.holds Try.pinned (OpenSpec.ofChange holidaysTellWrong)

/-- 'swinggatelaw.WorkAdds': WHATEVER THE INPUT: true; the input reads as it did. -/
def workAddsSpec : ChangeSpec := { name := "workAdds", fn := fun _ => fun
  | [d1, d2, d3, d4] => { results := [.lit (.bool true)], args := [d1, d2, d3, d4] }
  | _ => none }
def workAddsRow : OpenClaim := { program := "ytjicpflgkhdppaa", sum := "dc8d8b1188f5598f4023b7576f8f178f73c25fbbd8ae53160aaa5dfbe173dcbe", func := "swinggate/swinggatelaw.WorkAdds", spec := "workAdds", recurses := true, apart := false }
def WorkAddsSaid : Prop := workAddsRow.holds Try.pinned (OpenSpec.ofChange workAddsSpec)

/-- ITS FALSE NEIGHBOUR: 'it returns false'. Refute it at one input. -/
def workAddsWrong : ChangeSpec := { name := "workAdds", fn := fun _ => fun
  | [d1, d2, d3, d4] => { results := [.lit (.bool false)], args := [d1, d2, d3, d4] }
  | _ => none }
def WorkAddsWrongFalsely : Prop := workAddsRow.holds Try.pinned (OpenSpec.ofChange workAddsWrong)

/-- 'swinggatelaw.WorkCounts': WHATEVER THE INPUT: true; the input reads as it did. -/
def workCountsSpec : ChangeSpec := { name := "workCounts", fn := fun _ => fun
  | [d1, d2, d3, d4] => { results := [.lit (.bool true)], args := [d1, d2, d3, d4] }
  | _ => none }
def workCountsRow : OpenClaim := { program := "ytjicpflgkhdppaa", sum := "dc8d8b1188f5598f4023b7576f8f178f73c25fbbd8ae53160aaa5dfbe173dcbe", func := "swinggate/swinggatelaw.WorkCounts", spec := "workCounts", recurses := true, apart := false }
def WorkCountsSaid : Prop := workCountsRow.holds Try.pinned (OpenSpec.ofChange workCountsSpec)

/-- ITS FALSE NEIGHBOUR: 'it returns false'. Refute it at one input. -/
def workCountsWrong : ChangeSpec := { name := "workCounts", fn := fun _ => fun
  | [d1, d2, d3, d4] => { results := [.lit (.bool false)], args := [d1, d2, d3, d4] }
  | _ => none }
def WorkCountsWrongFalsely : Prop := workCountsRow.holds Try.pinned (OpenSpec.ofChange workCountsWrong)

/-- 'swinggatelaw.WorkTells': WHATEVER THE INPUT: true; the input reads as it did. -/
def workTellsSpec : ChangeSpec := { name := "workTells", fn := fun _ => fun
  | [d1, d2, d3, d4] => { results := [.lit (.bool true)], args := [d1, d2, d3, d4] }
  | _ => none }
def workTellsRow : OpenClaim := { program := "ytjicpflgkhdppaa", sum := "dc8d8b1188f5598f4023b7576f8f178f73c25fbbd8ae53160aaa5dfbe173dcbe", func := "swinggate/swinggatelaw.WorkTells", spec := "workTells", recurses := true, apart := false }
def WorkTellsSaid : Prop := workTellsRow.holds Try.pinned (OpenSpec.ofChange workTellsSpec)

/-- ITS FALSE NEIGHBOUR: 'it returns false'. Refute it at one input. -/
def workTellsWrong : ChangeSpec := { name := "workTells", fn := fun _ => fun
  | [d1, d2, d3, d4] => { results := [.lit (.bool false)], args := [d1, d2, d3, d4] }
  | _ => none }
def WorkTellsWrongFalsely : Prop := workTellsRow.holds Try.pinned (OpenSpec.ofChange workTellsWrong)

/-- 'swinggatelaw.WorkNext': WHATEVER THE INPUT: true; the input reads as it did. -/
def workNextSpec : ChangeSpec := { name := "workNext", fn := fun _ => fun
  | [d1, d2, d3] => { results := [.lit (.bool true)], args := [d1, d2, d3] }
  | _ => none }
def workNextRow : OpenClaim := { program := "ytjicpflgkhdppaa", sum := "dc8d8b1188f5598f4023b7576f8f178f73c25fbbd8ae53160aaa5dfbe173dcbe", func := "swinggate/swinggatelaw.WorkNext", spec := "workNext", recurses := true, apart := false }
def WorkNextSaid : Prop := workNextRow.holds Try.pinned (OpenSpec.ofChange workNextSpec)

/-- ITS FALSE NEIGHBOUR: 'it returns false'. Refute it at one input. -/
def workNextWrong : ChangeSpec := { name := "workNext", fn := fun _ => fun
  | [d1, d2, d3] => { results := [.lit (.bool false)], args := [d1, d2, d3] }
  | _ => none }
def WorkNextWrongFalsely : Prop := workNextRow.holds Try.pinned (OpenSpec.ofChange workNextWrong)

/-- 'swinggatelaw.WorkRests': WHATEVER THE INPUT: true; the input reads as it did. -/
def workRestsSpec : ChangeSpec := { name := "workRests", fn := fun _ => fun
  | [d1, d2] => { results := [.lit (.bool true)], args := [d1, d2] }
  | _ => none }
def workRestsRow : OpenClaim := { program := "ytjicpflgkhdppaa", sum := "dc8d8b1188f5598f4023b7576f8f178f73c25fbbd8ae53160aaa5dfbe173dcbe", func := "swinggate/swinggatelaw.WorkRests", spec := "workRests", recurses := true, apart := false }
def WorkRestsSaid : Prop := workRestsRow.holds Try.pinned (OpenSpec.ofChange workRestsSpec)

/-- ITS FALSE NEIGHBOUR: 'it returns false'. Refute it at one input. -/
def workRestsWrong : ChangeSpec := { name := "workRests", fn := fun _ => fun
  | [d1, d2] => { results := [.lit (.bool false)], args := [d1, d2] }
  | _ => none }
def WorkRestsWrongFalsely : Prop := workRestsRow.holds Try.pinned (OpenSpec.ofChange workRestsWrong)

/-- 'swinggatelaw.DuesTell': WHATEVER THE INPUT: true; the input reads as it did. -/
def duesTellSpec : ChangeSpec := { name := "duesTell", fn := fun _ => fun
  | [d1, d2, d3, d4, d5, d6, d7] => { results := [.lit (.bool true)], args := [d1, d2, d3, d4, d5, d6, d7] }
  | _ => none }
def duesTellRow : OpenClaim := { program := "ytjicpflgkhdppaa", sum := "dc8d8b1188f5598f4023b7576f8f178f73c25fbbd8ae53160aaa5dfbe173dcbe", func := "swinggate/swinggatelaw.DuesTell", spec := "duesTell", recurses := true, apart := false }
def DuesTellSaid : Prop := duesTellRow.holds Try.pinned (OpenSpec.ofChange duesTellSpec)

/-- ITS FALSE NEIGHBOUR: 'it returns false'. Refute it at one input. -/
def duesTellWrong : ChangeSpec := { name := "duesTell", fn := fun _ => fun
  | [d1, d2, d3, d4, d5, d6, d7] => { results := [.lit (.bool false)], args := [d1, d2, d3, d4, d5, d6, d7] }
  | _ => none }
def DuesTellWrongFalsely : Prop := duesTellRow.holds Try.pinned (OpenSpec.ofChange duesTellWrong)

/-- 'swinggatelaw.DuesPaid': WHATEVER THE INPUT: true; the input reads as it did. -/
def duesPaidSpec : ChangeSpec := { name := "duesPaid", fn := fun _ => fun
  | [d1, d2, d3] => { results := [.lit (.bool true)], args := [d1, d2, d3] }
  | _ => none }
def duesPaidRow : OpenClaim := { program := "ytjicpflgkhdppaa", sum := "dc8d8b1188f5598f4023b7576f8f178f73c25fbbd8ae53160aaa5dfbe173dcbe", func := "swinggate/swinggatelaw.DuesPaid", spec := "duesPaid", recurses := true, apart := false }
def DuesPaidSaid : Prop := duesPaidRow.holds Try.pinned (OpenSpec.ofChange duesPaidSpec)

/-- ITS FALSE NEIGHBOUR: 'it returns false'. Refute it at one input. -/
def duesPaidWrong : ChangeSpec := { name := "duesPaid", fn := fun _ => fun
  | [d1, d2, d3] => { results := [.lit (.bool false)], args := [d1, d2, d3] }
  | _ => none }
def DuesPaidWrongFalsely : Prop := duesPaidRow.holds Try.pinned (OpenSpec.ofChange duesPaidWrong)

/-- 'swinggatelaw.DuesWhole': WHATEVER THE INPUT: true; the input reads as it did. -/
def duesWholeSpec : ChangeSpec := { name := "duesWhole", fn := fun _ => fun
  | [d1, d2, d3, d4, d5] => { results := [.lit (.bool true)], args := [d1, d2, d3, d4, d5] }
  | _ => none }
def duesWholeRow : OpenClaim := { program := "ytjicpflgkhdppaa", sum := "dc8d8b1188f5598f4023b7576f8f178f73c25fbbd8ae53160aaa5dfbe173dcbe", func := "swinggate/swinggatelaw.DuesWhole", spec := "duesWhole", recurses := true, apart := false }
def DuesWholeSaid : Prop := duesWholeRow.holds Try.pinned (OpenSpec.ofChange duesWholeSpec)

/-- ITS FALSE NEIGHBOUR: 'it returns false'. Refute it at one input. -/
def duesWholeWrong : ChangeSpec := { name := "duesWhole", fn := fun _ => fun
  | [d1, d2, d3, d4, d5] => { results := [.lit (.bool false)], args := [d1, d2, d3, d4, d5] }
  | _ => none }
def DuesWholeWrongFalsely : Prop := duesWholeRow.holds Try.pinned (OpenSpec.ofChange duesWholeWrong)

/- THE SECOND FORM. 'bulk': how many values and letters a reading holds, each counted each time it is reached (what is shared counts as often as it is met; a slice's spare places count too). A statement '..UptoSaid' is the law's where the arguments, and the package variables that the reading takes, are together of bulk at most 1048576: NARROWER than '..Said'. Prove '..Said' where nothing that the law and all that it calls make is longer than what came in: it says more and counts as full. Else prove '..UptoSaid'. A law counts once. -/
mutual
def uptoBulk {H : Type} : DataW H → Nat
  | .lit (.string bytes) => bytes.length + 1
  | .lit _ => 1
  | .nil => 1
  | .ptr d => uptoBulk d + 1
  | .slice elems spare => uptoBulkAll elems + uptoBulkAll spare + 1
  | .agg parts => uptoBulkAll parts + 1
  | .iface _ d => uptoBulk d + 1
  | .map entries => uptoBulkEntries entries + 1
  | .held _ => 1
def uptoBulkAll {H : Type} : List (DataW H) → Nat
  | [] => 0
  | d :: r => uptoBulk d + uptoBulkAll r
def uptoBulkEntries {H : Type} : List (Lit × DataW H) → Nat
  | [] => 0
  | x :: r => uptoBulkEntry x + uptoBulkEntries r
def uptoBulkEntry {H : Type} : Lit × DataW H → Nat
  | (.string bytes, d) => bytes.length + uptoBulk d + 1
  | (_, d) => uptoBulk d + 1
 end
def uptoSmall : (H : Type) → List (DataW H) → Bool := fun _ ds => decide (uptoBulkAll ds ≤ 1048576)
def OpenSpec.upto (s : _root_.Go.ChangeSpec) : _root_.Go.OpenSpec := { _root_.Go.OpenSpec.ofChange s with cond := some uptoSmall }

/-- 'swinggatelaw.HolidaysTell', WHERE WHAT IT READS IS OF BULK AT MOST 1048576: true; the input reads as it did. -/
def holidaysTellUptoRow : OpenClaim := { program := "ytjicpflgkhdppaa", sum := "dc8d8b1188f5598f4023b7576f8f178f73c25fbbd8ae53160aaa5dfbe173dcbe", func := "swinggate/swinggatelaw.HolidaysTell", spec := "holidaysTell", recurses := true, apart := false, narrowed := true }
def HolidaysTellUptoSaid : Prop := holidaysTellUptoRow.holds Try.pinned (OpenSpec.upto holidaysTellSpec)

/-- 'swinggatelaw.WorkAdds', WHERE WHAT IT READS IS OF BULK AT MOST 1048576: true; the input reads as it did. -/
def workAddsUptoRow : OpenClaim := { program := "ytjicpflgkhdppaa", sum := "dc8d8b1188f5598f4023b7576f8f178f73c25fbbd8ae53160aaa5dfbe173dcbe", func := "swinggate/swinggatelaw.WorkAdds", spec := "workAdds", recurses := true, apart := false, narrowed := true }
def WorkAddsUptoSaid : Prop := workAddsUptoRow.holds Try.pinned (OpenSpec.upto workAddsSpec)

/-- 'swinggatelaw.WorkCounts', WHERE WHAT IT READS IS OF BULK AT MOST 1048576: true; the input reads as it did. -/
def workCountsUptoRow : OpenClaim := { program := "ytjicpflgkhdppaa", sum := "dc8d8b1188f5598f4023b7576f8f178f73c25fbbd8ae53160aaa5dfbe173dcbe", func := "swinggate/swinggatelaw.WorkCounts", spec := "workCounts", recurses := true, apart := false, narrowed := true }
def WorkCountsUptoSaid : Prop := workCountsUptoRow.holds Try.pinned (OpenSpec.upto workCountsSpec)

/-- 'swinggatelaw.WorkTells', WHERE WHAT IT READS IS OF BULK AT MOST 1048576: true; the input reads as it did. -/
def workTellsUptoRow : OpenClaim := { program := "ytjicpflgkhdppaa", sum := "dc8d8b1188f5598f4023b7576f8f178f73c25fbbd8ae53160aaa5dfbe173dcbe", func := "swinggate/swinggatelaw.WorkTells", spec := "workTells", recurses := true, apart := false, narrowed := true }
def WorkTellsUptoSaid : Prop := workTellsUptoRow.holds Try.pinned (OpenSpec.upto workTellsSpec)

/-- 'swinggatelaw.WorkNext', WHERE WHAT IT READS IS OF BULK AT MOST 1048576: true; the input reads as it did. -/
def workNextUptoRow : OpenClaim := { program := "ytjicpflgkhdppaa", sum := "dc8d8b1188f5598f4023b7576f8f178f73c25fbbd8ae53160aaa5dfbe173dcbe", func := "swinggate/swinggatelaw.WorkNext", spec := "workNext", recurses := true, apart := false, narrowed := true }
def WorkNextUptoSaid : Prop := workNextUptoRow.holds Try.pinned (OpenSpec.upto workNextSpec)

/-- 'swinggatelaw.WorkRests', WHERE WHAT IT READS IS OF BULK AT MOST 1048576: true; the input reads as it did. -/
def workRestsUptoRow : OpenClaim := { program := "ytjicpflgkhdppaa", sum := "dc8d8b1188f5598f4023b7576f8f178f73c25fbbd8ae53160aaa5dfbe173dcbe", func := "swinggate/swinggatelaw.WorkRests", spec := "workRests", recurses := true, apart := false, narrowed := true }
def WorkRestsUptoSaid : Prop := workRestsUptoRow.holds Try.pinned (OpenSpec.upto workRestsSpec)

/-- 'swinggatelaw.DuesTell', WHERE WHAT IT READS IS OF BULK AT MOST 1048576: true; the input reads as it did. -/
def duesTellUptoRow : OpenClaim := { program := "ytjicpflgkhdppaa", sum := "dc8d8b1188f5598f4023b7576f8f178f73c25fbbd8ae53160aaa5dfbe173dcbe", func := "swinggate/swinggatelaw.DuesTell", spec := "duesTell", recurses := true, apart := false, narrowed := true }
def DuesTellUptoSaid : Prop := duesTellUptoRow.holds Try.pinned (OpenSpec.upto duesTellSpec)

/-- 'swinggatelaw.DuesPaid', WHERE WHAT IT READS IS OF BULK AT MOST 1048576: true; the input reads as it did. -/
def duesPaidUptoRow : OpenClaim := { program := "ytjicpflgkhdppaa", sum := "dc8d8b1188f5598f4023b7576f8f178f73c25fbbd8ae53160aaa5dfbe173dcbe", func := "swinggate/swinggatelaw.DuesPaid", spec := "duesPaid", recurses := true, apart := false, narrowed := true }
def DuesPaidUptoSaid : Prop := duesPaidUptoRow.holds Try.pinned (OpenSpec.upto duesPaidSpec)

/-- 'swinggatelaw.DuesWhole', WHERE WHAT IT READS IS OF BULK AT MOST 1048576: true; the input reads as it did. -/
def duesWholeUptoRow : OpenClaim := { program := "ytjicpflgkhdppaa", sum := "dc8d8b1188f5598f4023b7576f8f178f73c25fbbd8ae53160aaa5dfbe173dcbe", func := "swinggate/swinggatelaw.DuesWhole", spec := "duesWhole", recurses := true, apart := false, narrowed := true }
def DuesWholeUptoSaid : Prop := duesWholeUptoRow.holds Try.pinned (OpenSpec.upto duesWholeSpec)

end Rows
end Go.Proofs.Ytjicpflgkhdppaa
