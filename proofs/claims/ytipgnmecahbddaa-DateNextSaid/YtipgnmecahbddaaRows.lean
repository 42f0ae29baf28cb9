/-
  No cell of these rows narrows 'for every input' (looked for: loops, veiled, ifaces, maps, wideKeys, modest, calm, conditions, laid).
  DERIVED. THE GIVEN ROWS OF THIS SEAT. 10 by the template 'for every input the law returns true; each argument reads behind the call as it read before'; 0 by the template 'total and deterministic' (their statements: YtipgnmecahbddaaTotals.lean).
  GIVEN WITH THE SEED: the statements are not yours to turn. If you find one false, say at which input.
  Laid BY PROGRAM, IN A SANDBOX (cutbox-rows.mjs): the forced cells as the released guide's own fill.sh prints them over the translation 405ae9ec9708aba9… (all of the seat's roots in one cut). By AI agents, Wed Nov 11 2026. No macro, syntax, notation, axiom, sorry.
-/
import Derived.Test.YtipgnmecahbddaaChecked
import GoSem.Claim
import GoSem.ClaimJoined
import GoSem.ClaimMapViews
import Derived.JoinedTies
import Derived.KernelRfl
namespace Go.Proofs.Ytipgnmecahbddaa
/- THE CELL 'sum', in the pinned program and in every row, IS THE sha256 OF THE DUMP (.gsa) THAT YtipgnmecahbddaaProg.lean LOADS. Nothing in Lean hashes anything: it is a label: what it is worth is what the hold of that sum in a sandbox is worth. -/
noncomputable def Try.pinned : Pinned := { name := "ytipgnmecahbddaa", sum := "405ae9ec9708aba932906732ea997f16e4679bb4dc9dcfe3a835c7c26026a468", checked := Try.checked }
namespace Rows
def none {H : Type} : Left H := { results := [], args := [] }

/-- 'swinggatelaw.EasterTells': WHATEVER THE INPUT: true; the input reads as it did. -/
def easterTellsSpec : ChangeSpec := { name := "easterTells", fn := fun _ => fun
  | [d1, d2] => { results := [.lit (.bool true)], args := [d1, d2] }
  | _ => none }
def easterTellsRow : OpenClaim := { program := "ytipgnmecahbddaa", sum := "405ae9ec9708aba932906732ea997f16e4679bb4dc9dcfe3a835c7c26026a468", func := "swinggate/swinggatelaw.EasterTells", spec := "easterTells", apart := false }
def EasterTellsSaid : Prop := easterTellsRow.holds Try.pinned (OpenSpec.ofChange easterTellsSpec)

/-- ITS FALSE NEIGHBOUR: 'it returns false'. Refute it at one input. -/
def easterTellsWrong : ChangeSpec := { name := "easterTells", fn := fun _ => fun
  | [d1, d2] => { results := [.lit (.bool false)], args := [d1, d2] }
  | _ => none }
def EasterTellsWrongFalsely : Prop := easterTellsRow.holds Try.pinned (OpenSpec.ofChange easterTellsWrong)

/-- 'swinggatelaw.EasterGap': WHATEVER THE INPUT: true; the input reads as it did. -/
def easterGapSpec : ChangeSpec := { name := "easterGap", fn := fun _ => fun
  | [d] => { results := [.lit (.bool true)], args := [d] }
  | _ => none }
def easterGapRow : OpenClaim := { program := "ytipgnmecahbddaa", sum := "405ae9ec9708aba932906732ea997f16e4679bb4dc9dcfe3a835c7c26026a468", func := "swinggate/swinggatelaw.EasterGap", spec := "easterGap", apart := false }
def EasterGapSaid : Prop := easterGapRow.holds Try.pinned (OpenSpec.ofChange easterGapSpec)

/-- ITS FALSE NEIGHBOUR: 'it returns false'. Refute it at one input. -/
def easterGapWrong : ChangeSpec := { name := "easterGap", fn := fun _ => fun
  | [d] => { results := [.lit (.bool false)], args := [d] }
  | _ => none }
def EasterGapWrongFalsely : Prop := easterGapRow.holds Try.pinned (OpenSpec.ofChange easterGapWrong)

/-- 'swinggatelaw.DateTells': WHATEVER THE INPUT: true; the input reads as it did. -/
def dateTellsSpec : ChangeSpec := { name := "dateTells", fn := fun _ => fun
  | [d1, d2] => { results := [.lit (.bool true)], args := [d1, d2] }
  | _ => none }
def dateTellsRow : OpenClaim := { program := "ytipgnmecahbddaa", sum := "405ae9ec9708aba932906732ea997f16e4679bb4dc9dcfe3a835c7c26026a468", func := "swinggate/swinggatelaw.DateTells", spec := "dateTells", apart := false }
def DateTellsSaid : Prop := dateTellsRow.holds Try.pinned (OpenSpec.ofChange dateTellsSpec)

/-- ITS FALSE NEIGHBOUR: 'it returns false'. Refute it at one input. -/
def dateTellsWrong : ChangeSpec := { name := "dateTells", fn := fun _ => fun
  | [d1, d2] => { results := [.lit (.bool false)], args := [d1, d2] }
  | _ => none }
def DateTellsWrongFalsely : Prop := dateTellsRow.holds Try.pinned (OpenSpec.ofChange dateTellsWrong)

/-- 'swinggatelaw.DateBack': WHATEVER THE INPUT: true; the input reads as it did. -/
def dateBackSpec : ChangeSpec := { name := "dateBack", fn := fun _ => fun
  | [d1, d2] => { results := [.lit (.bool true)], args := [d1, d2] }
  | _ => none }
def dateBackRow : OpenClaim := { program := "ytipgnmecahbddaa", sum := "405ae9ec9708aba932906732ea997f16e4679bb4dc9dcfe3a835c7c26026a468", func := "swinggate/swinggatelaw.DateBack", spec := "dateBack", apart := false }
def DateBackSaid : Prop := dateBackRow.holds Try.pinned (OpenSpec.ofChange dateBackSpec)

/-- ITS FALSE NEIGHBOUR: 'it returns false'. Refute it at one input. -/
def dateBackWrong : ChangeSpec := { name := "dateBack", fn := fun _ => fun
  | [d1, d2] => { results := [.lit (.bool false)], args := [d1, d2] }
  | _ => none }
def DateBackWrongFalsely : Prop := dateBackRow.holds Try.pinned (OpenSpec.ofChange dateBackWrong)

/-- 'swinggatelaw.DateNext': WHATEVER THE INPUT: true; the input reads as it did. -/
def dateNextSpec : ChangeSpec := { name := "dateNext", fn := fun _ => fun
  | [d] => { results := [.lit (.bool true)], args := [d] }
  | _ => none }
def dateNextRow : OpenClaim := { program := "ytipgnmecahbddaa", sum := "405ae9ec9708aba932906732ea997f16e4679bb4dc9dcfe3a835c7c26026a468", func := "swinggate/swinggatelaw.DateNext", spec := "dateNext", apart := false }
def DateNextSaid : Prop := dateNextRow.holds Try.pinned (OpenSpec.ofChange dateNextSpec)

/-- ITS FALSE NEIGHBOUR: 'it returns false'. Refute it at one input. -/
def dateNextWrong : ChangeSpec := { name := "dateNext", fn := fun _ => fun
  | [d] => { results := [.lit (.bool false)], args := [d] }
  | _ => none }
def DateNextWrongFalsely : Prop := dateNextRow.holds Try.pinned (OpenSpec.ofChange dateNextWrong)

/-- 'swinggatelaw.DateCycle': WHATEVER THE INPUT: true; the input reads as it did. -/
def dateCycleSpec : ChangeSpec := { name := "dateCycle", fn := fun _ => fun
  | [d] => { results := [.lit (.bool true)], args := [d] }
  | _ => none }
def dateCycleRow : OpenClaim := { program := "ytipgnmecahbddaa", sum := "405ae9ec9708aba932906732ea997f16e4679bb4dc9dcfe3a835c7c26026a468", func := "swinggate/swinggatelaw.DateCycle", spec := "dateCycle", apart := false }
def DateCycleSaid : Prop := dateCycleRow.holds Try.pinned (OpenSpec.ofChange dateCycleSpec)

/-- ITS FALSE NEIGHBOUR: 'it returns false'. Refute it at one input. -/
def dateCycleWrong : ChangeSpec := { name := "dateCycle", fn := fun _ => fun
  | [d] => { results := [.lit (.bool false)], args := [d] }
  | _ => none }
def DateCycleWrongFalsely : Prop := dateCycleRow.holds Try.pinned (OpenSpec.ofChange dateCycleWrong)

/-- 'swinggatelaw.WeekTells': WHATEVER THE INPUT: true; the input reads as it did. -/
def weekTellsSpec : ChangeSpec := { name := "weekTells", fn := fun _ => fun
  | [d1, d2] => { results := [.lit (.bool true)], args := [d1, d2] }
  | _ => none }
def weekTellsRow : OpenClaim := { program := "ytipgnmecahbddaa", sum := "405ae9ec9708aba932906732ea997f16e4679bb4dc9dcfe3a835c7c26026a468", func := "swinggate/swinggatelaw.WeekTells", spec := "weekTells", apart := false }
def WeekTellsSaid : Prop := weekTellsRow.holds Try.pinned (OpenSpec.ofChange weekTellsSpec)

/-- ITS FALSE NEIGHBOUR: 'it returns false'. Refute it at one input. -/
def weekTellsWrong : ChangeSpec := { name := "weekTells", fn := fun _ => fun
  | [d1, d2] => { results := [.lit (.bool false)], args := [d1, d2] }
  | _ => none }
def WeekTellsWrongFalsely : Prop := weekTellsRow.holds Try.pinned (OpenSpec.ofChange weekTellsWrong)

/-- 'swinggatelaw.WeekBack': WHATEVER THE INPUT: true; the input reads as it did. -/
def weekBackSpec : ChangeSpec := { name := "weekBack", fn := fun _ => fun
  | [d1, d2] => { results := [.lit (.bool true)], args := [d1, d2] }
  | _ => none }
def weekBackRow : OpenClaim := { program := "ytipgnmecahbddaa", sum := "405ae9ec9708aba932906732ea997f16e4679bb4dc9dcfe3a835c7c26026a468", func := "swinggate/swinggatelaw.WeekBack", spec := "weekBack", apart := false }
def WeekBackSaid : Prop := weekBackRow.holds Try.pinned (OpenSpec.ofChange weekBackSpec)

/-- ITS FALSE NEIGHBOUR: 'it returns false'. Refute it at one input. -/
def weekBackWrong : ChangeSpec := { name := "weekBack", fn := fun _ => fun
  | [d1, d2] => { results := [.lit (.bool false)], args := [d1, d2] }
  | _ => none }
def WeekBackWrongFalsely : Prop := weekBackRow.holds Try.pinned (OpenSpec.ofChange weekBackWrong)

/-- 'swinggatelaw.WeekThursday': WHATEVER THE INPUT: true; the input reads as it did. -/
def weekThursdaySpec : ChangeSpec := { name := "weekThursday", fn := fun _ => fun
  | [d] => { results := [.lit (.bool true)], args := [d] }
  | _ => none }
def weekThursdayRow : OpenClaim := { program := "ytipgnmecahbddaa", sum := "405ae9ec9708aba932906732ea997f16e4679bb4dc9dcfe3a835c7c26026a468", func := "swinggate/swinggatelaw.WeekThursday", spec := "weekThursday", apart := false }
def WeekThursdaySaid : Prop := weekThursdayRow.holds Try.pinned (OpenSpec.ofChange weekThursdaySpec)

/-- ITS FALSE NEIGHBOUR: 'it returns false'. Refute it at one input. -/
def weekThursdayWrong : ChangeSpec := { name := "weekThursday", fn := fun _ => fun
  | [d] => { results := [.lit (.bool false)], args := [d] }
  | _ => none }
def WeekThursdayWrongFalsely : Prop := weekThursdayRow.holds Try.pinned (OpenSpec.ofChange weekThursdayWrong)

/-- 'swinggatelaw.EasterSunday': WHATEVER THE INPUT: true; the input reads as it did. -/
def easterSundaySpec : ChangeSpec := { name := "easterSunday", fn := fun _ => fun
  | [d] => { results := [.lit (.bool true)], args := [d] }
  | _ => none }
def easterSundayRow : OpenClaim := { program := "ytipgnmecahbddaa", sum := "405ae9ec9708aba932906732ea997f16e4679bb4dc9dcfe3a835c7c26026a468", func := "swinggate/swinggatelaw.EasterSunday", spec := "easterSunday", apart := false }
def EasterSundaySaid : Prop := easterSundayRow.holds Try.pinned (OpenSpec.ofChange easterSundaySpec)

/-- ITS FALSE NEIGHBOUR: 'it returns false'. Refute it at one input. -/
def easterSundayWrong : ChangeSpec := { name := "easterSunday", fn := fun _ => fun
  | [d] => { results := [.lit (.bool false)], args := [d] }
  | _ => none }
def EasterSundayWrongFalsely : Prop := easterSundayRow.holds Try.pinned (OpenSpec.ofChange easterSundayWrong)

/- THE SECOND FORM. 'bulk': how many values and letters a reading holds, each counted each time it is reached (what is shared counts as often as it is met; a slice's spare places count too). A statement '..UptoSaid' is the law's where the arguments, and the package variables that the reading takes, are together of bulk at most 1048576: NARROWER than '..Said'. Prove '..Said' where nothing that the law and all that it calls make is longer than what came in: it says more and counts as full. Else prove '..UptoSaid'. A law counts once. -/
mutual
def uptoBulk {H : Type} : DataW H → Nat
  | .lit (.string bytes) => bytes.length + 1
  | .lit _ => 1
  | .nil => 1
  | .ptr d => uptoBulk d + 1
  | .slice elems spare => uptoBulkAll elems + uptoBulkAll spare + 1
  | .agg parts => uptoBulkAll parts + 1
  | .iface _ d => uptoBulk d + 1
  | .map entries => uptoBulkEntries entries + 1
  | .held _ => 1
def uptoBulkAll {H : Type} : List (DataW H) → Nat
  | [] => 0
  | d :: r => uptoBulk d + uptoBulkAll r
def uptoBulkEntries {H : Type} : List (Lit × DataW H) → Nat
  | [] => 0
  | x :: r => uptoBulkEntry x + uptoBulkEntries r
def uptoBulkEntry {H : Type} : Lit × DataW H → Nat
  | (.string bytes, d) => bytes.length + uptoBulk d + 1
  | (_, d) => uptoBulk d + 1
 end
def uptoSmall : (H : Type) → List (DataW H) → Bool := fun _ ds => decide (uptoBulkAll ds ≤ 1048576)
def OpenSpec.upto (s : _root_.Go.ChangeSpec) : _root_.Go.OpenSpec := { _root_.Go.OpenSpec.ofChange s with cond := some uptoSmall }

/-- 'swinggatelaw.EasterTells', WHERE WHAT IT READS IS OF BULK AT MOST 1048576: true; the input reads as it did. -/
def easterTellsUptoRow : OpenClaim := { program := "ytipgnmecahbddaa", sum := "405ae9ec9708aba932906732ea997f16e4679bb4dc9dcfe3a835c7c26026a468", func := "swinggate/swinggatelaw.EasterTells", spec := "easterTells", apart := false, narrowed := true }
def EasterTellsUptoSaid : Prop := easterTellsUptoRow.holds Try.pinned (OpenSpec.upto easterTellsSpec)

/-- 'swinggatelaw.EasterGap', WHERE WHAT IT READS IS OF BULK AT MOST 1048576: true; the input reads as it did. -/
def easterGapUptoRow : OpenClaim := { program := "ytipgnmecahbddaa", sum := "405ae9ec9708aba932906732ea997f16e4679bb4dc9dcfe3a835c7c26026a468", func := "swinggate/swinggatelaw.EasterGap", spec := "easterGap", apart := false, narrowed := true }
def EasterGapUptoSaid : Prop := easterGapUptoRow.holds Try.pinned (OpenSpec.upto easterGapSpec)

/-- 'swinggatelaw.DateTells', WHERE WHAT IT READS IS OF BULK AT MOST 1048576: true; the input reads as it did. -/
def dateTellsUptoRow : OpenClaim := { program := "ytipgnmecahbddaa", sum := "405ae9ec9708aba932906732ea997f16e4679bb4dc9dcfe3a835c7c26026a468", func := "swinggate/swinggatelaw.DateTells", spec := "dateTells", apart := false, narrowed := true }
def DateTellsUptoSaid : Prop := dateTellsUptoRow.holds Try.pinned (OpenSpec.upto dateTellsSpec)

/-- 'swinggatelaw.DateBack', WHERE WHAT IT READS IS OF BULK AT MOST 1048576: true; the input reads as it did. -/
def dateBackUptoRow : OpenClaim := { program := "ytipgnmecahbddaa", sum := "405ae9ec9708aba932906732ea997f16e4679bb4dc9dcfe3a835c7c26026a468", func := "swinggate/swinggatelaw.DateBack", spec := "dateBack", apart := false, narrowed := true }
def DateBackUptoSaid : Prop := dateBackUptoRow.holds Try.pinned (OpenSpec.upto dateBackSpec)

/-- 'swinggatelaw.DateNext', WHERE WHAT IT READS IS OF BULK AT MOST 1048576: true; the input reads as it did. -/
def dateNextUptoRow : OpenClaim := { program := "ytipgnmecahbddaa", sum := "405ae9ec9708aba932906732ea997f16e4679bb4dc9dcfe3a835c7c26026a468", func := "swinggate/swinggatelaw.DateNext", spec := "dateNext", apart := false, narrowed := true }
def DateNextUptoSaid : Prop := dateNextUptoRow.holds Try.pinned (OpenSpec.upto dateNextSpec)

/-- 'swinggatelaw.DateCycle', WHERE WHAT IT READS IS OF BULK AT MOST 1048576: true; the input reads as it did. -/
def dateCycleUptoRow : OpenClaim := { program := "ytipgnmecahbddaa", sum := "405ae9ec9708aba932906732ea997f16e4679bb4dc9dcfe3a835c7c26026a468", func := "swinggate/swinggatelaw.DateCycle", spec := "dateCycle", apart := false, narrowed := true }
def DateCycleUptoSaid : Prop := dateCycleUptoRow.holds Try.pinned (OpenSpec.upto dateCycleSpec)

/-- 'swinggatelaw.WeekTells', WHERE WHAT IT READS IS OF BULK AT MOST 1048576: true; the input reads as it did. -/
def weekTellsUptoRow : OpenClaim := { program := "ytipgnmecahbddaa", sum := "405ae9ec9708aba932906732ea997f16e4679bb4dc9dcfe3a835c7c26026a468", func := "swinggate/swinggatelaw.WeekTells", spec := "weekTells", apart := false, narrowed := true }
def WeekTellsUptoSaid : Prop := weekTellsUptoRow.holds Try.pinned (OpenSpec.upto weekTellsSpec)

/-- 'swinggatelaw.WeekBack', WHERE WHAT IT READS IS OF BULK AT MOST 1048576: true; the input reads as it did. -/
def weekBackUptoRow : OpenClaim := { program := "ytipgnmecahbddaa", sum := "405ae9ec9708aba932906732ea997f16e4679bb4dc9dcfe3a835c7c26026a468", func := "swinggate/swinggatelaw.WeekBack", spec := "weekBack", apart := false, narrowed := true }
def WeekBackUptoSaid : Prop := weekBackUptoRow.holds Try.pinned (OpenSpec.upto weekBackSpec)

/-- 'swinggatelaw.WeekThursday', WHERE WHAT IT READS IS OF BULK AT MOST 1048576: true; the input reads as it did. -/
def weekThursdayUptoRow : OpenClaim := { program := "ytipgnmecahbddaa", sum := "405ae9ec9708aba932906732ea997f16e4679bb4dc9dcfe3a835c7c26026a468", func := "swinggate/swinggatelaw.WeekThursday", spec := "weekThursday", apart := false, narrowed := true }
def WeekThursdayUptoSaid : Prop := weekThursdayUptoRow.holds Try.pinned (OpenSpec.upto weekThursdaySpec)

/-- 'swinggatelaw.EasterSunday', WHERE WHAT IT READS IS OF BULK AT MOST 1048576: true; the input reads as it did. -/
def easterSundayUptoRow : OpenClaim := { program := "ytipgnmecahbddaa", sum := "405ae9ec9708aba932906732ea997f16e4679bb4dc9dcfe3a835c7c26026a468", func := "swinggate/swinggatelaw.EasterSunday", spec := "easterSunday", apart := false, narrowed := true }
def EasterSundayUptoSaid : Prop := easterSundayUptoRow.holds Try.pinned (OpenSpec.upto easterSundaySpec)

end Rows
end Go.Proofs.Ytipgnmecahbddaa
