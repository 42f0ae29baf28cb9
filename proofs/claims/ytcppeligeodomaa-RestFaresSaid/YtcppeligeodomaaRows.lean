/-
  No cell of these rows narrows 'for every input' (looked for: loops, veiled, ifaces, maps, wideKeys, modest, calm, conditions, laid).
  DERIVED. THE GIVEN ROWS OF THIS SEAT. 11 by the template 'for every input the law returns true; each argument reads behind the call as it read before'; 0 by the template 'total and deterministic' (their statements: YtcppeligeodomaaTotals.lean).
  GIVEN WITH THE SEED: the statements are not yours to turn. If you find one false, say at which input.
  Laid BY PROGRAM, IN A SANDBOX (cutbox-rows.mjs): the forced cells as the released guide's own fill.sh prints them over the translation 8b4a4401ad6c19ba… (all of the seat's roots in one cut). By AI agents, Wed Nov 11 2026. No macro, syntax, notation, axiom, sorry.
-/
import Derived.Test.YtcppeligeodomaaChecked
import GoSem.Claim
import GoSem.ClaimJoined
import GoSem.ClaimMapViews
import Derived.JoinedTies
import Derived.KernelRfl
namespace Go.Proofs.Ytcppeligeodomaa
/- THE CELL 'sum', in the pinned program and in every row, IS THE sha256 OF THE DUMP (.gsa) THAT YtcppeligeodomaaProg.lean LOADS. Nothing in Lean hashes anything: it is a label: what it is worth is what the hold of that sum in a sandbox is worth. -/
noncomputable def Try.pinned : Pinned := { name := "ytcppeligeodomaa", sum := "8b4a4401ad6c19ba937eb54ac3c9b665050805b2d08e221414207bcfa8df5026", checked := Try.checked }
namespace Rows
def none {H : Type} : Left H := { results := [], args := [] }

/-- 'swinggatelaw.FareTells': WHATEVER THE INPUT: true; the input reads as it did. -/
def fareTellsSpec : ChangeSpec := { name := "fareTells", fn := fun _ => fun
  | [d1, d2, d3, d4, d5] => { results := [.lit (.bool true)], args := [d1, d2, d3, d4, d5] }
  | _ => none }
def fareTellsRow : OpenClaim := { program := "ytcppeligeodomaa", sum := "8b4a4401ad6c19ba937eb54ac3c9b665050805b2d08e221414207bcfa8df5026", func := "swinggate/swinggatelaw.FareTells", spec := "fareTells", unfollowed := true, recurses := true, apart := false }
def FareTellsSaid : Prop := fareTellsRow.holds Try.pinned (OpenSpec.ofChange fareTellsSpec)

/-- ITS FALSE NEIGHBOUR: 'it returns false'. Refute it at one input. -/
def fareTellsWrong : ChangeSpec := { name := "fareTells", fn := fun _ => fun
  | [d1, d2, d3, d4, d5] => { results := [.lit (.bool false)], args := [d1, d2, d3, d4, d5] }
  | _ => none }
def FareTellsWrongFalsely : Prop := fareTellsRow.holds Try.pinned (OpenSpec.ofChange fareTellsWrong)

/-- 'swinggatelaw.MendTells': WHATEVER THE INPUT: true; the input reads as it did. -/
def mendTellsSpec : ChangeSpec := { name := "mendTells", fn := fun _ => fun
  | [d] => { results := [.lit (.bool true)], args := [d] }
  | _ => none }
def mendTellsRow : OpenClaim := { program := "ytcppeligeodomaa", sum := "8b4a4401ad6c19ba937eb54ac3c9b665050805b2d08e221414207bcfa8df5026", func := "swinggate/swinggatelaw.MendTells", spec := "mendTells", unfollowed := true, recurses := true, apart := false }
def MendTellsSaid : Prop := mendTellsRow.holds Try.pinned (OpenSpec.ofChange mendTellsSpec)

/-- ITS FALSE NEIGHBOUR: 'it returns false'. Refute it at one input. -/
def mendTellsWrong : ChangeSpec := { name := "mendTells", fn := fun _ => fun
  | [d] => { results := [.lit (.bool false)], args := [d] }
  | _ => none }
def MendTellsWrongFalsely : Prop := mendTellsRow.holds Try.pinned (OpenSpec.ofChange mendTellsWrong)

/-- 'swinggatelaw.MendFair': WHATEVER THE INPUT: true; the input reads as it did. -/
def mendFairSpec : ChangeSpec := { name := "mendFair", fn := fun _ => fun
  | [d] => { results := [.lit (.bool true)], args := [d] }
  | _ => none }
def mendFairRow : OpenClaim := { program := "ytcppeligeodomaa", sum := "8b4a4401ad6c19ba937eb54ac3c9b665050805b2d08e221414207bcfa8df5026", func := "swinggate/swinggatelaw.MendFair", spec := "mendFair", unfollowed := true, recurses := true, apart := false }
def MendFairSaid : Prop := mendFairRow.holds Try.pinned (OpenSpec.ofChange mendFairSpec)

/-- ITS FALSE NEIGHBOUR: 'it returns false'. Refute it at one input. -/
def mendFairWrong : ChangeSpec := { name := "mendFair", fn := fun _ => fun
  | [d] => { results := [.lit (.bool false)], args := [d] }
  | _ => none }
def MendFairWrongFalsely : Prop := mendFairRow.holds Try.pinned (OpenSpec.ofChange mendFairWrong)

/-- 'swinggatelaw.MendGreatest': WHATEVER THE INPUT: true; the input reads as it did. -/
def mendGreatestSpec : ChangeSpec := { name := "mendGreatest", fn := fun _ => fun
  | [d1, d2] => { results := [.lit (.bool true)], args := [d1, d2] }
  | _ => none }
def mendGreatestRow : OpenClaim := { program := "ytcppeligeodomaa", sum := "8b4a4401ad6c19ba937eb54ac3c9b665050805b2d08e221414207bcfa8df5026", func := "swinggate/swinggatelaw.MendGreatest", spec := "mendGreatest", unfollowed := true, recurses := true, apart := false }
def MendGreatestSaid : Prop := mendGreatestRow.holds Try.pinned (OpenSpec.ofChange mendGreatestSpec)

/-- ITS FALSE NEIGHBOUR: 'it returns false'. Refute it at one input. -/
def mendGreatestWrong : ChangeSpec := { name := "mendGreatest", fn := fun _ => fun
  | [d1, d2] => { results := [.lit (.bool false)], args := [d1, d2] }
  | _ => none }
def MendGreatestWrongFalsely : Prop := mendGreatestRow.holds Try.pinned (OpenSpec.ofChange mendGreatestWrong)

/-- 'swinggatelaw.FareRises': WHATEVER THE INPUT: true; the input reads as it did. -/
def fareRisesSpec : ChangeSpec := { name := "fareRises", fn := fun _ => fun
  | [d1, d2, d3, d4, d5, d6, d7, d8] => { results := [.lit (.bool true)], args := [d1, d2, d3, d4, d5, d6, d7, d8] }
  | _ => none }
def fareRisesRow : OpenClaim := { program := "ytcppeligeodomaa", sum := "8b4a4401ad6c19ba937eb54ac3c9b665050805b2d08e221414207bcfa8df5026", func := "swinggate/swinggatelaw.FareRises", spec := "fareRises", unfollowed := true, recurses := true, apart := false }
def FareRisesSaid : Prop := fareRisesRow.holds Try.pinned (OpenSpec.ofChange fareRisesSpec)

/-- ITS FALSE NEIGHBOUR: 'it returns false'. Refute it at one input. -/
def fareRisesWrong : ChangeSpec := { name := "fareRises", fn := fun _ => fun
  | [d1, d2, d3, d4, d5, d6, d7, d8] => { results := [.lit (.bool false)], args := [d1, d2, d3, d4, d5, d6, d7, d8] }
  | _ => none }
def FareRisesWrongFalsely : Prop := fareRisesRow.holds Try.pinned (OpenSpec.ofChange fareRisesWrong)

/-- 'swinggatelaw.RestFares': WHATEVER THE INPUT: true; the input reads as it did. -/
def restFaresSpec : ChangeSpec := { name := "restFares", fn := fun _ => fun
  | [d] => { results := [.lit (.bool true)], args := [d] }
  | _ => none }
def restFaresRow : OpenClaim := { program := "ytcppeligeodomaa", sum := "8b4a4401ad6c19ba937eb54ac3c9b665050805b2d08e221414207bcfa8df5026", func := "swinggate/swinggatelaw.RestFares", spec := "restFares", unfollowed := true, recurses := true, apart := false }
def RestFaresSaid : Prop := restFaresRow.holds Try.pinned (OpenSpec.ofChange restFaresSpec)

/-- ITS FALSE NEIGHBOUR: 'it returns false'. Refute it at one input. -/
def restFaresWrong : ChangeSpec := { name := "restFares", fn := fun _ => fun
  | [d] => { results := [.lit (.bool false)], args := [d] }
  | _ => none }
def RestFaresWrongFalsely : Prop := restFaresRow.holds Try.pinned (OpenSpec.ofChange restFaresWrong)

/-- 'swinggatelaw.LedgerTells': WHATEVER THE INPUT: true; the input reads as it did. -/
def ledgerTellsSpec : ChangeSpec := { name := "ledgerTells", fn := fun _ => fun
  | [d1, d2, d3, d4, d5] => { results := [.lit (.bool true)], args := [d1, d2, d3, d4, d5] }
  | _ => none }
def ledgerTellsRow : OpenClaim := { program := "ytcppeligeodomaa", sum := "8b4a4401ad6c19ba937eb54ac3c9b665050805b2d08e221414207bcfa8df5026", func := "swinggate/swinggatelaw.LedgerTells", spec := "ledgerTells", unfollowed := true, recurses := true, apart := false }
def LedgerTellsSaid : Prop := ledgerTellsRow.holds Try.pinned (OpenSpec.ofChange ledgerTellsSpec)

/-- ITS FALSE NEIGHBOUR: 'it returns false'. Refute it at one input. -/
def ledgerTellsWrong : ChangeSpec := { name := "ledgerTells", fn := fun _ => fun
  | [d1, d2, d3, d4, d5] => { results := [.lit (.bool false)], args := [d1, d2, d3, d4, d5] }
  | _ => none }
def LedgerTellsWrongFalsely : Prop := ledgerTellsRow.holds Try.pinned (OpenSpec.ofChange ledgerTellsWrong)

/-- 'swinggatelaw.LedgerZero': WHATEVER THE INPUT: true; the input reads as it did. -/
def ledgerZeroSpec : ChangeSpec := { name := "ledgerZero", fn := fun _ => fun
  | [d] => { results := [.lit (.bool true)], args := [d] }
  | _ => none }
def ledgerZeroRow : OpenClaim := { program := "ytcppeligeodomaa", sum := "8b4a4401ad6c19ba937eb54ac3c9b665050805b2d08e221414207bcfa8df5026", func := "swinggate/swinggatelaw.LedgerZero", spec := "ledgerZero", unfollowed := true, recurses := true, apart := false }
def LedgerZeroSaid : Prop := ledgerZeroRow.holds Try.pinned (OpenSpec.ofChange ledgerZeroSpec)

/-- ITS FALSE NEIGHBOUR: 'it returns false'. Refute it at one input. -/
def ledgerZeroWrong : ChangeSpec := { name := "ledgerZero", fn := fun _ => fun
  | [d] => { results := [.lit (.bool false)], args := [d] }
  | _ => none }
def LedgerZeroWrongFalsely : Prop := ledgerZeroRow.holds Try.pinned (OpenSpec.ofChange ledgerZeroWrong)

/-- 'swinggatelaw.LedgerOnce': WHATEVER THE INPUT: true; the input reads as it did. -/
def ledgerOnceSpec : ChangeSpec := { name := "ledgerOnce", fn := fun _ => fun
  | [d1, d2, d3] => { results := [.lit (.bool true)], args := [d1, d2, d3] }
  | _ => none }
def ledgerOnceRow : OpenClaim := { program := "ytcppeligeodomaa", sum := "8b4a4401ad6c19ba937eb54ac3c9b665050805b2d08e221414207bcfa8df5026", func := "swinggate/swinggatelaw.LedgerOnce", spec := "ledgerOnce", unfollowed := true, recurses := true, apart := false }
def LedgerOnceSaid : Prop := ledgerOnceRow.holds Try.pinned (OpenSpec.ofChange ledgerOnceSpec)

/-- ITS FALSE NEIGHBOUR: 'it returns false'. Refute it at one input. -/
def ledgerOnceWrong : ChangeSpec := { name := "ledgerOnce", fn := fun _ => fun
  | [d1, d2, d3] => { results := [.lit (.bool false)], args := [d1, d2, d3] }
  | _ => none }
def LedgerOnceWrongFalsely : Prop := ledgerOnceRow.holds Try.pinned (OpenSpec.ofChange ledgerOnceWrong)

/-- 'swinggatelaw.LedgerOrder': WHATEVER THE INPUT: true; the input reads as it did. -/
def ledgerOrderSpec : ChangeSpec := { name := "ledgerOrder", fn := fun _ => fun
  | [d1, d2] => { results := [.lit (.bool true)], args := [d1, d2] }
  | _ => none }
def ledgerOrderRow : OpenClaim := { program := "ytcppeligeodomaa", sum := "8b4a4401ad6c19ba937eb54ac3c9b665050805b2d08e221414207bcfa8df5026", func := "swinggate/swinggatelaw.LedgerOrder", spec := "ledgerOrder", unfollowed := true, recurses := true, apart := false }
def LedgerOrderSaid : Prop := ledgerOrderRow.holds Try.pinned (OpenSpec.ofChange ledgerOrderSpec)

/-- ITS FALSE NEIGHBOUR: 'it returns false'. Refute it at one input. -/
def ledgerOrderWrong : ChangeSpec := { name := "ledgerOrder", fn := fun _ => fun
  | [d1, d2] => { results := [.lit (.bool false)], args := [d1, d2] }
  | _ => none }
def LedgerOrderWrongFalsely : Prop := ledgerOrderRow.holds Try.pinned (OpenSpec.ofChange ledgerOrderWrong)

/-- 'swinggatelaw.LedgerReverse': WHATEVER THE INPUT: true; the input reads as it did. -/
def ledgerReverseSpec : ChangeSpec := { name := "ledgerReverse", fn := fun _ => fun
  | [d1, d2, d3, d4, d5] => { results := [.lit (.bool true)], args := [d1, d2, d3, d4, d5] }
  | _ => none }
def ledgerReverseRow : OpenClaim := { program := "ytcppeligeodomaa", sum := "8b4a4401ad6c19ba937eb54ac3c9b665050805b2d08e221414207bcfa8df5026", func := "swinggate/swinggatelaw.LedgerReverse", spec := "ledgerReverse", unfollowed := true, recurses := true, apart := false }
def LedgerReverseSaid : Prop := ledgerReverseRow.holds Try.pinned (OpenSpec.ofChange ledgerReverseSpec)

/-- ITS FALSE NEIGHBOUR: 'it returns false'. Refute it at one input. -/
def ledgerReverseWrong : ChangeSpec := { name := "ledgerReverse", fn := fun _ => fun
  | [d1, d2, d3, d4, d5] => { results := [.lit (.bool false)], args := [d1, d2, d3, d4, d5] }
  | _ => none }
def LedgerReverseWrongFalsely : Prop := ledgerReverseRow.holds Try.pinned (OpenSpec.ofChange ledgerReverseWrong)

/- THE SECOND FORM. 'bulk': how many values and letters a reading holds, each counted each time it is reached (what is shared counts as often as it is met; a slice's spare places count too). A statement '..UptoSaid' is the law's where the arguments, and the package variables that the reading takes, are together of bulk at most 1048576: NARROWER than '..Said'. Prove '..Said' where nothing that the law and all that it calls make is longer than what came in: it says more and counts as full. Else prove '..UptoSaid'. A law counts once. -/
mutual
def uptoBulk {H : Type} : DataW H → Nat
  | .lit (.string bytes) => bytes.length + 1
  | .lit _ => 1
  | .nil => 1
  | .ptr d => uptoBulk d + 1
  | .slice elems spare => uptoBulkAll elems + uptoBulkAll spare + 1
  | .agg parts => uptoBulkAll parts + 1
  | .iface _ d => uptoBulk d + 1
  | .map entries => uptoBulkEntries entries + 1
  | .held _ => 1
def uptoBulkAll {H : Type} : List (DataW H) → Nat
  | [] => 0
  | d :: r => uptoBulk d + uptoBulkAll r
def uptoBulkEntries {H : Type} : List (Lit × DataW H) → Nat
  | [] => 0
  | x :: r => uptoBulkEntry x + uptoBulkEntries r
def uptoBulkEntry {H : Type} : Lit × DataW H → Nat
  | (.string bytes, d) => bytes.length + uptoBulk d + 1
  | (_, d) => uptoBulk d + 1
 end
def uptoSmall : (H : Type) → List (DataW H) → Bool := fun _ ds => decide (uptoBulkAll ds ≤ 1048576)
def OpenSpec.upto (s : _root_.Go.ChangeSpec) : _root_.Go.OpenSpec := { _root_.Go.OpenSpec.ofChange s with cond := some uptoSmall }

/-- 'swinggatelaw.FareTells', WHERE WHAT IT READS IS OF BULK AT MOST 1048576: true; the input reads as it did. -/
def fareTellsUptoRow : OpenClaim := { program := "ytcppeligeodomaa", sum := "8b4a4401ad6c19ba937eb54ac3c9b665050805b2d08e221414207bcfa8df5026", func := "swinggate/swinggatelaw.FareTells", spec := "fareTells", unfollowed := true, recurses := true, apart := false, narrowed := true }
def FareTellsUptoSaid : Prop := fareTellsUptoRow.holds Try.pinned (OpenSpec.upto fareTellsSpec)

/-- 'swinggatelaw.MendTells', WHERE WHAT IT READS IS OF BULK AT MOST 1048576: true; the input reads as it did. -/
def mendTellsUptoRow : OpenClaim := { program := "ytcppeligeodomaa", sum := "8b4a4401ad6c19ba937eb54ac3c9b665050805b2d08e221414207bcfa8df5026", func := "swinggate/swinggatelaw.MendTells", spec := "mendTells", unfollowed := true, recurses := true, apart := false, narrowed := true }
def MendTellsUptoSaid : Prop := mendTellsUptoRow.holds Try.pinned (OpenSpec.upto mendTellsSpec)

/-- 'swinggatelaw.MendFair', WHERE WHAT IT READS IS OF BULK AT MOST 1048576: true; the input reads as it did. -/
def mendFairUptoRow : OpenClaim := { program := "ytcppeligeodomaa", sum := "8b4a4401ad6c19ba937eb54ac3c9b665050805b2d08e221414207bcfa8df5026", func := "swinggate/swinggatelaw.MendFair", spec := "mendFair", unfollowed := true, recurses := true, apart := false, narrowed := true }
def MendFairUptoSaid : Prop := mendFairUptoRow.holds Try.pinned (OpenSpec.upto mendFairSpec)

/-- 'swinggatelaw.MendGreatest', WHERE WHAT IT READS IS OF BULK AT MOST 1048576: true; the input reads as it did. -/
def mendGreatestUptoRow : OpenClaim := { program := "ytcppeligeodomaa", sum := "8b4a4401ad6c19ba937eb54ac3c9b665050805b2d08e221414207bcfa8df5026", func := "swinggate/swinggatelaw.MendGreatest", spec := "mendGreatest", unfollowed := true, recurses := true, apart := false, narrowed := true }
def MendGreatestUptoSaid : Prop := mendGreatestUptoRow.holds Try.pinned (OpenSpec.upto mendGreatestSpec)

/-- 'swinggatelaw.FareRises', WHERE WHAT IT READS IS OF BULK AT MOST 1048576: true; the input reads as it did. -/
def fareRisesUptoRow : OpenClaim := { program := "ytcppeligeodomaa", sum := "8b4a4401ad6c19ba937eb54ac3c9b665050805b2d08e221414207bcfa8df5026", func := "swinggate/swinggatelaw.FareRises", spec := "fareRises", unfollowed := true, recurses := true, apart := false, narrowed := true }
def FareRisesUptoSaid : Prop := fareRisesUptoRow.holds Try.pinned (OpenSpec.upto fareRisesSpec)

/-- 'swinggatelaw.RestFares', WHERE WHAT IT READS IS OF BULK AT MOST 1048576: true; the input reads as it did. -/
def restFaresUptoRow : OpenClaim := { program := "ytcppeligeodomaa", sum := "8b4a4401ad6c19ba937eb54ac3c9b665050805b2d08e221414207bcfa8df5026", func := "swinggate/swinggatelaw.RestFares", spec := "restFares", unfollowed := true, recurses := true, apart := false, narrowed := true }
def RestFaresUptoSaid : Prop := restFaresUptoRow.holds Try.pinned (OpenSpec.upto restFaresSpec)

/-- 'swinggatelaw.LedgerTells', WHERE WHAT IT READS IS OF BULK AT MOST 1048576: true; the input reads as it did. -/
def ledgerTellsUptoRow : OpenClaim := { program := "ytcppeligeodomaa", sum := "8b4a4401ad6c19ba937eb54ac3c9b665050805b2d08e221414207bcfa8df5026", func := "swinggate/swinggatelaw.LedgerTells", spec := "ledgerTells", unfollowed := true, recurses := true, apart := false, narrowed := true }
def LedgerTellsUptoSaid : Prop := ledgerTellsUptoRow.holds Try.pinned (OpenSpec.upto ledgerTellsSpec)

/-- 'swinggatelaw.LedgerZero', WHERE WHAT IT READS IS OF BULK AT MOST 1048576: true; the input reads as it did. -/
def ledgerZeroUptoRow : OpenClaim := { program := "ytcppeligeodomaa", sum := "8b4a4401ad6c19ba937eb54ac3c9b665050805b2d08e221414207bcfa8df5026", func := "swinggate/swinggatelaw.LedgerZero", spec := "ledgerZero", unfollowed := true, recurses := true, apart := false, narrowed := true }
def LedgerZeroUptoSaid : Prop := ledgerZeroUptoRow.holds Try.pinned (OpenSpec.upto ledgerZeroSpec)

/-- 'swinggatelaw.LedgerOnce', WHERE WHAT IT READS IS OF BULK AT MOST 1048576: true; the input reads as it did. -/
def ledgerOnceUptoRow : OpenClaim := { program := "ytcppeligeodomaa", sum := "8b4a4401ad6c19ba937eb54ac3c9b665050805b2d08e221414207bcfa8df5026", func := "swinggate/swinggatelaw.LedgerOnce", spec := "ledgerOnce", unfollowed := true, recurses := true, apart := false, narrowed := true }
def LedgerOnceUptoSaid : Prop := ledgerOnceUptoRow.holds Try.pinned (OpenSpec.upto ledgerOnceSpec)

/-- 'swinggatelaw.LedgerOrder', WHERE WHAT IT READS IS OF BULK AT MOST 1048576: true; the input reads as it did. -/
def ledgerOrderUptoRow : OpenClaim := { program := "ytcppeligeodomaa", sum := "8b4a4401ad6c19ba937eb54ac3c9b665050805b2d08e221414207bcfa8df5026", func := "swinggate/swinggatelaw.LedgerOrder", spec := "ledgerOrder", unfollowed := true, recurses := true, apart := false, narrowed := true }
def LedgerOrderUptoSaid : Prop := ledgerOrderUptoRow.holds Try.pinned (OpenSpec.upto ledgerOrderSpec)

/-- 'swinggatelaw.LedgerReverse', WHERE WHAT IT READS IS OF BULK AT MOST 1048576: true; the input reads as it did. -/
def ledgerReverseUptoRow : OpenClaim := { program := "ytcppeligeodomaa", sum := "8b4a4401ad6c19ba937eb54ac3c9b665050805b2d08e221414207bcfa8df5026", func := "swinggate/swinggatelaw.LedgerReverse", spec := "ledgerReverse", unfollowed := true, recurses := true, apart := false, narrowed := true }
def LedgerReverseUptoSaid : Prop := ledgerReverseUptoRow.holds Try.pinned (OpenSpec.upto ledgerReverseSpec)

end Rows
end Go.Proofs.Ytcppeligeodomaa
