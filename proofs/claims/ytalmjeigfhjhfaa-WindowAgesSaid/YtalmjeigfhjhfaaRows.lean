/-
  No cell of these rows narrows 'for every input' (looked for: loops, veiled, ifaces, maps, wideKeys, modest, calm, conditions, laid).
  DERIVED. THE GIVEN ROWS OF THIS SEAT. 9 by the template 'for every input the law returns true; each argument reads behind the call as it read before'; 0 by the template 'total and deterministic' (their statements: YtalmjeigfhjhfaaTotals.lean).
  GIVEN WITH THE SEED: the statements are not yours to turn. If you find one false, say at which input.
  Laid BY PROGRAM, IN A SANDBOX (cutbox-rows.mjs): the forced cells as the released guide's own fill.sh prints them over the translation 103723b8b20a11e9… (all of the seat's roots in one cut). By AI agents, Wed Nov 11 2026. No macro, syntax, notation, axiom, sorry.
-/
import Derived.Test.YtalmjeigfhjhfaaChecked
import GoSem.Claim
import GoSem.ClaimJoined
import GoSem.ClaimMapViews
import Derived.JoinedTies
import Derived.KernelRfl
namespace Go.Proofs.Ytalmjeigfhjhfaa
/- THE CELL 'sum', in the pinned program and in every row, IS THE sha256 OF THE DUMP (.gsa) THAT YtalmjeigfhjhfaaProg.lean LOADS. Nothing in Lean hashes anything: it is a label: what it is worth is what the hold of that sum in a sandbox is worth. -/
noncomputable def Try.pinned : Pinned := { name := "ytalmjeigfhjhfaa", sum := "103723b8b20a11e96606090ff27cc24f50972ee117325be06bf311224f1d10d2", checked := Try.checked }
namespace Rows
def none {H : Type} : Left H := { results := [], args := [] }

/-- 'swinggatelaw.PersonTells': WHATEVER THE INPUT: true; the input reads as it did. -/
def personTellsSpec : ChangeSpec := { name := "personTells", fn := fun _ => fun
  | [d1, d2, d3, d4, d5] => { results := [.lit (.bool true)], args := [d1, d2, d3, d4, d5] }
  | _ => none }
def personTellsRow : OpenClaim := { program := "ytalmjeigfhjhfaa", sum := "103723b8b20a11e96606090ff27cc24f50972ee117325be06bf311224f1d10d2", func := "swinggate/swinggatelaw.PersonTells", spec := "personTells", unfollowed := true, recurses := true, apart := false }
def PersonTellsSaid : Prop := personTellsRow.holds Try.pinned (OpenSpec.ofChange personTellsSpec)

/-- ITS FALSE NEIGHBOUR: 'it returns false'. Refute it at one input. -/
def personTellsWrong : ChangeSpec := { name := "personTells", fn := fun _ => fun
  | [d1, d2, d3, d4, d5] => { results := [.lit (.bool false)], args := [d1, d2, d3, d4, d5] }
  | _ => none }
def PersonTellsWrongFalsely : Prop := personTellsRow.holds Try.pinned (OpenSpec.ofChange personTellsWrong)

/-- 'swinggatelaw.AgeTurns': WHATEVER THE INPUT: true; the input reads as it did. -/
def ageTurnsSpec : ChangeSpec := { name := "ageTurns", fn := fun _ => fun
  | [d1, d2, d3] => { results := [.lit (.bool true)], args := [d1, d2, d3] }
  | _ => none }
def ageTurnsRow : OpenClaim := { program := "ytalmjeigfhjhfaa", sum := "103723b8b20a11e96606090ff27cc24f50972ee117325be06bf311224f1d10d2", func := "swinggate/swinggatelaw.AgeTurns", spec := "ageTurns", unfollowed := true, recurses := true, apart := false }
def AgeTurnsSaid : Prop := ageTurnsRow.holds Try.pinned (OpenSpec.ofChange ageTurnsSpec)

/-- ITS FALSE NEIGHBOUR: 'it returns false'. Refute it at one input. -/
def ageTurnsWrong : ChangeSpec := { name := "ageTurns", fn := fun _ => fun
  | [d1, d2, d3] => { results := [.lit (.bool false)], args := [d1, d2, d3] }
  | _ => none }
def AgeTurnsWrongFalsely : Prop := ageTurnsRow.holds Try.pinned (OpenSpec.ofChange ageTurnsWrong)

/-- 'swinggatelaw.AgeOrder': WHATEVER THE INPUT: true; the input reads as it did. -/
def ageOrderSpec : ChangeSpec := { name := "ageOrder", fn := fun _ => fun
  | [d1, d2, d3, d4] => { results := [.lit (.bool true)], args := [d1, d2, d3, d4] }
  | _ => none }
def ageOrderRow : OpenClaim := { program := "ytalmjeigfhjhfaa", sum := "103723b8b20a11e96606090ff27cc24f50972ee117325be06bf311224f1d10d2", func := "swinggate/swinggatelaw.AgeOrder", spec := "ageOrder", unfollowed := true, recurses := true, apart := false }
def AgeOrderSaid : Prop := ageOrderRow.holds Try.pinned (OpenSpec.ofChange ageOrderSpec)

/-- ITS FALSE NEIGHBOUR: 'it returns false'. Refute it at one input. -/
def ageOrderWrong : ChangeSpec := { name := "ageOrder", fn := fun _ => fun
  | [d1, d2, d3, d4] => { results := [.lit (.bool false)], args := [d1, d2, d3, d4] }
  | _ => none }
def AgeOrderWrongFalsely : Prop := ageOrderRow.holds Try.pinned (OpenSpec.ofChange ageOrderWrong)

/-- 'swinggatelaw.WindowAges': WHATEVER THE INPUT: true; the input reads as it did. -/
def windowAgesSpec : ChangeSpec := { name := "windowAges", fn := fun _ => fun
  | [d1, d2, d3, d4] => { results := [.lit (.bool true)], args := [d1, d2, d3, d4] }
  | _ => none }
def windowAgesRow : OpenClaim := { program := "ytalmjeigfhjhfaa", sum := "103723b8b20a11e96606090ff27cc24f50972ee117325be06bf311224f1d10d2", func := "swinggate/swinggatelaw.WindowAges", spec := "windowAges", unfollowed := true, recurses := true, apart := false }
def WindowAgesSaid : Prop := windowAgesRow.holds Try.pinned (OpenSpec.ofChange windowAgesSpec)

/-- ITS FALSE NEIGHBOUR: 'it returns false'. Refute it at one input. -/
def windowAgesWrong : ChangeSpec := { name := "windowAges", fn := fun _ => fun
  | [d1, d2, d3, d4] => { results := [.lit (.bool false)], args := [d1, d2, d3, d4] }
  | _ => none }
def WindowAgesWrongFalsely : Prop := windowAgesRow.holds Try.pinned (OpenSpec.ofChange windowAgesWrong)

/-- 'swinggatelaw.TermTells': WHATEVER THE INPUT: true; the input reads as it did. -/
def termTellsSpec : ChangeSpec := { name := "termTells", fn := fun _ => fun
  | [d1, d2, d3, d4] => { results := [.lit (.bool true)], args := [d1, d2, d3, d4] }
  | _ => none }
def termTellsRow : OpenClaim := { program := "ytalmjeigfhjhfaa", sum := "103723b8b20a11e96606090ff27cc24f50972ee117325be06bf311224f1d10d2", func := "swinggate/swinggatelaw.TermTells", spec := "termTells", unfollowed := true, recurses := true, apart := false }
def TermTellsSaid : Prop := termTellsRow.holds Try.pinned (OpenSpec.ofChange termTellsSpec)

/-- ITS FALSE NEIGHBOUR: 'it returns false'. Refute it at one input. -/
def termTellsWrong : ChangeSpec := { name := "termTells", fn := fun _ => fun
  | [d1, d2, d3, d4] => { results := [.lit (.bool false)], args := [d1, d2, d3, d4] }
  | _ => none }
def TermTellsWrongFalsely : Prop := termTellsRow.holds Try.pinned (OpenSpec.ofChange termTellsWrong)

/-- 'swinggatelaw.TermRises': WHATEVER THE INPUT: true; the input reads as it did. -/
def termRisesSpec : ChangeSpec := { name := "termRises", fn := fun _ => fun
  | [d1, d2, d3, d4, d5] => { results := [.lit (.bool true)], args := [d1, d2, d3, d4, d5] }
  | _ => none }
def termRisesRow : OpenClaim := { program := "ytalmjeigfhjhfaa", sum := "103723b8b20a11e96606090ff27cc24f50972ee117325be06bf311224f1d10d2", func := "swinggate/swinggatelaw.TermRises", spec := "termRises", unfollowed := true, recurses := true, apart := false }
def TermRisesSaid : Prop := termRisesRow.holds Try.pinned (OpenSpec.ofChange termRisesSpec)

/-- ITS FALSE NEIGHBOUR: 'it returns false'. Refute it at one input. -/
def termRisesWrong : ChangeSpec := { name := "termRises", fn := fun _ => fun
  | [d1, d2, d3, d4, d5] => { results := [.lit (.bool false)], args := [d1, d2, d3, d4, d5] }
  | _ => none }
def TermRisesWrongFalsely : Prop := termRisesRow.holds Try.pinned (OpenSpec.ofChange termRisesWrong)

/-- 'swinggatelaw.TermYears': WHATEVER THE INPUT: true; the input reads as it did. -/
def termYearsSpec : ChangeSpec := { name := "termYears", fn := fun _ => fun
  | [d1, d2, d3, d4] => { results := [.lit (.bool true)], args := [d1, d2, d3, d4] }
  | _ => none }
def termYearsRow : OpenClaim := { program := "ytalmjeigfhjhfaa", sum := "103723b8b20a11e96606090ff27cc24f50972ee117325be06bf311224f1d10d2", func := "swinggate/swinggatelaw.TermYears", spec := "termYears", unfollowed := true, recurses := true, apart := false }
def TermYearsSaid : Prop := termYearsRow.holds Try.pinned (OpenSpec.ofChange termYearsSpec)

/-- ITS FALSE NEIGHBOUR: 'it returns false'. Refute it at one input. -/
def termYearsWrong : ChangeSpec := { name := "termYears", fn := fun _ => fun
  | [d1, d2, d3, d4] => { results := [.lit (.bool false)], args := [d1, d2, d3, d4] }
  | _ => none }
def TermYearsWrongFalsely : Prop := termYearsRow.holds Try.pinned (OpenSpec.ofChange termYearsWrong)

/-- 'swinggatelaw.TermDay': WHATEVER THE INPUT: true; the input reads as it did. -/
def termDaySpec : ChangeSpec := { name := "termDay", fn := fun _ => fun
  | [d1, d2, d3] => { results := [.lit (.bool true)], args := [d1, d2, d3] }
  | _ => none }
def termDayRow : OpenClaim := { program := "ytalmjeigfhjhfaa", sum := "103723b8b20a11e96606090ff27cc24f50972ee117325be06bf311224f1d10d2", func := "swinggate/swinggatelaw.TermDay", spec := "termDay", unfollowed := true, recurses := true, apart := false }
def TermDaySaid : Prop := termDayRow.holds Try.pinned (OpenSpec.ofChange termDaySpec)

/-- ITS FALSE NEIGHBOUR: 'it returns false'. Refute it at one input. -/
def termDayWrong : ChangeSpec := { name := "termDay", fn := fun _ => fun
  | [d1, d2, d3] => { results := [.lit (.bool false)], args := [d1, d2, d3] }
  | _ => none }
def TermDayWrongFalsely : Prop := termDayRow.holds Try.pinned (OpenSpec.ofChange termDayWrong)

/-- 'swinggatelaw.TermFinds': WHATEVER THE INPUT: true; the input reads as it did. -/
def termFindsSpec : ChangeSpec := { name := "termFinds", fn := fun _ => fun
  | [d1, d2, d3, d4] => { results := [.lit (.bool true)], args := [d1, d2, d3, d4] }
  | _ => none }
def termFindsRow : OpenClaim := { program := "ytalmjeigfhjhfaa", sum := "103723b8b20a11e96606090ff27cc24f50972ee117325be06bf311224f1d10d2", func := "swinggate/swinggatelaw.TermFinds", spec := "termFinds", unfollowed := true, recurses := true, apart := false }
def TermFindsSaid : Prop := termFindsRow.holds Try.pinned (OpenSpec.ofChange termFindsSpec)

/-- ITS FALSE NEIGHBOUR: 'it returns false'. Refute it at one input. -/
def termFindsWrong : ChangeSpec := { name := "termFinds", fn := fun _ => fun
  | [d1, d2, d3, d4] => { results := [.lit (.bool false)], args := [d1, d2, d3, d4] }
  | _ => none }
def TermFindsWrongFalsely : Prop := termFindsRow.holds Try.pinned (OpenSpec.ofChange termFindsWrong)

/- THE SECOND FORM. 'bulk': how many values and letters a reading holds, each counted each time it is reached (what is shared counts as often as it is met; a slice's spare places count too). A statement '..UptoSaid' is the law's where the arguments, and the package variables that the reading takes, are together of bulk at most 1048576: NARROWER than '..Said'. Prove '..Said' where nothing that the law and all that it calls make is longer than what came in: it says more and counts as full. Else prove '..UptoSaid'. A law counts once. -/
mutual
def uptoBulk {H : Type} : DataW H → Nat
  | .lit (.string bytes) => bytes.length + 1
  | .lit _ => 1
  | .nil => 1
  | .ptr d => uptoBulk d + 1
  | .slice elems spare => uptoBulkAll elems + uptoBulkAll spare + 1
  | .agg parts => uptoBulkAll parts + 1
  | .iface _ d => uptoBulk d + 1
  | .map entries => uptoBulkEntries entries + 1
  | .held _ => 1
def uptoBulkAll {H : Type} : List (DataW H) → Nat
  | [] => 0
  | d :: r => uptoBulk d + uptoBulkAll r
def uptoBulkEntries {H : Type} : List (Lit × DataW H) → Nat
  | [] => 0
  | x :: r => uptoBulkEntry x + uptoBulkEntries r
def uptoBulkEntry {H : Type} : Lit × DataW H → Nat
  | (.string bytes, d) => bytes.length + uptoBulk d + 1
  | (_, d) => uptoBulk d + 1
 end
def uptoSmall : (H : Type) → List (DataW H) → Bool := fun _ ds => decide (uptoBulkAll ds ≤ 1048576)
def OpenSpec.upto (s : _root_.Go.ChangeSpec) : _root_.Go.OpenSpec := { _root_.Go.OpenSpec.ofChange s with cond := some uptoSmall }

/-- 'swinggatelaw.PersonTells', WHERE WHAT IT READS IS OF BULK AT MOST 1048576: true; the input reads as it did. -/
def personTellsUptoRow : OpenClaim := { program := "ytalmjeigfhjhfaa", sum := "103723b8b20a11e96606090ff27cc24f50972ee117325be06bf311224f1d10d2", func := "swinggate/swinggatelaw.PersonTells", spec := "personTells", unfollowed := true, recurses := true, apart := false, narrowed := true }
def PersonTellsUptoSaid : Prop := personTellsUptoRow.holds Try.pinned (OpenSpec.upto personTellsSpec)

/-- 'swinggatelaw.AgeTurns', WHERE WHAT IT READS IS OF BULK AT MOST 1048576: true; the input reads as it did. -/
def ageTurnsUptoRow : OpenClaim := { program := "ytalmjeigfhjhfaa", sum := "103723b8b20a11e96606090ff27cc24f50972ee117325be06bf311224f1d10d2", func := "swinggate/swinggatelaw.AgeTurns", spec := "ageTurns", unfollowed := true, recurses := true, apart := false, narrowed := true }
def AgeTurnsUptoSaid : Prop := ageTurnsUptoRow.holds Try.pinned (OpenSpec.upto ageTurnsSpec)

/-- 'swinggatelaw.AgeOrder', WHERE WHAT IT READS IS OF BULK AT MOST 1048576: true; the input reads as it did. -/
def ageOrderUptoRow : OpenClaim := { program := "ytalmjeigfhjhfaa", sum := "103723b8b20a11e96606090ff27cc24f50972ee117325be06bf311224f1d10d2", func := "swinggate/swinggatelaw.AgeOrder", spec := "ageOrder", unfollowed := true, recurses := true, apart := false, narrowed := true }
def AgeOrderUptoSaid : Prop := ageOrderUptoRow.holds Try.pinned (OpenSpec.upto ageOrderSpec)

/-- 'swinggatelaw.WindowAges', WHERE WHAT IT READS IS OF BULK AT MOST 1048576: true; the input reads as it did. -/
def windowAgesUptoRow : OpenClaim := { program := "ytalmjeigfhjhfaa", sum := "103723b8b20a11e96606090ff27cc24f50972ee117325be06bf311224f1d10d2", func := "swinggate/swinggatelaw.WindowAges", spec := "windowAges", unfollowed := true, recurses := true, apart := false, narrowed := true }
def WindowAgesUptoSaid : Prop := windowAgesUptoRow.holds Try.pinned (OpenSpec.upto windowAgesSpec)

/-- 'swinggatelaw.TermTells', WHERE WHAT IT READS IS OF BULK AT MOST 1048576: true; the input reads as it did. -/
def termTellsUptoRow : OpenClaim := { program := "ytalmjeigfhjhfaa", sum := "103723b8b20a11e96606090ff27cc24f50972ee117325be06bf311224f1d10d2", func := "swinggate/swinggatelaw.TermTells", spec := "termTells", unfollowed := true, recurses := true, apart := false, narrowed := true }
def TermTellsUptoSaid : Prop := termTellsUptoRow.holds Try.pinned (OpenSpec.upto termTellsSpec)

/-- 'swinggatelaw.TermRises', WHERE WHAT IT READS IS OF BULK AT MOST 1048576: true; the input reads as it did. -/
def termRisesUptoRow : OpenClaim := { program := "ytalmjeigfhjhfaa", sum := "103723b8b20a11e96606090ff27cc24f50972ee117325be06bf311224f1d10d2", func := "swinggate/swinggatelaw.TermRises", spec := "termRises", unfollowed := true, recurses := true, apart := false, narrowed := true }
def TermRisesUptoSaid : Prop := termRisesUptoRow.holds Try.pinned (OpenSpec.upto termRisesSpec)

/-- 'swinggatelaw.TermYears', WHERE WHAT IT READS IS OF BULK AT MOST 1048576: true; the input reads as it did. -/
def termYearsUptoRow : OpenClaim := { program := "ytalmjeigfhjhfaa", sum := "103723b8b20a11e96606090ff27cc24f50972ee117325be06bf311224f1d10d2", func := "swinggate/swinggatelaw.TermYears", spec := "termYears", unfollowed := true, recurses := true, apart := false, narrowed := true }
def TermYearsUptoSaid : Prop := termYearsUptoRow.holds Try.pinned (OpenSpec.upto termYearsSpec)

/-- 'swinggatelaw.TermDay', WHERE WHAT IT READS IS OF BULK AT MOST 1048576: true; the input reads as it did. -/
def termDayUptoRow : OpenClaim := { program := "ytalmjeigfhjhfaa", sum := "103723b8b20a11e96606090ff27cc24f50972ee117325be06bf311224f1d10d2", func := "swinggate/swinggatelaw.TermDay", spec := "termDay", unfollowed := true, recurses := true, apart := false, narrowed := true }
def TermDayUptoSaid : Prop := termDayUptoRow.holds Try.pinned (OpenSpec.upto termDaySpec)

/-- 'swinggatelaw.TermFinds', WHERE WHAT IT READS IS OF BULK AT MOST 1048576: true; the input reads as it did. -/
def termFindsUptoRow : OpenClaim := { program := "ytalmjeigfhjhfaa", sum := "103723b8b20a11e96606090ff27cc24f50972ee117325be06bf311224f1d10d2", func := "swinggate/swinggatelaw.TermFinds", spec := "termFinds", unfollowed := true, recurses := true, apart := false, narrowed := true }
def TermFindsUptoSaid : Prop := termFindsUptoRow.holds Try.pinned (OpenSpec.upto termFindsSpec)

end Rows
end Go.Proofs.Ytalmjeigfhjhfaa
