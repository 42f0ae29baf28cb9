/-
  No cell of these rows narrows 'for every input' (looked for: loops, veiled, ifaces, maps, wideKeys, modest, calm, conditions, laid).
  DERIVED. THE GIVEN ROWS OF THIS SEAT. 7 by the template 'for every input the law returns true; each argument reads behind the call as it read before'; 0 by the template 'total and deterministic' (their statements: YtncpgfmamhjekaaTotals.lean).
  GIVEN WITH THE SEED: the statements are not yours to turn. If you find one false, say at which input.
  Laid BY PROGRAM, IN A SANDBOX (cutbox-rows.mjs): the forced cells as the released guide's own fill.sh prints them over the translation 65527064c7366af2… (all of the seat's roots in one cut). By AI agents, Wed Nov 11 2026. No macro, syntax, notation, axiom, sorry.
-/
import Derived.Test.YtncpgfmamhjekaaChecked
import GoSem.Claim
import GoSem.ClaimJoined
import GoSem.ClaimMapViews
import Derived.JoinedTies
import Derived.KernelRfl
namespace Go.Proofs.Ytncpgfmamhjekaa
/- THE CELL 'sum', in the pinned program and in every row, IS THE sha256 OF THE DUMP (.gsa) THAT YtncpgfmamhjekaaProg.lean LOADS. Nothing in Lean hashes anything: it is a label: what it is worth is what the hold of that sum in a sandbox is worth. -/
noncomputable def Try.pinned : Pinned := { name := "ytncpgfmamhjekaa", sum := "65527064c7366af21738ab96b1918aef334c27de61a1baa8e857bb0bb441a0d5", checked := Try.checked }
namespace Rows
def none {H : Type} : Left H := { results := [], args := [] }

/-- 'swinggatelaw.SpansTell': WHATEVER THE INPUT: true; the input reads as it did. -/
def spansTellSpec : ChangeSpec := { name := "spansTell", fn := fun _ => fun
  | [d1, d2] => { results := [.lit (.bool true)], args := [d1, d2] }
  | _ => none }
def spansTellRow : OpenClaim := { program := "ytncpgfmamhjekaa", sum := "65527064c7366af21738ab96b1918aef334c27de61a1baa8e857bb0bb441a0d5", func := "swinggate/swinggatelaw.SpansTell", spec := "spansTell", unfollowed := true, recurses := true, apart := false }
def SpansTellSaid : Prop := spansTellRow.holds Try.pinned (OpenSpec.ofChange spansTellSpec)

/-- ITS FALSE NEIGHBOUR: 'it returns false'. Refute it at one input. -/
def spansTellWrong : ChangeSpec := { name := "spansTell", fn := fun _ => fun
  | [d1, d2] => { results := [.lit (.bool false)], args := [d1, d2] }
  | _ => none }
def SpansTellWrongFalsely : Prop := spansTellRow.holds Try.pinned (OpenSpec.ofChange spansTellWrong)

/-- 'swinggatelaw.SpansBoth': WHATEVER THE INPUT: true; the input reads as it did. -/
def spansBothSpec : ChangeSpec := { name := "spansBoth", fn := fun _ => fun
  | [d1, d2] => { results := [.lit (.bool true)], args := [d1, d2] }
  | _ => none }
def spansBothRow : OpenClaim := { program := "ytncpgfmamhjekaa", sum := "65527064c7366af21738ab96b1918aef334c27de61a1baa8e857bb0bb441a0d5", func := "swinggate/swinggatelaw.SpansBoth", spec := "spansBoth", unfollowed := true, recurses := true, apart := false }
def SpansBothSaid : Prop := spansBothRow.holds Try.pinned (OpenSpec.ofChange spansBothSpec)

/-- ITS FALSE NEIGHBOUR: 'it returns false'. Refute it at one input. -/
def spansBothWrong : ChangeSpec := { name := "spansBoth", fn := fun _ => fun
  | [d1, d2] => { results := [.lit (.bool false)], args := [d1, d2] }
  | _ => none }
def SpansBothWrongFalsely : Prop := spansBothRow.holds Try.pinned (OpenSpec.ofChange spansBothWrong)

/-- 'swinggatelaw.SpansHas': WHATEVER THE INPUT: true; the input reads as it did. -/
def spansHasSpec : ChangeSpec := { name := "spansHas", fn := fun _ => fun
  | [d1, d2, d3] => { results := [.lit (.bool true)], args := [d1, d2, d3] }
  | _ => none }
def spansHasRow : OpenClaim := { program := "ytncpgfmamhjekaa", sum := "65527064c7366af21738ab96b1918aef334c27de61a1baa8e857bb0bb441a0d5", func := "swinggate/swinggatelaw.SpansHas", spec := "spansHas", unfollowed := true, recurses := true, apart := false }
def SpansHasSaid : Prop := spansHasRow.holds Try.pinned (OpenSpec.ofChange spansHasSpec)

/-- ITS FALSE NEIGHBOUR: 'it returns false'. Refute it at one input. -/
def spansHasWrong : ChangeSpec := { name := "spansHas", fn := fun _ => fun
  | [d1, d2, d3] => { results := [.lit (.bool false)], args := [d1, d2, d3] }
  | _ => none }
def SpansHasWrongFalsely : Prop := spansHasRow.holds Try.pinned (OpenSpec.ofChange spansHasWrong)

/-- 'swinggatelaw.SpansAgain': WHATEVER THE INPUT: true; the input reads as it did. -/
def spansAgainSpec : ChangeSpec := { name := "spansAgain", fn := fun _ => fun
  | [d1, d2, d3] => { results := [.lit (.bool true)], args := [d1, d2, d3] }
  | _ => none }
def spansAgainRow : OpenClaim := { program := "ytncpgfmamhjekaa", sum := "65527064c7366af21738ab96b1918aef334c27de61a1baa8e857bb0bb441a0d5", func := "swinggate/swinggatelaw.SpansAgain", spec := "spansAgain", unfollowed := true, recurses := true, apart := false }
def SpansAgainSaid : Prop := spansAgainRow.holds Try.pinned (OpenSpec.ofChange spansAgainSpec)

/-- ITS FALSE NEIGHBOUR: 'it returns false'. Refute it at one input. -/
def spansAgainWrong : ChangeSpec := { name := "spansAgain", fn := fun _ => fun
  | [d1, d2, d3] => { results := [.lit (.bool false)], args := [d1, d2, d3] }
  | _ => none }
def SpansAgainWrongFalsely : Prop := spansAgainRow.holds Try.pinned (OpenSpec.ofChange spansAgainWrong)

/-- 'swinggatelaw.SpansBoole': WHATEVER THE INPUT: true; the input reads as it did. -/
def spansBooleSpec : ChangeSpec := { name := "spansBoole", fn := fun _ => fun
  | [d1, d2, d3] => { results := [.lit (.bool true)], args := [d1, d2, d3] }
  | _ => none }
def spansBooleRow : OpenClaim := { program := "ytncpgfmamhjekaa", sum := "65527064c7366af21738ab96b1918aef334c27de61a1baa8e857bb0bb441a0d5", func := "swinggate/swinggatelaw.SpansBoole", spec := "spansBoole", unfollowed := true, recurses := true, apart := false }
def SpansBooleSaid : Prop := spansBooleRow.holds Try.pinned (OpenSpec.ofChange spansBooleSpec)

/-- ITS FALSE NEIGHBOUR: 'it returns false'. Refute it at one input. -/
def spansBooleWrong : ChangeSpec := { name := "spansBoole", fn := fun _ => fun
  | [d1, d2, d3] => { results := [.lit (.bool false)], args := [d1, d2, d3] }
  | _ => none }
def SpansBooleWrongFalsely : Prop := spansBooleRow.holds Try.pinned (OpenSpec.ofChange spansBooleWrong)

/-- 'swinggatelaw.SpansSize': WHATEVER THE INPUT: true; the input reads as it did. -/
def spansSizeSpec : ChangeSpec := { name := "spansSize", fn := fun _ => fun
  | [d1, d2] => { results := [.lit (.bool true)], args := [d1, d2] }
  | _ => none }
def spansSizeRow : OpenClaim := { program := "ytncpgfmamhjekaa", sum := "65527064c7366af21738ab96b1918aef334c27de61a1baa8e857bb0bb441a0d5", func := "swinggate/swinggatelaw.SpansSize", spec := "spansSize", unfollowed := true, recurses := true, apart := false }
def SpansSizeSaid : Prop := spansSizeRow.holds Try.pinned (OpenSpec.ofChange spansSizeSpec)

/-- ITS FALSE NEIGHBOUR: 'it returns false'. Refute it at one input. -/
def spansSizeWrong : ChangeSpec := { name := "spansSize", fn := fun _ => fun
  | [d1, d2] => { results := [.lit (.bool false)], args := [d1, d2] }
  | _ => none }
def SpansSizeWrongFalsely : Prop := spansSizeRow.holds Try.pinned (OpenSpec.ofChange spansSizeWrong)

/-- 'swinggatelaw.RestSpans': WHATEVER THE INPUT: true; the input reads as it did. -/
def restSpansSpec : ChangeSpec := { name := "restSpans", fn := fun _ => fun
  | [d1, d2] => { results := [.lit (.bool true)], args := [d1, d2] }
  | _ => none }
def restSpansRow : OpenClaim := { program := "ytncpgfmamhjekaa", sum := "65527064c7366af21738ab96b1918aef334c27de61a1baa8e857bb0bb441a0d5", func := "swinggate/swinggatelaw.RestSpans", spec := "restSpans", unfollowed := true, recurses := true, apart := false }
def RestSpansSaid : Prop := restSpansRow.holds Try.pinned (OpenSpec.ofChange restSpansSpec)

/-- ITS FALSE NEIGHBOUR: 'it returns false'. Refute it at one input. -/
def restSpansWrong : ChangeSpec := { name := "restSpans", fn := fun _ => fun
  | [d1, d2] => { results := [.lit (.bool false)], args := [d1, d2] }
  | _ => none }
def RestSpansWrongFalsely : Prop := restSpansRow.holds Try.pinned (OpenSpec.ofChange restSpansWrong)

/- THE SECOND FORM. 'bulk': how many values and letters a reading holds, each counted each time it is reached (what is shared counts as often as it is met; a slice's spare places count too). A statement '..UptoSaid' is the law's where the arguments, and the package variables that the reading takes, are together of bulk at most 1048576: NARROWER than '..Said'. Prove '..Said' where nothing that the law and all that it calls make is longer than what came in: it says more and counts as full. Else prove '..UptoSaid'. A law counts once. -/
mutual
def uptoBulk {H : Type} : DataW H → Nat
  | .lit (.string bytes) => bytes.length + 1
  | .lit _ => 1
  | .nil => 1
  | .ptr d => uptoBulk d + 1
  | .slice elems spare => uptoBulkAll elems + uptoBulkAll spare + 1
  | .agg parts => uptoBulkAll parts + 1
  | .iface _ d => uptoBulk d + 1
  | .map entries => uptoBulkEntries entries + 1
  | .held _ => 1
def uptoBulkAll {H : Type} : List (DataW H) → Nat
  | [] => 0
  | d :: r => uptoBulk d + uptoBulkAll r
def uptoBulkEntries {H : Type} : List (Lit × DataW H) → Nat
  | [] => 0
  | x :: r => uptoBulkEntry x + uptoBulkEntries r
def uptoBulkEntry {H : Type} : Lit × DataW H → Nat
  | (.string bytes, d) => bytes.length + uptoBulk d + 1
  | (_, d) => uptoBulk d + 1
 end
def uptoSmall : (H : Type) → List (DataW H) → Bool := fun _ ds => decide (uptoBulkAll ds ≤ 1048576)
def OpenSpec.upto (s : _root_.Go.ChangeSpec) : _root_.Go.OpenSpec := { _root_.Go.OpenSpec.ofChange s with cond := some uptoSmall }

/-- 'swinggatelaw.SpansTell', WHERE WHAT IT READS IS OF BULK AT MOST 1048576: true; the input reads as it did. -/
def spansTellUptoRow : OpenClaim := { program := "ytncpgfmamhjekaa", sum := "65527064c7366af21738ab96b1918aef334c27de61a1baa8e857bb0bb441a0d5", func := "swinggate/swinggatelaw.SpansTell", spec := "spansTell", unfollowed := true, recurses := true, apart := false, narrowed := true }
def SpansTellUptoSaid : Prop := spansTellUptoRow.holds Try.pinned (OpenSpec.upto spansTellSpec)

/-- 'swinggatelaw.SpansBoth', WHERE WHAT IT READS IS OF BULK AT MOST 1048576: true; the input reads as it did. -/
def spansBothUptoRow : OpenClaim := { program := "ytncpgfmamhjekaa", sum := "65527064c7366af21738ab96b1918aef334c27de61a1baa8e857bb0bb441a0d5", func := "swinggate/swinggatelaw.SpansBoth", spec := "spansBoth", unfollowed := true, recurses := true, apart := false, narrowed := true }
def SpansBothUptoSaid : Prop := spansBothUptoRow.holds Try.pinned (OpenSpec.upto spansBothSpec)

/-- 'swinggatelaw.SpansHas', WHERE WHAT IT READS IS OF BULK AT MOST 1048576: true; the input reads as it did. -/
def spansHasUptoRow : OpenClaim := { program := "ytncpgfmamhjekaa", sum := "65527064c7366af21738ab96b1918aef334c27de61a1baa8e857bb0bb441a0d5", func := "swinggate/swinggatelaw.SpansHas", spec := "spansHas", unfollowed := true, recurses := true, apart := false, narrowed := true }
def SpansHasUptoSaid : Prop := spansHasUptoRow.holds Try.pinned (OpenSpec.upto spansHasSpec)

/-- 'swinggatelaw.SpansAgain', WHERE WHAT IT READS IS OF BULK AT MOST 1048576: true; the input reads as it did. -/
def spansAgainUptoRow : OpenClaim := { program := "ytncpgfmamhjekaa", sum := "65527064c7366af21738ab96b1918aef334c27de61a1baa8e857bb0bb441a0d5", func := "swinggate/swinggatelaw.SpansAgain", spec := "spansAgain", unfollowed := true, recurses := true, apart := false, narrowed := true }
def SpansAgainUptoSaid : Prop := spansAgainUptoRow.holds Try.pinned (OpenSpec.upto spansAgainSpec)

/-- 'swinggatelaw.SpansBoole', WHERE WHAT IT READS IS OF BULK AT MOST 1048576: true; the input reads as it did. -/
def spansBooleUptoRow : OpenClaim := { program := "ytncpgfmamhjekaa", sum := "65527064c7366af21738ab96b1918aef334c27de61a1baa8e857bb0bb441a0d5", func := "swinggate/swinggatelaw.SpansBoole", spec := "spansBoole", unfollowed := true, recurses := true, apart := false, narrowed := true }
def SpansBooleUptoSaid : Prop := spansBooleUptoRow.holds Try.pinned (OpenSpec.upto spansBooleSpec)

/-- 'swinggatelaw.SpansSize', WHERE WHAT IT READS IS OF BULK AT MOST 1048576: true; the input reads as it did. -/
def spansSizeUptoRow : OpenClaim := { program := "ytncpgfmamhjekaa", sum := "65527064c7366af21738ab96b1918aef334c27de61a1baa8e857bb0bb441a0d5", func := "swinggate/swinggatelaw.SpansSize", spec := "spansSize", unfollowed := true, recurses := true, apart := false, narrowed := true }
def SpansSizeUptoSaid : Prop := spansSizeUptoRow.holds Try.pinned (OpenSpec.upto spansSizeSpec)

/-- 'swinggatelaw.RestSpans', WHERE WHAT IT READS IS OF BULK AT MOST 1048576: true; the input reads as it did. -/
def restSpansUptoRow : OpenClaim := { program := "ytncpgfmamhjekaa", sum := "65527064c7366af21738ab96b1918aef334c27de61a1baa8e857bb0bb441a0d5", func := "swinggate/swinggatelaw.RestSpans", spec := "restSpans", unfollowed := true, recurses := true, apart := false, narrowed := true }
def RestSpansUptoSaid : Prop := restSpansUptoRow.holds Try.pinned (OpenSpec.upto restSpansSpec)

end Rows
end Go.Proofs.Ytncpgfmamhjekaa
