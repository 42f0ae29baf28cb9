/-
  No cell of these rows narrows 'for every input' (looked for: loops, veiled, ifaces, maps, wideKeys, modest, calm, conditions, laid).
  DERIVED. THE GIVEN ROWS OF THIS SEAT. 5 by the template 'for every input the law returns true; each argument reads behind the call as it read before'; 0 by the template 'total and deterministic' (their statements: YtcffcknnhjjdpaaTotals.lean).
  GIVEN WITH THE SEED: the statements are not yours to turn. If you find one false, say at which input.
  Laid BY PROGRAM, IN A SANDBOX (cutbox-rows.mjs): the forced cells as the released guide's own fill.sh prints them over the translation ff9f2437dd848741… (all of the seat's roots in one cut). By AI agents, Wed Nov 11 2026. No macro, syntax, notation, axiom, sorry.
-/
import Derived.Test.YtcffcknnhjjdpaaChecked
import GoSem.Claim
import GoSem.ClaimJoined
import GoSem.ClaimMapViews
import Derived.JoinedTies
import Derived.KernelRfl
namespace Go.Proofs.Ytcffcknnhjjdpaa
/- THE CELL 'sum', in the pinned program and in every row, IS THE sha256 OF THE DUMP (.gsa) THAT YtcffcknnhjjdpaaProg.lean LOADS. Nothing in Lean hashes anything: it is a label: what it is worth is what the hold of that sum in a sandbox is worth. -/
noncomputable def Try.pinned : Pinned := { name := "ytcffcknnhjjdpaa", sum := "ff9f2437dd848741aaa0fb6699aa02c363fd38f86865d08221c4392270b84611", checked := Try.checked }
namespace Rows
def none {H : Type} : Left H := { results := [], args := [] }

/-- 'swinggatelaw.DammTail': WHATEVER THE INPUT: true; the input reads as it did. -/
def dammTailSpec : ChangeSpec := { name := "dammTail", fn := fun _ => fun
  | [d1, d2] => { results := [.lit (.bool true)], args := [d1, d2] }
  | _ => none }
def dammTailRow : OpenClaim := { program := "ytcffcknnhjjdpaa", sum := "ff9f2437dd848741aaa0fb6699aa02c363fd38f86865d08221c4392270b84611", func := "swinggate/swinggatelaw.DammTail", spec := "dammTail", unfollowed := true, recurses := true, apart := false }
def DammTailSaid : Prop := dammTailRow.holds Try.pinned (OpenSpec.ofChange dammTailSpec)

/-- ITS FALSE NEIGHBOUR: 'it returns false'. Refute it at one input. -/
def dammTailWrong : ChangeSpec := { name := "dammTail", fn := fun _ => fun
  | [d1, d2] => { results := [.lit (.bool false)], args := [d1, d2] }
  | _ => none }
def DammTailWrongFalsely : Prop := dammTailRow.holds Try.pinned (OpenSpec.ofChange dammTailWrong)

/-- 'swinggatelaw.DammOne': WHATEVER THE INPUT: true; the input reads as it did. -/
def dammOneSpec : ChangeSpec := { name := "dammOne", fn := fun _ => fun
  | [d1, d2, d3] => { results := [.lit (.bool true)], args := [d1, d2, d3] }
  | _ => none }
def dammOneRow : OpenClaim := { program := "ytcffcknnhjjdpaa", sum := "ff9f2437dd848741aaa0fb6699aa02c363fd38f86865d08221c4392270b84611", func := "swinggate/swinggatelaw.DammOne", spec := "dammOne", unfollowed := true, recurses := true, apart := false }
def DammOneSaid : Prop := dammOneRow.holds Try.pinned (OpenSpec.ofChange dammOneSpec)

/-- ITS FALSE NEIGHBOUR: 'it returns false'. Refute it at one input. -/
def dammOneWrong : ChangeSpec := { name := "dammOne", fn := fun _ => fun
  | [d1, d2, d3] => { results := [.lit (.bool false)], args := [d1, d2, d3] }
  | _ => none }
def DammOneWrongFalsely : Prop := dammOneRow.holds Try.pinned (OpenSpec.ofChange dammOneWrong)

/-- 'swinggatelaw.DammSwap': WHATEVER THE INPUT: true; the input reads as it did. -/
def dammSwapSpec : ChangeSpec := { name := "dammSwap", fn := fun _ => fun
  | [d1, d2] => { results := [.lit (.bool true)], args := [d1, d2] }
  | _ => none }
def dammSwapRow : OpenClaim := { program := "ytcffcknnhjjdpaa", sum := "ff9f2437dd848741aaa0fb6699aa02c363fd38f86865d08221c4392270b84611", func := "swinggate/swinggatelaw.DammSwap", spec := "dammSwap", unfollowed := true, recurses := true, apart := false }
def DammSwapSaid : Prop := dammSwapRow.holds Try.pinned (OpenSpec.ofChange dammSwapSpec)

/-- ITS FALSE NEIGHBOUR: 'it returns false'. Refute it at one input. -/
def dammSwapWrong : ChangeSpec := { name := "dammSwap", fn := fun _ => fun
  | [d1, d2] => { results := [.lit (.bool false)], args := [d1, d2] }
  | _ => none }
def DammSwapWrongFalsely : Prop := dammSwapRow.holds Try.pinned (OpenSpec.ofChange dammSwapWrong)

/-- 'swinggatelaw.DammTells': WHATEVER THE INPUT: true; the input reads as it did. -/
def dammTellsSpec : ChangeSpec := { name := "dammTells", fn := fun _ => fun
  | [d1, d2, d3] => { results := [.lit (.bool true)], args := [d1, d2, d3] }
  | _ => none }
def dammTellsRow : OpenClaim := { program := "ytcffcknnhjjdpaa", sum := "ff9f2437dd848741aaa0fb6699aa02c363fd38f86865d08221c4392270b84611", func := "swinggate/swinggatelaw.DammTells", spec := "dammTells", unfollowed := true, recurses := true, apart := false }
def DammTellsSaid : Prop := dammTellsRow.holds Try.pinned (OpenSpec.ofChange dammTellsSpec)

/-- ITS FALSE NEIGHBOUR: 'it returns false'. Refute it at one input. -/
def dammTellsWrong : ChangeSpec := { name := "dammTells", fn := fun _ => fun
  | [d1, d2, d3] => { results := [.lit (.bool false)], args := [d1, d2, d3] }
  | _ => none }
def DammTellsWrongFalsely : Prop := dammTellsRow.holds Try.pinned (OpenSpec.ofChange dammTellsWrong)

/-- 'swinggatelaw.DammLatin': WHATEVER THE INPUT: true; the input reads as it did. -/
def dammLatinSpec : ChangeSpec := { name := "dammLatin", fn := fun _ => fun
  | [d1, d2, d3] => { results := [.lit (.bool true)], args := [d1, d2, d3] }
  | _ => none }
def dammLatinRow : OpenClaim := { program := "ytcffcknnhjjdpaa", sum := "ff9f2437dd848741aaa0fb6699aa02c363fd38f86865d08221c4392270b84611", func := "swinggate/swinggatelaw.DammLatin", spec := "dammLatin", unfollowed := true, recurses := true, apart := false }
def DammLatinSaid : Prop := dammLatinRow.holds Try.pinned (OpenSpec.ofChange dammLatinSpec)

/-- ITS FALSE NEIGHBOUR: 'it returns false'. Refute it at one input. -/
def dammLatinWrong : ChangeSpec := { name := "dammLatin", fn := fun _ => fun
  | [d1, d2, d3] => { results := [.lit (.bool false)], args := [d1, d2, d3] }
  | _ => none }
def DammLatinWrongFalsely : Prop := dammLatinRow.holds Try.pinned (OpenSpec.ofChange dammLatinWrong)

/- THE SECOND FORM. 'bulk': how many values and letters a reading holds, each counted each time it is reached (what is shared counts as often as it is met; a slice's spare places count too). A statement '..UptoSaid' is the law's where the arguments, and the package variables that the reading takes, are together of bulk at most 1048576: NARROWER than '..Said'. Prove '..Said' where nothing that the law and all that it calls make is longer than what came in: it says more and counts as full. Else prove '..UptoSaid'. A law counts once. -/
mutual
def uptoBulk {H : Type} : DataW H → Nat
  | .lit (.string bytes) => bytes.length + 1
  | .lit _ => 1
  | .nil => 1
  | .ptr d => uptoBulk d + 1
  | .slice elems spare => uptoBulkAll elems + uptoBulkAll spare + 1
  | .agg parts => uptoBulkAll parts + 1
  | .iface _ d => uptoBulk d + 1
  | .map entries => uptoBulkEntries entries + 1
  | .held _ => 1
def uptoBulkAll {H : Type} : List (DataW H) → Nat
  | [] => 0
  | d :: r => uptoBulk d + uptoBulkAll r
def uptoBulkEntries {H : Type} : List (Lit × DataW H) → Nat
  | [] => 0
  | x :: r => uptoBulkEntry x + uptoBulkEntries r
def uptoBulkEntry {H : Type} : Lit × DataW H → Nat
  | (.string bytes, d) => bytes.length + uptoBulk d + 1
  | (_, d) => uptoBulk d + 1
 end
def uptoSmall : (H : Type) → List (DataW H) → Bool := fun _ ds => decide (uptoBulkAll ds ≤ 1048576)
def OpenSpec.upto (s : _root_.Go.ChangeSpec) : _root_.Go.OpenSpec := { _root_.Go.OpenSpec.ofChange s with cond := some uptoSmall }

/-- 'swinggatelaw.DammTail', WHERE WHAT IT READS IS OF BULK AT MOST 1048576: true; the input reads as it did. -/
def dammTailUptoRow : OpenClaim := { program := "ytcffcknnhjjdpaa", sum := "ff9f2437dd848741aaa0fb6699aa02c363fd38f86865d08221c4392270b84611", func := "swinggate/swinggatelaw.DammTail", spec := "dammTail", unfollowed := true, recurses := true, apart := false, narrowed := true }
def DammTailUptoSaid : Prop := dammTailUptoRow.holds Try.pinned (OpenSpec.upto dammTailSpec)

/-- 'swinggatelaw.DammOne', WHERE WHAT IT READS IS OF BULK AT MOST 1048576: true; the input reads as it did. -/
def dammOneUptoRow : OpenClaim := { program := "ytcffcknnhjjdpaa", sum := "ff9f2437dd848741aaa0fb6699aa02c363fd38f86865d08221c4392270b84611", func := "swinggate/swinggatelaw.DammOne", spec := "dammOne", unfollowed := true, recurses := true, apart := false, narrowed := true }
def DammOneUptoSaid : Prop := dammOneUptoRow.holds Try.pinned (OpenSpec.upto dammOneSpec)

/-- 'swinggatelaw.DammSwap', WHERE WHAT IT READS IS OF BULK AT MOST 1048576: true; the input reads as it did. -/
def dammSwapUptoRow : OpenClaim := { program := "ytcffcknnhjjdpaa", sum := "ff9f2437dd848741aaa0fb6699aa02c363fd38f86865d08221c4392270b84611", func := "swinggate/swinggatelaw.DammSwap", spec := "dammSwap", unfollowed := true, recurses := true, apart := false, narrowed := true }
def DammSwapUptoSaid : Prop := dammSwapUptoRow.holds Try.pinned (OpenSpec.upto dammSwapSpec)

/-- 'swinggatelaw.DammTells', WHERE WHAT IT READS IS OF BULK AT MOST 1048576: true; the input reads as it did. -/
def dammTellsUptoRow : OpenClaim := { program := "ytcffcknnhjjdpaa", sum := "ff9f2437dd848741aaa0fb6699aa02c363fd38f86865d08221c4392270b84611", func := "swinggate/swinggatelaw.DammTells", spec := "dammTells", unfollowed := true, recurses := true, apart := false, narrowed := true }
def DammTellsUptoSaid : Prop := dammTellsUptoRow.holds Try.pinned (OpenSpec.upto dammTellsSpec)

/-- 'swinggatelaw.DammLatin', WHERE WHAT IT READS IS OF BULK AT MOST 1048576: true; the input reads as it did. -/
def dammLatinUptoRow : OpenClaim := { program := "ytcffcknnhjjdpaa", sum := "ff9f2437dd848741aaa0fb6699aa02c363fd38f86865d08221c4392270b84611", func := "swinggate/swinggatelaw.DammLatin", spec := "dammLatin", unfollowed := true, recurses := true, apart := false, narrowed := true }
def DammLatinUptoSaid : Prop := dammLatinUptoRow.holds Try.pinned (OpenSpec.upto dammLatinSpec)

end Rows
end Go.Proofs.Ytcffcknnhjjdpaa
