/- Small lemmas that all texts of this seat use. -/
import Derived.Below
import Derived.WalkKit
import Derived.Deep.QuietTactic
set_option linter.unusedSimpArgs false
set_option linter.unusedVariables false
namespace Go.Proofs.YtkanlfgomfibdaaDoor
open Go.RowKit
theorem bt {a b c : World} (h1 : Below a.heap.size a b) (h2 : Below b.heap.size b c) : Below a.heap.size a c := h1.trans (h2.mono h1.size)
theorem bd {a b c : World} (h1 : Below a.heap.size a b) (h2 : Below b.drew.heap.size b.drew c) : Below a.heap.size a c := bt h1.drew h2
theorem bn {a b : World} (h1 : Below a.heap.size a b) (n : Nat) : Below a.heap.size a (b.drewN n) := ⟨h1.os, h1.tape, h1.output, h1.size, h1.block⟩
theorem wf_u8 {a : Int} (h : (Lit.int .u8 a).wf = true) : 0 ≤ a ∧ a < 256 := by simp [Lit.wf, IntKind.min, IntKind.max, IntKind.signed, IntKind.bits] at h; omega
theorem wf_i64 {a : Int} (h : (Lit.int .i64 a).wf = true) : -9223372036854775808 ≤ a ∧ a ≤ 9223372036854775807 := by simp [Lit.wf, IntKind.min, IntKind.max, IntKind.signed, IntKind.bits] at h; omega
theorem wf_u64 {a : Int} (h : (Lit.int .u64 a).wf = true) : 0 ≤ a ∧ a ≤ 18446744073709551615 := by simp [Lit.wf, IntKind.min, IntKind.max, IntKind.signed, IntKind.bits] at h; omega
theorem br (w : World) : Below w.heap.size w w := Below.refl _ _
theorem ret_int {k : IntKind} {a b : Int} (h : a = b) : Ending.returned (.int k a) = .returned (.int k b) := by rw [h]
end Go.Proofs.YtkanlfgomfibdaaDoor
