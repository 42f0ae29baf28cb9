/- The laws on tags: what must be in any case; a round loses nothing. -/
import Derived.Test.YtmeoeihfgmmgmaaTagEq
import Derived.Deep.RegionHeld3
set_option linter.unusedVariables false
namespace Go.Proofs.Ytmeoeihfgmmgmaa
open Go.RowKit
namespace Tg
theorem box4 {w w3 : World} {v : S} {t : TypeId} (hB : Below (w.heap.size + 1) (w.alloc (.cells #[.int .u64 (wi v.a), .int .u64 (wi v.b), .int .u64 (wi v.c), .int .u64 (wi v.d)] t)) w3) : w3.cell? ⟨w.heap.size, 0, none⟩ = some (.int .u64 (wi v.a)) ∧ w3.cell? ⟨w.heap.size, 1, none⟩ = some (.int .u64 (wi v.b)) ∧ w3.cell? ⟨w.heap.size, 2, none⟩ = some (.int .u64 (wi v.c)) ∧ w3.cell? ⟨w.heap.size, 3, none⟩ = some (.int .u64 (wi v.d)) :=
  ⟨boxc hB 0, boxc hB 1, boxc hB 2, boxc hB 3⟩
theorem take_x (v : S) (m : W64) (w : World) : Calls Try.prog 35 #[.agg #[.int .u64 (wi v.a), .int .u64 (wi v.b), .int .u64 (wi v.c), .int .u64 (wi v.d)], .int .u64 (wi m)] w fun e w' => e = .returned (.agg #[.int .u64 (wi (take v m).a), .int .u64 (wi (take v m).b), .int .u64 (wi (take v m).c), .int .u64 (wi (take v m).d)]) ∧ Below w.heap.size w w' := take_any v m w
end Tg
end Go.Proofs.Ytmeoeihfgmmgmaa
