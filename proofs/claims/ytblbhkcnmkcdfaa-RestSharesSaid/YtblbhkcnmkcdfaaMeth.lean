/- A method of a value, called on an interface value that holds a pointer to it. -/
import Derived.Test.YtblbhkcnmkcdfaaProg
import Derived.Test.YtblbhkcnmkcdfaaBase2
set_option linter.unusedSimpArgs false
set_option linter.unusedVariables false
namespace Go.Proofs.Ytblbhkcnmkcdfaa
open Go.RowKit
theorem chk_of {P : Program} (t : TypeId) (a : Addr) (x y : String) (w : World) : (Builtin.ssaWrapNilChk_ #[t] t #[.pointer (some a), strVal x, strVal y]).run P w = .ok (.pointer (some a)) w := rfl
theorem meth_of {P : Program} {t elem : TypeId} {name : String} {f : FuncId} (fuel : Nat) (hx : ((P.info? t).bind fun i => (i.methods.find? (·.name == name)).map fun m => (m.path, m.func)) = some (#[], some (f, false))) (hu : P.underlying t = some (.pointer elem))
    (a : Addr) (w : World) (v : Value) (hl : (loadVar elem a).run P w = .ok v w) : (method (fuel + 1) t (.pointer (some a)) name).run P w = .ok (f, v) w := by
  obtain ⟨i, hi, h2⟩ := Option.bind_eq_some_iff.1 hx
  obtain ⟨m, hm, h3⟩ := Option.map_eq_some_iff.1 h2
  injection h3 with hp hf
  simp [method, typeInfo, hi, hm, hp, follow, hf, receiverAt, run_underlying hu, Place.get, asAddr, hl, Result.andThen, chk_of]
theorem ahead_of {P : Program} {t elem : TypeId} {name : String} {f : FuncId} (fuel : Nat) (hx : ((P.info? t).bind fun i => (i.methods.find? (·.name == name)).map fun m => (m.path, m.func)) = some (#[], some (f, false))) (hu : P.underlying t = some (.pointer elem))
    (a : Addr) (w : World) : (nilAhead (fuel + 1) t (.pointer (some a)) name).run P w = .ok (some false) w := by
  obtain ⟨i, hi, h2⟩ := Option.bind_eq_some_iff.1 hx
  obtain ⟨m, hm, h3⟩ := Option.map_eq_some_iff.1 h2
  injection h3 with hp hf
  simp [nilAhead, typeInfo, hi, hm, hp, followBlind, hf, run_underlying hu, Result.andThen]
theorem load_one {P : Program} {t : TypeId} {d : TypeDesc} (hu : P.underlying t = some d) (ha : (isAgg t).run P = fun w => .ok false w) (a : Addr) (w : World) (v : Value) (hc : w.cell? a = some v) : (loadVar t a).run P w = .ok v w := by
  simp [loadVar, Sem.run_bind, ha, hc, Result.andThen]
end Go.Proofs.Ytblbhkcnmkcdfaa
