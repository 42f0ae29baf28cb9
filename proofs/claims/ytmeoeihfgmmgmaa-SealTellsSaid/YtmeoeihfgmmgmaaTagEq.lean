/- Two states of four words compared. -/
import Derived.Test.YtmeoeihfgmmgmaaTagOf
import Derived.ChangeKeysEq
import Derived.Laws.StructEq
set_option linter.unusedVariables false
namespace Go.Proofs.Ytmeoeihfgmmgmaa
open Go.RowKit
namespace Tg
theorem wi_inj {x y : W64} (h : wi x = wi y) : x = y := by
  unfold wi at h
  exact BitVec.eq_of_toNat_eq (by omega)
theorem ei {x y : W64} : (wi x == wi y) = decide (x = y) := by
  by_cases h : x = y
  · subst h; simp
  · rw [decide_eq_false h]; exact beq_eq_false_iff_ne.2 (fun e => h (wi_inj e))
theorem eq4 (x y : S) (w : World) : Sem.run Try.prog (binOp .eql 59 (.agg #[.int .u64 (wi x.a), .int .u64 (wi x.b), .int .u64 (wi x.c), .int .u64 (wi x.d)]) (.agg #[.int .u64 (wi y.a), .int .u64 (wi y.b), .int .u64 (wi y.c), .int .u64 (wi y.d)])) w = .ok (.bool (decide (x = y))) w := by
  obtain ⟨i, hi, _⟩ := info_parts u64_info
  have hC : Try.prog.cellsOf 23 = 1 := by kernel_rfl
  have hp : Try.prog.plainKey 23 = true := by kernel_rfl
  have hq := fun (d : Nat) (a b : Int) => run_equalIn_int (P := Try.prog) w d 23 .u64 .u64 a b Try.underlying23
  rw [run_eql_struct, show (10000 : Nat) = 9999 + 1 from rfl, run_equalIn_array w 9999 _ _ Try.underlying59 hi, hC]
  rw [show List.range 4 = [0, 1, 2, 3] from rfl]
  have g0 : ∀ z : S, (part 23 #[.int .u64 (wi z.a), .int .u64 (wi z.b), .int .u64 (wi z.c), .int .u64 (wi z.d)] (0 * 1)).run Try.prog w = .ok (.int .u64 (wi z.a)) w := fun z => run_part_plain w hp rfl
  have g1 : ∀ z : S, (part 23 #[.int .u64 (wi z.a), .int .u64 (wi z.b), .int .u64 (wi z.c), .int .u64 (wi z.d)] (1 * 1)).run Try.prog w = .ok (.int .u64 (wi z.b)) w := fun z => run_part_plain w hp rfl
  have g2 : ∀ z : S, (part 23 #[.int .u64 (wi z.a), .int .u64 (wi z.b), .int .u64 (wi z.c), .int .u64 (wi z.d)] (2 * 1)).run Try.prog w = .ok (.int .u64 (wi z.c)) w := fun z => run_part_plain w hp rfl
  have g3 : ∀ z : S, (part 23 #[.int .u64 (wi z.a), .int .u64 (wi z.b), .int .u64 (wi z.c), .int .u64 (wi z.d)] (3 * 1)).run Try.prog w = .ok (.int .u64 (wi z.d)) w := fun z => run_part_plain w hp rfl
  have hq9 := hq 9998
  simp only [show (9998 : Nat) + 1 = 9999 from rfl] at hq9
  have hx : (x = y) ↔ (x.a = y.a ∧ x.b = y.b ∧ x.c = y.c ∧ x.d = y.d) := by
    constructor
    · intro h; subst h; exact ⟨rfl, rfl, rfl, rfl⟩
    · rintro ⟨h1, h2, h3, h4⟩
      cases x; cases y; simp_all
  by_cases h1 : x.a = y.a
  · by_cases h2 : x.b = y.b
    · by_cases h3 : x.c = y.c
      · by_cases h4 : x.d = y.d
        · rw [decide_eq_true (hx.2 ⟨h1, h2, h3, h4⟩)]
          simp only [Op.eqItems, Sem.run_bind, g0, g1, g2, g3, Result.andThen_ok, hq9, ei, Sem.run_ite, Sem.run_pure, Bool.not_true, Bool.not_false, Bool.false_eq_true, if_false, if_true, decide_eq_true h1, decide_eq_true h2, decide_eq_true h3, decide_eq_true h4]
        · rw [decide_eq_false (fun e => h4 (hx.1 e).2.2.2)]
          simp only [Op.eqItems, Sem.run_bind, g0, g1, g2, g3, Result.andThen_ok, hq9, ei, Sem.run_ite, Sem.run_pure, Bool.not_true, Bool.not_false, Bool.false_eq_true, if_false, if_true, decide_eq_true h1, decide_eq_true h2, decide_eq_true h3, decide_eq_false h4]
      · rw [decide_eq_false (fun e => h3 (hx.1 e).2.2.1)]
        simp only [Op.eqItems, Sem.run_bind, g0, g1, g2, g3, Result.andThen_ok, hq9, ei, Sem.run_ite, Sem.run_pure, Bool.not_true, Bool.not_false, Bool.false_eq_true, if_false, if_true, decide_eq_true h1, decide_eq_true h2, decide_eq_false h3]
    · rw [decide_eq_false (fun e => h2 (hx.1 e).2.1)]
      simp only [Op.eqItems, Sem.run_bind, g0, g1, g2, g3, Result.andThen_ok, hq9, ei, Sem.run_ite, Sem.run_pure, Bool.not_true, Bool.not_false, Bool.false_eq_true, if_false, if_true, decide_eq_true h1, decide_eq_false h2]
  · rw [decide_eq_false (fun e => h1 (hx.1 e).1)]
    simp only [Op.eqItems, Sem.run_bind, g0, g1, g2, g3, Result.andThen_ok, hq9, ei, Sem.run_ite, Sem.run_pure, Bool.not_true, Bool.not_false, Bool.false_eq_true, if_false, if_true, decide_eq_false h1]
end Tg
end Go.Proofs.Ytmeoeihfgmmgmaa
