/- Slices of spans that the call makes itself, and two of them compared. -/
import Derived.Test.YtalmjeigfhjhfaaProg
import Derived.Test.YtalmjeigfhjhfaaBase2
import Derived.Test.YtalmjeigfhjhfaaRd
import Derived.Maps.AppendAt
import Derived.OwnWalk
set_option linter.unusedVariables false
namespace Go.Proofs.Ytalmjeigfhjhfaa
open Go.RowKit
namespace Sp
def eP (o : Int × Int) : List Value := [.int .i64 o.1, .int .i64 o.2]
theorem eP_at {w : World} {b off : Nat} {xs : List (Int × Int)} (h : ∀ (i : Nat) (h : i < xs.length) (j : Nat) (u : Value), (eP xs[i])[j]? = some u → w.cell? ⟨b, off + (i * 2 + j), none⟩ = some u)
    (i : Nat) (hi : i < xs.length) : w.cell? ⟨b, off + i * 2, none⟩ = some (.int .i64 xs[i].1) ∧ w.cell? ⟨b, off + i * 2 + 1, none⟩ = some (.int .i64 xs[i].2) := ⟨h i hi 0 _ rfl, h i hi 1 _ rfl⟩
abbrev OwnP (w : World) (base : Nat) (v : Value) (xs : List (Int × Int)) : Prop := w.ownsRow base 29 2 v xs.length (xs.flatMap eP)
theorem span_info : (Try.prog.info? 29).map (fun i => (i.zero, i.size, i.bytes)) = some (some (.agg #[.int .i64 0, .int .i64 0]), 2, 16) := by kernel_rfl
theorem flat_len (xs : List (Int × Int)) : (xs.flatMap eP).length = xs.length * 2 := by
  induction xs with
  | nil => rfl
  | cons o xs ih => simp [eP, ih]; omega
theorem flat_at (xs : List (Int × Int)) : ∀ (i : Nat) (h : i < xs.length), (xs.flatMap eP)[i * 2]? = some (.int .i64 xs[i].1) ∧ (xs.flatMap eP)[i * 2 + 1]? = some (.int .i64 xs[i].2) := by
  induction xs with
  | nil => intro i h; simp at h
  | cons o xs ih =>
    intro i h
    match i with
    | 0 => simp [eP]
    | i + 1 =>
      have := ih i (by simpa using h)
      have e1 : (i + 1) * 2 = i * 2 + 2 := by omega
      have e2 : (i + 1) * 2 + 1 = i * 2 + 1 + 2 := by omega
      rw [e2, e1]
      simp only [List.flatMap_cons, eP, List.cons_append, List.nil_append, List.getElem?_cons_succ, List.getElem_cons_succ]
      exact this
theorem OwnP.rd {w : World} {base : Nat} {v : Value} {xs : List (Int × Int)} (h : OwnP w base v xs) : Rd 2 eP w v xs := by
  refine Rd.of_own h rfl (fun i hi j u hu => ?_)
  obtain ⟨h1, h2⟩ := flat_at xs i hi
  match j with
  | 0 => simp [eP] at hu; subst hu; exact ⟨by omega, h1⟩
  | 1 => simp [eP] at hu; subst hu; exact ⟨by omega, h2⟩
  | j + 2 => simp [eP] at hu
theorem rd1 (w : World) (p q : Int) (g : Nat) (hg : g < w.heap.size) (h0 : w.cell? ⟨g, 0, none⟩ = some (.int .i64 p)) (h1 : w.cell? ⟨g, 1, none⟩ = some (.int .i64 q)) : Rd 2 eP w (.slice (some ⟨g, 0, none⟩) 1 1) [(p, q)] := by
  refine ⟨_, _, rfl, Nat.le_refl _, by unfold maxLen; omega, fun _ => ⟨g, 0, rfl, hg, ?_⟩⟩
  intro i hi j u hu
  have : i = 0 := by simpa using hi
  subst this
  match j with
  | 0 => simp [eP] at hu; subst hu; exact h0
  | 1 => simp [eP] at hu; subst hu; exact h1
  | j + 2 => simp [eP] at hu
theorem OwnP.next {w w' : World} {base : Nat} {v : Value} {xs : List (Int × Int)} (h : OwnP w base v xs) (hb : Below w.heap.size w w') : OwnP w' base v xs := by
  obtain ⟨hl, h | ⟨g, cap, cur, h1, h2, h3, h4, h5, h6, h7⟩⟩ := h
  · exact ⟨hl, .inl h⟩
  · refine ⟨hl, .inr ⟨g, cap, cur, h1, h2, ?_, h4, h5, h6, h7⟩⟩
    have hlt : g < w.heap.size := by
      rcases Nat.lt_or_ge g w.heap.size with hlt | hge
      · exact hlt
      · rw [Array.getElem?_eq_none hge] at h3; cases h3
    rw [hb.block g hlt]; exact h3
theorem app_span {ops : Array Oper} {rest : List Oper} {o : Oper} {a : Act} {Q : Exit → Act → World → Prop} {w : World} (hgd : o.guard = none) (s x : Operand)
    (ho : o.op = .call { callee := .builtin .append, args := #[s, x], argTypes := #[41, 41] }) (base : Nat) (v : Value) (xs : List (Int × Int)) (hs : a.eval s = v) (hown : OwnP w base v xs)
    (g c : Nat) (p q : Int) (hx : a.eval x = .slice (some ⟨g, 0, none⟩) 1 c) (hc0 : w.cell? ⟨g, 0, none⟩ = some (.int .i64 p)) (hc1 : w.cell? ⟨g, 1, none⟩ = some (.int .i64 q)) (hn : xs.length ≤ 1000000) (hbase : base ≤ w.heap.size)
    (h : ∀ v' w', OwnP w' base v' (xs ++ [(p, q)]) → Below base w w' → (∀ p : Addr, p.block < w.heap.size → v.ownBlock ≠ some p.block → w'.cell? p = w.cell? p) → wpList Try.prog ops Q rest (a.put o.dst v') w') : wpList Try.prog ops Q (o :: rest) a w := by
  obtain ⟨i0, hi0, hz0, hz1, hz2⟩ := info_parts span_info
  refine wpList_append_own_at w hgd s x _ ho base 29 i0 _ 2 16 Try.underlying41 hi0 hz0 hz1 hz2 rfl (by omega) v xs.length (xs.flatMap eP) hs hown ⟨g, 0, none⟩ 1 c [.int .i64 p, .int .i64 q] hx rfl
    (fun j y hy => ?_) (fun y hy => ?_) (by unfold maxLen; omega) (by omega) hbase ?_
  · match j with
    | 0 => simp at hy; subst hy; rw [Addr.add_zero']; exact hc0
    | 1 =>
      simp at hy; subst hy
      have ha : (⟨g, 0, none⟩ : Addr).add 1 = ⟨g, 1, none⟩ := rfl
      rw [ha]; exact hc1
    | j + 2 => simp at hy
  · simp at hy; rcases hy with rfl | rfl <;> rfl
  · intro v' w' hown' hg _ _
    refine h v' w' ?_ ((Below.refl _ _).grown hg hbase (fun k hk => (hown.lt k hk).1)) (fun p hp hne => World.cell?_of_block (hg.block p.block hp (Ne.symm hne)))
    unfold OwnP
    rw [List.length_append, List.flatMap_append]
    exact hown'
theorem own_nil (w : World) (base : Nat) : OwnP w base (.slice none 0 0) [] := World.ownsRow_nil w base 29 2
end Sp
end Go.Proofs.Ytalmjeigfhjhfaa
