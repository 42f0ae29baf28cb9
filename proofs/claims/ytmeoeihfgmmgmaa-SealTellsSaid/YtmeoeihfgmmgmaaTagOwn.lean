/- Slices of words that the call makes itself; two slices of words compared. -/
import Derived.Test.YtmeoeihfgmmgmaaTagBits
import Derived.Maps.AppendAt
import Derived.OwnWalk
import Derived.Deep.LoopGhost
set_option linter.unusedVariables false
namespace Go.Proofs.Ytmeoeihfgmmgmaa
open Go.RowKit
namespace Tg
def eU (n : Int) : List Value := [.int .u64 n]
theorem eU_at {w : World} {b off : Nat} {xs : List Int} (h : ∀ (i : Nat) (h : i < xs.length) (j : Nat) (u : Value), (eU xs[i])[j]? = some u → w.cell? ⟨b, off + (i * 1 + j), none⟩ = some u)
    (i : Nat) (hi : i < xs.length) : w.cell? ⟨b, off + i, none⟩ = some (.int .u64 xs[i]) := by
  have := h i hi 0 _ rfl
  simpa using this
theorem Wd.rd {w : World} {v : Value} {l : List W64} (h : Wd w v l) : Rd 1 eU w v (l.map wi) := by
  obtain ⟨g, rfl, h1, h2, h3⟩ := h
  refine ⟨some ⟨g, 0, none⟩, l.length, by simp, by simp, by unfold maxLen; omega, fun hn => ⟨g, 0, rfl, h1, ?_⟩⟩
  intro i hi j u hu
  have hi' : i < l.length := by simpa using hi
  match j with
  | 0 => simp [eU] at hu; subst hu; simpa using h3 i hi'
  | j + 1 => simp [eU] at hu
abbrev OwnU (w : World) (base : Nat) (v : Value) (xs : List Int) : Prop := w.ownsRow base 23 1 v xs.length (xs.map (Value.int .u64))
theorem own_nilU (w : World) (base : Nat) : OwnU w base (.slice none 0 0) [] := World.ownsRow_nil w base 23 1
theorem app_u {ops : Array Oper} {rest : List Oper} {o : Oper} {a : Act} {Q : Exit → Act → World → Prop} {w : World} (hgd : o.guard = none) (s x : Operand)
    (ho : o.op = .call { callee := .builtin .append, args := #[s, x], argTypes := #[61, 61] }) (base : Nat) (v : Value) (xs : List Int) (hs : a.eval s = v) (hown : OwnU w base v xs)
    (g c : Nat) (u : Int) (hx : a.eval x = .slice (some ⟨g, 0, none⟩) 1 c) (hc : w.cell? ⟨g, 0, none⟩ = some (.int .u64 u)) (hn : xs.length ≤ 17592186044415) (hbase : base ≤ w.heap.size)
    (h : ∀ v' w', OwnU w' base v' (xs ++ [u]) → Below base w w' → wpList Try.prog ops Q rest (a.put o.dst v') w') : wpList Try.prog ops Q (o :: rest) a w := by
  obtain ⟨i0, hi0, hz0, hz1, hz2⟩ := info_parts u64_info
  refine wpList_append_own_at w hgd s x _ ho base 23 i0 _ 1 8 Try.underlying61 hi0 hz0 hz1 hz2 rfl (by omega) v xs.length (xs.map (Value.int .u64)) hs hown ⟨g, 0, none⟩ 1 c [.int .u64 u] hx rfl
    (fun j y hy => ?_) (fun y hy => ?_) (by unfold maxLen; omega) (by omega) hbase ?_
  · match j with
    | 0 => simp at hy; subst hy; rw [Addr.add_zero']; exact hc
    | j + 1 => simp at hy
  · simp at hy; subst hy; rfl
  · intro v' w' hown' hg _ _
    refine h v' w' ?_ ((Below.refl _ _).grown hg hbase (fun k hk => (hown.lt k hk).1))
    simpa [OwnU] using hown'
theorem OwnU.next {w w' : World} {base : Nat} {v : Value} {xs : List Int} (h : OwnU w base v xs) (hb : Below w.heap.size w w') : OwnU w' base v xs := by
  obtain ⟨hl, h | ⟨g, cap, cur, h1, h2, h3, h4, h5, h6, h7⟩⟩ := h
  · exact ⟨hl, .inl h⟩
  · refine ⟨hl, .inr ⟨g, cap, cur, h1, h2, ?_, h4, h5, h6, h7⟩⟩
    have hlt : g < w.heap.size := by
      rcases Nat.lt_or_ge g w.heap.size with hlt | hge
      · exact hlt
      · rw [Array.getElem?_eq_none hge] at h3; cases h3
    rw [hb.block g hlt]; exact h3
theorem OwnU.rd {w : World} {base : Nat} {v : Value} {xs : List Int} (h : OwnU w base v xs) : Rd 1 eU w v xs := by
  refine Rd.of_own h rfl (fun i hi j u hu => ?_)
  match j with
  | 0 => simp [eU] at hu; subst hu; exact ⟨by omega, by simp [hi]⟩
  | j + 1 => simp [eU] at hu
def SameUQ (xs ys : List Int) (w : World) (e : Ending) (w' : World) : Prop := e = .returned (.bool (decide (xs = ys))) ∧ Below w.heap.size w w'
end Tg
end Go.Proofs.Ytmeoeihfgmmgmaa
