/- Joined by shake.py: El El2 Strs ShareEl. -/
import Derived.Test.YtdfdjampodkpgaaDoorProg
import Derived.Test.YtdfdjampodkpgaaDoorJBase
import Derived.Maps.AppendAt
import Derived.Deep.RegionHeld3
import Derived.Deep.AppendLies
import Derived.OwnWalk
set_option linter.unusedSimpArgs false
set_option linter.unusedVariables false

/-! El -/
section
/- Slices of plain things (each of 'k' cells), of whatever element type: what the call makes itself; appends. -/
set_option linter.unusedSimpArgs false
set_option linter.unusedVariables false
namespace Go.Proofs.YtdfdjampodkpgaaDoor
open Go.RowKit
/-- an element type: its cells, its number, its slice's number -/
structure El (α : Type) where
  k : Nat
  enc : α → List Value
  te : TypeId
  ts : TypeId
  bytes : Nat
  zero : Value
  k0 : 0 < k
  zs : zero.cells.size = k
  len : ∀ x, (enc x).length = k
  one : ∀ x, ∀ y ∈ enc x, y.oneCell' = true
  info : (Tryd.prog.info? te).map (fun i => (i.zero, i.size, i.bytes)) = some (some zero, k, bytes)
  und : Tryd.prog.underlying ts = some (.slice te)
abbrev ROwn {α : Type} (E : El α) (w : World) (base : Nat) (v : Value) (xs : List α) : Prop := w.ownsRow base E.te E.k v xs.length (xs.flatMap E.enc)
abbrev RdE {α : Type} (E : El α) (w : World) (v : Value) (xs : List α) : Prop := Rd E.k E.enc w v xs
section
variable {α : Type} (E : El α)
theorem El.flat_len (xs : List α) : (xs.flatMap E.enc).length = xs.length * E.k := by
  induction xs with
  | nil => simp
  | cons o xs ih => simp only [List.flatMap_cons, List.length_append, E.len, ih, List.length_cons]; rw [Nat.add_mul]; omega
theorem El.flat_at (xs : List α) : ∀ (i : Nat) (h : i < xs.length) (j : Nat), j < E.k → (xs.flatMap E.enc)[i * E.k + j]? = (E.enc xs[i])[j]? := by
  induction xs with
  | nil => intro i h; simp at h
  | cons o xs ih =>
    intro i h j hj
    match i with
    | 0 => rw [Nat.zero_mul, Nat.zero_add, List.flatMap_cons, List.getElem?_append_left (by rw [E.len]; exact hj)]; rfl
    | i + 1 =>
      have := ih i (by simpa using h) j hj
      rw [List.flatMap_cons, List.getElem?_append_right (by rw [E.len, Nat.add_mul]; omega), E.len]
      rw [show (i + 1) * E.k + j - E.k = i * E.k + j by rw [Nat.add_mul]; omega, this]; rfl
end
section
variable {α : Type} {E : El α}
theorem ROwn.rd {w : World} {base : Nat} {v : Value} {xs : List α} (h : ROwn E w base v xs) : RdE E w v xs := by
  refine Rd.of_own h rfl (fun i hi j u hu => ?_)
  have hj : j < E.k := by
    rcases Nat.lt_or_ge j E.k with hj | hj
    · exact hj
    · rw [List.getElem?_eq_none (by rw [E.len]; exact hj)] at hu; cases hu
  exact ⟨hj, by rw [E.flat_at xs i hi j hj]; exact hu⟩
theorem ROwn.next {w w' : World} {base : Nat} {v : Value} {xs : List α} (h : ROwn E w base v xs) (hb : Below w.heap.size w w') : ROwn E w' base v xs := by
  obtain ⟨hl, h | ⟨g, cap, cur, h1, h2, h3, h4, h5, h6, h7⟩⟩ := h
  · exact ⟨hl, .inl h⟩
  · refine ⟨hl, .inr ⟨g, cap, cur, h1, h2, ?_, h4, h5, h6, h7⟩⟩
    have hlt : g < w.heap.size := by
      rcases Nat.lt_or_ge g w.heap.size with hlt | hge
      · exact hlt
      · rw [Array.getElem?_eq_none hge] at h3; cases h3
    rw [hb.block g hlt]; exact h3
theorem ROwn.base {w : World} {base base' : Nat} {v : Value} {xs : List α} (h : ROwn E w base v xs) (hb : base' ≤ base) : ROwn E w base' v xs := by
  obtain ⟨hl, h | ⟨g, cap, cur, h1, h2, h3, h4, h5, h6, h7⟩⟩ := h
  · exact ⟨hl, .inl h⟩
  · exact ⟨hl, .inr ⟨g, cap, cur, h1, Nat.le_trans hb h2, h3, h4, h5, h6, h7⟩⟩
theorem ROwn.nil (w : World) (base : Nat) : ROwn E w base (.slice none 0 0) [] := World.ownsRow_nil w base E.te E.k
/-- an empty literal -/
theorem ROwn.lit0 (w : World) (base H : Nat) (hH : w.heap.size = H) (h : base ≤ H) : ROwn E (w.alloc (.cells #[] E.te)) base (.slice (some ⟨H, 0, none⟩) 0 0) [] := by
  subst hH
  refine ⟨by simp, .inr ⟨w.heap.size, 0, #[], rfl, h, ?_, Nat.le_refl _, by unfold maxLen; omega, by simp, by simp⟩⟩
  exact heap_alloc_new w _
/-- a literal of elements, in a block of its own -/
theorem ROwn.lit (xs : List α) (w : World) (base H : Nat) (hH : w.heap.size = H) (h : base ≤ H) (hx : xs.length ≤ maxLen) : ROwn E (w.alloc (.cells (xs.flatMap E.enc).toArray E.te)) base (.slice (some ⟨H, 0, none⟩) xs.length xs.length) xs := by
  subst hH
  refine ⟨by rw [E.flat_len], .inr ⟨w.heap.size, xs.length, (xs.flatMap E.enc).toArray, rfl, h, ?_, Nat.le_refl _, hx, by simp [E.flat_len], by rw [List.take_of_length_le]; simp [E.flat_len]⟩⟩
  exact heap_alloc_new w _
theorem rd_lit (E : El α) (xs : List α) (w : World) (t : TypeId) (fr : Nat × Nat) (H : Nat) (hH : w.heap.size = H) (hx : xs.length ≤ maxLen) : RdE E (w.alloc (.cells (xs.flatMap E.enc).toArray t fr)) (.slice (some ⟨H, 0, none⟩) xs.length xs.length) xs := by
  subst hH
  refine ⟨_, _, rfl, Nat.le_refl _, hx, fun _ => ⟨w.heap.size, 0, rfl, by simp, ?_⟩⟩
  intro i hi j u hu
  have hj : j < E.k := by
    rcases Nat.lt_or_ge j E.k with hj | hj
    · exact hj
    · rw [List.getElem?_eq_none (by rw [E.len]; exact hj)] at hu; cases hu
  rw [World.cell?_alloc_mark, Nat.zero_add]
  simp only [List.getElem?_toArray]
  rw [E.flat_at xs i hi j hj]; exact hu
/-- cells of a block that is known: a slice of one -/
theorem rd_one (E : El α) (x : α) (w : World) (g : Nat) (hg : g < w.heap.size) (h : ∀ j u, (E.enc x)[j]? = some u → w.cell? ⟨g, j, none⟩ = some u) : RdE E w (.slice (some ⟨g, 0, none⟩) 1 1) [x] := by
  refine ⟨_, _, rfl, Nat.le_refl _, by unfold maxLen; omega, fun _ => ⟨g, 0, rfl, hg, ?_⟩⟩
  intro i hi j u hu
  have : i = 0 := by simpa using hi
  subst this
  rw [Nat.zero_add, Nat.zero_mul, Nat.zero_add]
  exact h j u hu
theorem rdE_dr {w : World} {v : Value} {xs : List α} (h : RdE E w v xs) : RdE E w.drew v xs := Rd.below h (bn (br _) 1)
/-- what is read in a block of one's own stays behind an append elsewhere -/
theorem far_rdE {W w4 : World} {v : Value} {xs : List α} {n : Nat} (B : Nat) (hb : Below B W w4) (hfar : ∀ k : Nat, k < W.heap.size → v.ownBlock ≠ some k → w4.heap[k]? = W.heap[k]?) (H c : Nat) (h : RdE E W (.slice (some ⟨H, 0, none⟩) n c) xs)
    (hne : v.ownBlock ≠ some H) : RdE E w4 (.slice (some ⟨H, 0, none⟩) n c) xs := by
  obtain ⟨a, cap, e, h1, h2, h3⟩ := h
  injection e with e1 e2 e3
  subst e1 e2 e3
  refine ⟨_, _, rfl, h1, h2, fun hn => ?_⟩
  obtain ⟨b, off, e, hb', hc⟩ := h3 hn
  injection e with e; injection e with e1 e2; subst e1 e2
  refine ⟨H, 0, rfl, Nat.lt_of_lt_of_le hb' hb.size, fun i hi j u hu => ?_⟩
  rw [World.cell?_of_block (hfar _ hb' hne)]
  exact hc i hi j u hu
theorem run_appE0 {w : World} (t ty : TypeId) (base : Nat) (e : TypeId) (i : TypeInfo) (size : Nat) (ht : Tryd.prog.underlying t = some (.slice e)) (hi : Tryd.prog.info? e = some i)
    (v : Value) (n : Nat) (xs : List Value) (hown : w.ownsRow base e size v n xs) (a : Option Addr) (c : Nat) :
    (Builtin.append_ #[t, t] ty #[v, .slice a 0 c]).run Tryd.prog w = .ok v w := by
  rcases hown.2 with ⟨rfl, rfl⟩ | ⟨g, cap, cur, rfl, _, _, hnc, _⟩
  · cases a <;> simp [Builtin.append_, run_underlying ht, sizeOf, typeInfo, hi, Builtin.lenOf, Builtin.firstCells, loadCells, loadCellsFrom]
  · cases a <;> simp [Builtin.append_, run_underlying ht, sizeOf, typeInfo, hi, Builtin.lenOf, Builtin.firstCells, hnc, storeCells, loadCells, loadCellsFrom]
theorem stepE_app (E : El α) {ops : Array Oper} {o : Oper} {a : Act} {K : Act → World → Prop} {Q : Exit → Act → World → Prop} {F : Prop} {w : World} (hgd : o.guard = none) (s x : Operand)
    (ho : o.op = .call { callee := .builtin .append, args := #[s, x], argTypes := #[E.ts, E.ts] })
    (base : Nat) (v : Value) (ys : List α) (hs : a.eval s = v) (hown : ROwn E w base v ys) (u : Value) (zs : List α) (hx : a.eval x = u) (hzs : RdE E w u zs) (hl : ys.length + zs.length ≤ maxLen) (hlb : (ys.length + zs.length) * E.bytes ≤ 140737488355328) (hbase : base ≤ w.heap.size)
    (h : ∀ v' w', ROwn E w' base v' (ys ++ zs) → Below base w w' → (∀ k : Nat, k < w.heap.size → v.ownBlock ≠ some k → w'.heap[k]? = w.heap[k]?) → K (a.put o.dst v') w') :
    if Region.wanted o (yielded ops a.tmps) = true then Oper.wp Tryd.prog o a w K Q else F := by
  obtain ⟨i0, hi0, hz0, hz1, hz2⟩ := info_parts E.info
  by_cases hz : 0 < zs.length
  · obtain ⟨ad, cap, rfl, h1, h2, h3⟩ := hzs
    obtain ⟨b, off, rfl, hb, hc⟩ := h3 hz
    refine step_append_lies w hgd s x _ ho base E.te i0 _ E.k E.bytes E.und hi0 hz0 hz1 hz2 E.zs E.k0 v ys.length (ys.flatMap E.enc) hs hown ⟨b, off, none⟩ zs.length cap (zs.flatMap E.enc) hx (E.flat_len zs) (fun j y hy => ?_) (fun y hy => ?_) hz hl hlb hbase w.heap.size rfl ?_
    · have hj : j < (zs.flatMap E.enc).length := by
        rcases Nat.lt_or_ge j (zs.flatMap E.enc).length with h | h
        · exact h
        · rw [List.getElem?_eq_none h] at hy; cases hy
      rw [E.flat_len] at hj
      have hk := E.k0
      have hq : j / E.k < zs.length := Nat.div_lt_of_lt_mul (by rw [Nat.mul_comm]; exact hj)
      have hr : j % E.k < E.k := Nat.mod_lt _ hk
      have hjj : j / E.k * E.k + j % E.k = j := Nat.div_add_mod' j E.k
      have ha : (⟨b, off, none⟩ : Addr).add j = ⟨b, off + j, none⟩ := by unfold Addr.add; split <;> simp_all
      rw [ha]
      have hf := E.flat_at zs (j / E.k) hq (j % E.k) hr
      rw [hjj, hy] at hf
      have := hc (j / E.k) hq (j % E.k) y hf.symm
      rw [hjj] at this
      exact this
    · obtain ⟨o, _, hy⟩ := List.mem_flatMap.1 hy
      exact E.one o y hy
    · intro g cap' w' hown' hg hat hlt
      refine h _ w' ?_ ((Below.refl _ _).grown hg hbase (fun k hk => (hown.lt k hk).1)) (fun k hk hne => hg.block k hk (Ne.symm hne))
      unfold ROwn
      rw [List.length_append, List.flatMap_append]
      exact hown'
  · have hzn : zs = [] := by cases zs with | nil => rfl | cons c l => simp at hz
    subst hzn
    obtain ⟨ad, cap, rfl, h1, h2, h3⟩ := hzs
    have hw : Region.wanted o (yielded ops a.tmps) = true := by simp [Region.wanted, hgd]
    rw [if_pos hw]
    have hrun := run_appE0 E.ts o.type base E.te i0 E.k E.und hi0 v ys.length (ys.flatMap E.enc) hown ad cap
    have hk := h v w (by rw [List.append_nil]; exact hown) (Below.refl _ _) (fun p _ _ => rfl)
    unfold Oper.wp
    simp only [List.length_nil] at hx
    simp [execOp, ho, resolve, invoke, builtin, hs, hx, hrun, Result.andThen]
    exact hk
/-- the same at a plain list of operations -/
theorem appE (E : El α) {ops : Array Oper} {rest : List Oper} {o : Oper} {a : Act} {Q : Exit → Act → World → Prop} {w : World} (hgd : o.guard = none) (s x : Operand)
    (ho : o.op = .call { callee := .builtin .append, args := #[s, x], argTypes := #[E.ts, E.ts] })
    (base : Nat) (v : Value) (ys : List α) (hs : a.eval s = v) (hown : ROwn E w base v ys) (u : Value) (zs : List α) (hx : a.eval x = u) (hzs : RdE E w u zs) (hl : ys.length + zs.length ≤ maxLen) (hlb : (ys.length + zs.length) * E.bytes ≤ 140737488355328) (hbase : base ≤ w.heap.size)
    (h : ∀ v' w', ROwn E w' base v' (ys ++ zs) → Below base w w' → (∀ k : Nat, k < w.heap.size → v.ownBlock ≠ some k → w'.heap[k]? = w.heap[k]?) → wpList Tryd.prog ops Q rest (a.put o.dst v') w') : wpList Tryd.prog ops Q (o :: rest) a w := by
  refine wpList_plain hgd fun K hK => ?_
  have hw : Region.wanted o (yielded ops a.tmps) = true := by simp [Region.wanted, hgd]
  have := stepE_app (ops := ops) (K := K) (Q := Q) (F := True) E hgd s x ho base v ys hs hown u zs hx hzs hl hlb hbase (fun v' w' h1 h2 h3 => hK _ _ (h v' w' h1 h2 h3))
  rw [if_pos hw] at this
  exact this
end
end Go.Proofs.YtdfdjampodkpgaaDoor
end

/-! El2 -/
section
/- Slices as lists: the first ones, the last ones. -/
set_option linter.unusedSimpArgs false
set_option linter.unusedVariables false
namespace Go.Proofs.YtdfdjampodkpgaaDoor
open Go.RowKit
theorem rd_pre {α : Type} {k : Nat} {enc : α → List Value} {w : World} {a : Option Addr} {n cap : Nat} {xs : List α} (h : Rd k enc w (.slice a n cap) xs) (m : Nat) (hm : m ≤ xs.length) : Rd k enc w (.slice a m cap) (xs.take m) := by
  obtain ⟨a', cap', e, h1, h2, h3⟩ := h
  injection e with e1 e2 e3
  subst e1 e2 e3
  have hl : (xs.take m).length = m := by simp; omega
  refine ⟨a, cap, by rw [hl], by omega, h2, fun hn => ?_⟩
  obtain ⟨b, off, e, hb, hc⟩ := h3 (by omega)
  refine ⟨b, off, e, hb, fun i hi j u hu => ?_⟩
  rw [List.getElem_take] at hu
  exact hc i (by omega) j u hu
/-- an append under a guard that says yes -/
theorem appE_g {α : Type} (E : El α) {ops : Array Oper} {rest : List Oper} {o : Oper} {a : Act} {Q : Exit → Act → World → Prop} {w : World} (hw : Region.wanted o (yielded ops a.tmps) = true) (s x : Operand)
    (ho : o.op = .call { callee := .builtin .append, args := #[s, x], argTypes := #[E.ts, E.ts] })
    (base : Nat) (v : Value) (ys : List α) (hs : a.eval s = v) (hown : ROwn E w base v ys) (u : Value) (zs : List α) (hx : a.eval x = u) (hzs : RdE E w u zs) (hl : ys.length + zs.length ≤ maxLen) (hlb : (ys.length + zs.length) * E.bytes ≤ 140737488355328) (hbase : base ≤ w.heap.size)
    (h : ∀ v' w', ROwn E w' base v' (ys ++ zs) → Below base w w' → (∀ k : Nat, k < w.heap.size → v.ownBlock ≠ some k → w'.heap[k]? = w.heap[k]?) → wpList Tryd.prog ops Q rest (a.put o.dst v') w') : wpList Tryd.prog ops Q (o :: rest) a w := by
  have := stepE_app (ops := ops) (o := { o with guard := none }) (K := wpList Tryd.prog ops Q rest) (Q := Q) (F := True) E rfl s x ho base v ys hs hown u zs hx hzs hl hlb hbase h
  rw [if_pos (by simp [Region.wanted])] at this
  unfold wpList
  rw [if_pos hw]
  exact .inl this
end Go.Proofs.YtdfdjampodkpgaaDoor
end

/-! Strs -/
section
/- Slices of strings, of bytes, of ints, as element types. -/
set_option linter.unusedSimpArgs false
set_option linter.unusedVariables false
namespace Go.Proofs.YtdfdjampodkpgaaDoor
open Go.RowKit
def eB (b : UInt8) : List Value := [.int .u8 b.toNat]
@[reducible] def elB : El UInt8 where
  k := 1
  enc := eB
  te := 5
  ts := 84
  bytes := 1
  zero := .int .u8 0
  k0 := by decide
  zs := rfl
  len := fun _ => rfl
  one := fun x y h => by simp [eB] at h; subst h; rfl
  info := by kernel_rfl
  und := Tryd.underlying84
end Go.Proofs.YtdfdjampodkpgaaDoor
end

/-! ShareEl -/
section
/- Ints as an element type. -/
set_option linter.unusedSimpArgs false
set_option linter.unusedVariables false
namespace Go.Proofs.YtdfdjampodkpgaaDoor
open Go.RowKit
@[reducible] def elZ : El Int where
  k := 1
  enc := eI
  te := 3
  ts := 73
  bytes := 8
  zero := .int .i64 0
  k0 := by decide
  zs := rfl
  len := fun _ => rfl
  one := fun x y h => by simp [eI] at h; subst h; rfl
  info := by kernel_rfl
  und := Tryd.underlying73
theorem own_shapeZ {α : Type} {E : El α} {w : World} {base : Nat} {v : Value} {xs : List α} (h : ROwn E w base v xs) : ∃ a c, v = .slice a xs.length c := by
  obtain ⟨_, h | ⟨g, cap, cur, h1, _⟩⟩ := h
  · exact ⟨none, 0, by rw [h.1, h.2]⟩
  · exact ⟨_, _, h1⟩
/-- a slice as a result, and an error -/
abbrev PairZ (xs : List Int) (er : Int) (w : World) (e : Ending) (w' : World) : Prop := ∃ v, e = .returned (.tuple #[v, .int .i64 er]) ∧ ROwn elZ w' w.heap.size v xs ∧ Below w.heap.size w w'
end Go.Proofs.YtdfdjampodkpgaaDoor
end
