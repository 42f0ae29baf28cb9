/- Joined by shake.py: RingPlain RingOwn RingWalks RingAt RingAdd RingMark RingSeal RingOpen. -/
import Derived.Test.YtdfdjampodkpgaaDoorJTag
import Derived.Test.YtdfdjampodkpgaaDoorProg
import Derived.Test.YtdfdjampodkpgaaDoorJBase
import Derived.Maps.AppendAt
import Derived.Deep.RegionHeld3
import Derived.Deep.AppendLies
import Derived.OwnWalk
import Derived.Deep.LoopGhost
import Derived.Lib.SliceRun
import Derived.Shelf.Abstract
import Derived.Laws.IdiomStrings
set_option linter.unusedSimpArgs false
set_option linter.unusedVariables false
set_option maxRecDepth 20000

/-! RingPlain -/
section
/- Rings of keys: plain facts, no program in sight. -/
set_option linter.unusedSimpArgs false
set_option linter.unusedVariables false
namespace Go.Proofs.YtdfdjampodkpgaaDoor
namespace Rg
open Tg
/-- an epoch: its number, its key -/
abbrev Ep := Int × W64 × W64
def chkR : Int → List Ep → Int
  | _, [] => 0
  | last, x :: l => if x.1 < 1 ∨ 255 < x.1 then 3 else if x.1 ≤ last then 4 else chkR x.1 l
def chk (l : List Ep) : Int := if 8 < l.length then 2 else chkR 0 l
def lastNo (l : List Ep) : Int := match l.getLast? with | some x => x.1 | none => 0
/-- of the first k numbers, the last one; 0: none yet -/
def prevNo (l : List Ep) (k : Nat) : Int := match k with | 0 => 0 | k + 1 => (l.getD k (0, 0, 0)).1
theorem chkR_step (l : List Ep) (k : Nat) (h : k < l.length) : chkR (prevNo l k) (l.drop k) = if l[k].1 < 1 ∨ 255 < l[k].1 then 3 else if l[k].1 ≤ prevNo l k then 4 else chkR (prevNo l (k + 1)) (l.drop (k + 1)) := by
  rw [List.drop_eq_getElem_cons h]
  have e : prevNo l (k + 1) = l[k].1 := by unfold prevNo; simp [List.getD, h]
  rw [e]; rfl
theorem chkR_end (l : List Ep) (k : Nat) (h : l.length ≤ k) (last : Int) : chkR last (l.drop k) = 0 := by
  rw [List.drop_eq_nil_of_le h]; rfl
/-- a ring that is right: its numbers rise -/
theorem chkR_spec : ∀ (l : List Ep) (last : Int), chkR last l = 0 → (∀ x ∈ l, 1 ≤ x.1 ∧ x.1 ≤ 255 ∧ last < x.1) ∧ l.Pairwise (fun x y => x.1 < y.1)
  | [], _, _ => ⟨by simp, List.Pairwise.nil⟩
  | x :: l, last, h => by
    have h' : (if x.1 < 1 ∨ 255 < x.1 then 3 else if x.1 ≤ last then 4 else chkR x.1 l) = 0 := h
    by_cases h1 : x.1 < 1 ∨ 255 < x.1
    · rw [if_pos h1] at h'; simp at h'
    · rw [if_neg h1] at h'
      by_cases h2 : x.1 ≤ last
      · rw [if_pos h2] at h'; simp at h'
      · rw [if_neg h2] at h'
        obtain ⟨g1, g2⟩ := chkR_spec l x.1 h'
        refine ⟨fun y hy => ?_, List.Pairwise.cons (fun y hy => (g1 y hy).2.2) g2⟩
        rcases List.mem_cons.mp hy with rfl | hy
        · omega
        · have := g1 y hy; omega
theorem chkR_of : ∀ (l : List Ep) (last : Int), (∀ x ∈ l, 1 ≤ x.1 ∧ x.1 ≤ 255 ∧ last < x.1) → l.Pairwise (fun x y => x.1 < y.1) → chkR last l = 0
  | [], _, _, _ => rfl
  | x :: l, last, h, hp => by
    show (if x.1 < 1 ∨ 255 < x.1 then 3 else if x.1 ≤ last then 4 else chkR x.1 l) = 0
    have hx := h x (by simp)
    rw [if_neg (by omega), if_neg (by omega)]
    cases hp with
    | cons h1 h2 => exact chkR_of l x.1 (fun y hy => ⟨(h y (by simp [hy])).1, (h y (by simp [hy])).2.1, h1 y hy⟩) h2
/-- where an epoch stands; the length: nowhere -/
def atN (no : Int) : List Ep → Nat
  | [] => 0
  | x :: l => if x.1 = no then 0 else atN no l + 1
theorem atN_le (no : Int) : ∀ l : List Ep, atN no l ≤ l.length
  | [] => Nat.le_refl _
  | x :: l => by
    show (if x.1 = no then 0 else atN no l + 1) ≤ _
    by_cases h : x.1 = no
    · rw [if_pos h]; omega
    · rw [if_neg h]; have := atN_le no l; simp; omega
theorem atN_eq (no : Int) : ∀ (l : List Ep) (k : Nat), k ≤ l.length → (∀ j (hj : j < l.length), j < k → l[j].1 ≠ no) → (∀ h : k < l.length, l[k].1 = no) → atN no l = k
  | [], k, hk, _, _ => by have : k = 0 := by simpa using hk
                          subst this; rfl
  | x :: l, 0, _, _, h => by
    have h0 : x.1 = no := h (by simp)
    show (if x.1 = no then 0 else atN no l + 1) = 0
    rw [if_pos h0]
  | x :: l, k + 1, hk, ha, h => by
    have h0 : x.1 ≠ no := ha 0 (by simp) (by omega)
    show (if x.1 = no then 0 else atN no l + 1) = k + 1
    rw [if_neg h0, atN_eq no l k (by simpa using hk) (fun j hj hjk => ha (j + 1) (by simpa using hj) (by omega)) (fun h' => h (by simpa using h'))]
theorem atN_spec (no : Int) : ∀ (l : List Ep), (∀ j (hj : j < l.length), j < atN no l → l[j].1 ≠ no) ∧ (∀ h : atN no l < l.length, l[atN no l].1 = no)
  | [] => ⟨fun j hj => by simp at hj, fun h => by simp at h⟩
  | x :: l => by
    obtain ⟨g1, g2⟩ := atN_spec no l
    by_cases h : x.1 = no
    · have e : atN no (x :: l) = 0 := by show (if _ then _ else _) = _; rw [if_pos h]
      rw [e]
      refine ⟨fun j hj hj0 => by omega, fun _ => ?_⟩
      exact h
    · have e : atN no (x :: l) = atN no l + 1 := by show (if _ then _ else _) = _; rw [if_neg h]
      refine ⟨fun j hj hj0 => ?_, fun hh => ?_⟩
      · rw [e] at hj0
        cases j with
        | zero => exact h
        | succ j => exact g1 j (by simpa using hj) (by omega)
      · simp only [e] at hh ⊢
        exact g2 (by simpa using hh)
def addF (l : List Ep) (k : W64 × W64) : List Ep × Int := if chk l ≠ 0 then ([], chk l) else if l.length = 8 ∨ lastNo l = 255 then ([], 2) else (l ++ [(lastNo l + 1, k)], 0)
def dropF (l : List Ep) (no : Int) : List Ep × Int := if chk l ≠ 0 then ([], chk l) else if atN no l = l.length then ([], 5) else (l.eraseIdx (atN no l), 0)
/-- what is left, as the document takes it: all others -/
theorem drop_filter (no : Int) : ∀ (l : List Ep), l.Pairwise (fun x y => x.1 < y.1) → atN no l < l.length → l.eraseIdx (atN no l) = l.filter (fun x => x.1 ≠ no)
  | [], _, h => by simp at h
  | x :: l, hp, h => by
    cases hp with
    | cons h1 h2 =>
      by_cases hx : x.1 = no
      · have e : atN no (x :: l) = 0 := by show (if _ then _ else _) = _; rw [if_pos hx]
        rw [e, List.eraseIdx_cons_zero, List.filter_cons_of_neg (by simp [hx])]
        symm
        rw [List.filter_eq_self]
        intro y hy
        have := h1 y hy
        simp; omega
      · have e : atN no (x :: l) = atN no l + 1 := by show (if _ then _ else _) = _; rw [if_neg hx]
        rw [e] at h ⊢
        rw [List.eraseIdx_cons_succ, List.filter_cons_of_pos (by simp [hx]), drop_filter no l h2 (by simpa using h)]
end Rg
end Go.Proofs.YtdfdjampodkpgaaDoor
end

/-! RingOwn -/
section
/- Slices of epochs that the call makes itself. -/
set_option linter.unusedSimpArgs false
set_option linter.unusedVariables false
namespace Go.Proofs.YtdfdjampodkpgaaDoor
open Go.RowKit
namespace Rg
open Tg
def eE (x : Ep) : List Value := [.int .i64 x.1, .int .u64 (wi x.2.1), .int .u64 (wi x.2.2)]
theorem eE_at {w : World} {b off : Nat} {xs : List Ep} (h : ∀ (i : Nat) (h : i < xs.length) (j : Nat) (u : Value), (eE xs[i])[j]? = some u → w.cell? ⟨b, off + (i * 3 + j), none⟩ = some u)
    (i : Nat) (hi : i < xs.length) : w.cell? ⟨b, off + i * 3, none⟩ = some (.int .i64 xs[i].1) ∧ w.cell? ⟨b, off + i * 3 + 1, none⟩ = some (.int .u64 (wi xs[i].2.1)) ∧ w.cell? ⟨b, off + i * 3 + 2, none⟩ = some (.int .u64 (wi xs[i].2.2)) := ⟨h i hi 0 _ rfl, h i hi 1 _ rfl, h i hi 2 _ rfl⟩
abbrev OwnE (w : World) (base : Nat) (v : Value) (xs : List Ep) : Prop := w.ownsRow base 54 3 v xs.length (xs.flatMap eE)
theorem epoch_info : (Tryd.prog.info? 54).map (fun i => (i.zero, i.size, i.bytes)) = some (some (.agg #[.int .i64 0, .int .u64 0, .int .u64 0]), 3, 24) := by kernel_rfl
theorem flat_len (xs : List Ep) : (xs.flatMap eE).length = xs.length * 3 := by
  induction xs with
  | nil => rfl
  | cons o xs ih => simp [eE, ih]; omega
theorem flat_at (xs : List Ep) : ∀ (i : Nat) (h : i < xs.length), (xs.flatMap eE)[i * 3]? = some (.int .i64 xs[i].1) ∧ (xs.flatMap eE)[i * 3 + 1]? = some (.int .u64 (wi xs[i].2.1)) ∧ (xs.flatMap eE)[i * 3 + 2]? = some (.int .u64 (wi xs[i].2.2)) := by
  induction xs with
  | nil => intro i h; simp at h
  | cons o xs ih =>
    intro i h
    match i with
    | 0 => simp [eE]
    | i + 1 =>
      have := ih i (by simpa using h)
      have e1 : (i + 1) * 3 = i * 3 + 3 := by omega
      have e2 : (i + 1) * 3 + 1 = i * 3 + 1 + 3 := by omega
      have e3 : (i + 1) * 3 + 2 = i * 3 + 2 + 3 := by omega
      rw [e3, e2, e1]
      simp only [List.flatMap_cons, eE, List.cons_append, List.nil_append, List.getElem?_cons_succ, List.getElem_cons_succ]
      exact this
theorem OwnE.rd {w : World} {base : Nat} {v : Value} {xs : List Ep} (h : OwnE w base v xs) : Rd 3 eE w v xs := by
  refine Rd.of_own h rfl (fun i hi j u hu => ?_)
  obtain ⟨h1, h2, h3⟩ := flat_at xs i hi
  match j with
  | 0 => simp [eE] at hu; subst hu; exact ⟨by omega, h1⟩
  | 1 => simp [eE] at hu; subst hu; exact ⟨by omega, h2⟩
  | 2 => simp [eE] at hu; subst hu; exact ⟨by omega, h3⟩
  | j + 3 => simp [eE] at hu
theorem own0 (w : World) (base H : Nat) (hH : w.heap.size = H) (h : base ≤ H) : OwnE (w.alloc (.cells #[] 54)) base (.slice (some ⟨H, 0, none⟩) 0 0) [] := by
  subst hH
  refine ⟨rfl, .inr ⟨w.heap.size, 0, #[], rfl, h, ?_, Nat.le_refl _, by unfold maxLen; omega, rfl, rfl⟩⟩
  exact heap_alloc_new w _
theorem rdc1 (w : World) (p : Int) (q r : W64) (g : Nat) (hg : g < w.heap.size) (h0 : w.cell? ⟨g, 0, none⟩ = some (.int .i64 p)) (h1 : w.cell? ⟨g, 1, none⟩ = some (.int .u64 (wi q))) (h2 : w.cell? ⟨g, 2, none⟩ = some (.int .u64 (wi r))) : Rd 3 eE w (.slice (some ⟨g, 0, none⟩) 1 1) [(p, q, r)] := by
  refine ⟨_, _, rfl, Nat.le_refl _, by unfold maxLen; omega, fun _ => ⟨g, 0, rfl, hg, ?_⟩⟩
  intro i hi j u hu
  have : i = 0 := by simpa using hi
  subst this
  match j with
  | 0 => simp [eE] at hu; subst hu; exact h0
  | 1 => simp [eE] at hu; subst hu; exact h1
  | 2 => simp [eE] at hu; subst hu; exact h2
  | j + 3 => simp [eE] at hu
theorem rd1a (w : World) (p : Int) (q r : W64) (t : TypeId) (H : Nat) (hH : w.heap.size = H) : Rd 3 eE (w.alloc (.cells #[.int .i64 p, .int .u64 (wi q), .int .u64 (wi r)] t)) (.slice (some ⟨H, 0, none⟩) 1 1) [(p, q, r)] := by
  subst hH
  refine rdc1 _ p q r _ (by simp) ?_ ?_ ?_
  · rw [World.cell?_alloc_mark]; rfl
  · rw [World.cell?_alloc_mark]; rfl
  · rw [World.cell?_alloc_mark]; rfl
theorem rd_dr {w : World} {v : Value} {xs : List Ep} (h : Rd 3 eE w v xs) : Rd 3 eE w.drew v xs := h.below (bn (br _) 1)
theorem far_rd {W w4 : World} {v : Value} {p : Int} {q r : W64} (B : Nat) (hb : Below B W w4) (hfar : ∀ a : Addr, a.block < W.heap.size → v.ownBlock ≠ some a.block → w4.cell? a = W.cell? a) (H : Nat) (h : Rd 3 eE W (.slice (some ⟨H, 0, none⟩) 1 1) [(p, q, r)])
    (hne : v.ownBlock ≠ some H) : Rd 3 eE w4 (.slice (some ⟨H, 0, none⟩) 1 1) [(p, q, r)] := by
  obtain ⟨a, cap, e, h1, h2, h3⟩ := h
  injection e with e1 e2 e3
  subst e1 e3
  obtain ⟨b, off, e, hb', hc⟩ := h3 (by simp)
  injection e with e; injection e with e1 e2; subst e1 e2
  refine ⟨_, _, rfl, h1, h2, fun _ => ⟨H, 0, rfl, Nat.lt_of_lt_of_le hb' hb.size, fun i hi j u hu => ?_⟩⟩
  rw [hfar _ hb' hne]
  exact hc i hi j u hu
theorem run_app0 {w : World} (t ty : TypeId) (base : Nat) (e : TypeId) (i : TypeInfo) (size : Nat) (ht : Tryd.prog.underlying t = some (.slice e)) (hi : Tryd.prog.info? e = some i)
    (v : Value) (n : Nat) (xs : List Value) (hown : w.ownsRow base e size v n xs) (a : Option Addr) (c : Nat) :
    (Builtin.append_ #[t, t] ty #[v, .slice a 0 c]).run Tryd.prog w = .ok v w := by
  rcases hown.2 with ⟨rfl, rfl⟩ | ⟨g, cap, cur, rfl, _, _, hnc, _⟩
  · cases a <;> simp [Builtin.append_, run_underlying ht, sizeOf, typeInfo, hi, Builtin.lenOf, Builtin.firstCells, loadCells, loadCellsFrom]
  · cases a <;> simp [Builtin.append_, run_underlying ht, sizeOf, typeInfo, hi, Builtin.lenOf, Builtin.firstCells, hnc, storeCells, loadCells, loadCellsFrom]
theorem step_app {ops : Array Oper} {o : Oper} {a : Act} {K : Act → World → Prop} {Q : Exit → Act → World → Prop} {E : Prop} {w : World} (hgd : o.guard = none) (s x : Operand)
    (ho : o.op = .call { callee := .builtin .append, args := #[s, x], argTypes := #[22, 22] })
    (base : Nat) (v : Value) (ys : List Ep) (hs : a.eval s = v) (hown : OwnE w base v ys) (u : Value) (zs : List Ep) (hx : a.eval x = u) (hzs : Rd 3 eE w u zs) (hl : (ys.length + zs.length) * 24 ≤ 140737488355328) (hbase : base ≤ w.heap.size)
    (h : ∀ v' w', OwnE w' base v' (ys ++ zs) → Below base w w' → (∀ p : Addr, p.block < w.heap.size → v.ownBlock ≠ some p.block → w'.cell? p = w.cell? p) → K (a.put o.dst v') w') :
    if Region.wanted o (yielded ops a.tmps) = true then Oper.wp Tryd.prog o a w K Q else E := by
  obtain ⟨i0, hi0, hz0, hz1, hz2⟩ := info_parts epoch_info
  by_cases hz : 0 < zs.length
  · obtain ⟨ad, cap, rfl, h1, h2, h3⟩ := hzs
    obtain ⟨b, off, rfl, hb, hc⟩ := h3 hz
    refine step_append_lies w hgd s x _ ho base 54 i0 _ 3 24 Tryd.underlying22 hi0 hz0 hz1 hz2 rfl (by omega) v ys.length (ys.flatMap eE) hs hown ⟨b, off, none⟩ zs.length cap (zs.flatMap eE) hx (flat_len zs) (fun j y hy => ?_) (fun y hy => ?_) hz (by unfold maxLen; omega) (by omega) hbase w.heap.size rfl ?_
    · have hj : j < (zs.flatMap eE).length := by
        rcases Nat.lt_or_ge j (zs.flatMap eE).length with h | h
        · exact h
        · rw [List.getElem?_eq_none h] at hy; cases hy
      rw [flat_len] at hj
      obtain ⟨f1, f2, f3⟩ := flat_at zs (j / 3) (by omega)
      have ha : (⟨b, off, none⟩ : Addr).add j = ⟨b, off + j, none⟩ := by unfold Addr.add; split <;> simp_all
      rw [ha]
      rcases (show j = j / 3 * 3 ∨ j = j / 3 * 3 + 1 ∨ j = j / 3 * 3 + 2 by omega) with e | e | e
      · rw [e, f1] at hy; injection hy with hy; subst hy
        have := hc (j / 3) (by omega) 0 (.int .i64 zs[j / 3].1) (by simp [eE])
        rw [show off + (j / 3 * 3 + 0) = off + j by omega] at this
        exact this
      · rw [e, f2] at hy; injection hy with hy; subst hy
        have := hc (j / 3) (by omega) 1 (.int .u64 (wi zs[j / 3].2.1)) (by simp [eE])
        rw [show off + (j / 3 * 3 + 1) = off + j by omega] at this
        exact this
      · rw [e, f3] at hy; injection hy with hy; subst hy
        have := hc (j / 3) (by omega) 2 (.int .u64 (wi zs[j / 3].2.2)) (by simp [eE])
        rw [show off + (j / 3 * 3 + 2) = off + j by omega] at this
        exact this
    · obtain ⟨o, _, hy⟩ := List.mem_flatMap.1 hy
      simp [eE] at hy
      rcases hy with rfl | rfl | rfl <;> rfl
    · intro g cap' w' hown' hg hat hlt
      refine h _ w' ?_ ((Below.refl _ _).grown hg hbase (fun k hk => (hown.lt k hk).1)) (fun p hp hne => World.cell?_of_block (hg.block p.block hp (Ne.symm hne)))
      unfold OwnE
      rw [List.length_append, List.flatMap_append]
      exact hown'
  · have hzn : zs = [] := by cases zs with | nil => rfl | cons c l => simp at hz
    subst hzn
    obtain ⟨ad, cap, rfl, h1, h2, h3⟩ := hzs
    have hw : Region.wanted o (yielded ops a.tmps) = true := by simp [Region.wanted, hgd]
    rw [if_pos hw]
    have hrun := run_app0 22 o.type base 54 i0 3 Tryd.underlying22 hi0 v ys.length (ys.flatMap eE) hown ad cap
    have hk := h v w (by rw [List.append_nil]; exact hown) (Below.refl _ _) (fun p _ _ => rfl)
    unfold Oper.wp
    simp only [List.length_nil] at hx
    simp [execOp, ho, resolve, invoke, builtin, hs, hx, hrun, Result.andThen]
    exact hk
/-- the same at a plain list of operations -/
theorem app_list {ops : Array Oper} {rest : List Oper} {o : Oper} {a : Act} {Q : Exit → Act → World → Prop} {w : World} (hgd : o.guard = none) (s x : Operand)
    (ho : o.op = .call { callee := .builtin .append, args := #[s, x], argTypes := #[22, 22] })
    (base : Nat) (v : Value) (ys : List Ep) (hs : a.eval s = v) (hown : OwnE w base v ys) (u : Value) (zs : List Ep) (hx : a.eval x = u) (hzs : Rd 3 eE w u zs) (hl : (ys.length + zs.length) * 24 ≤ 140737488355328) (hbase : base ≤ w.heap.size)
    (h : ∀ v' w', OwnE w' base v' (ys ++ zs) → Below base w w' → (∀ p : Addr, p.block < w.heap.size → v.ownBlock ≠ some p.block → w'.cell? p = w.cell? p) → wpList Tryd.prog ops Q rest (a.put o.dst v') w') : wpList Tryd.prog ops Q (o :: rest) a w := by
  refine wpList_plain hgd fun K hK => ?_
  have hw : Region.wanted o (yielded ops a.tmps) = true := by simp [Region.wanted, hgd]
  have := step_app (ops := ops) (K := K) (Q := Q) (E := True) hgd s x ho base v ys hs hown u zs hx hzs hl hbase (fun v' w' h1 h2 h3 => hK _ _ (h v' w' h1 h2 h3))
  rw [if_pos hw] at this
  exact this
theorem OwnE.next {w w' : World} {base : Nat} {v : Value} {xs : List Ep} (h : OwnE w base v xs) (hb : Below w.heap.size w w') : OwnE w' base v xs := by
  obtain ⟨hl, h | ⟨g, cap, cur, h1, h2, h3, h4, h5, h6, h7⟩⟩ := h
  · exact ⟨hl, .inl h⟩
  · refine ⟨hl, .inr ⟨g, cap, cur, h1, h2, ?_, h4, h5, h6, h7⟩⟩
    have hlt : g < w.heap.size := by
      rcases Nat.lt_or_ge g w.heap.size with hlt | hge
      · exact hlt
      · rw [Array.getElem?_eq_none hge] at h3; cases h3
    rw [hb.block g hlt]; exact h3
theorem own_nilE (w : World) (base : Nat) : OwnE w base (.slice none 0 0) [] := World.ownsRow_nil w base 54 3
end Rg
end Go.Proofs.YtdfdjampodkpgaaDoor
end

/-! RingWalks -/
section
/- Rings: is a ring right? -/
set_option linter.unusedSimpArgs false
set_option linter.unusedVariables false
namespace Go.Proofs.YtdfdjampodkpgaaDoor
open Go.RowKit
namespace Rg
open Tg
def ErrQ (r : Int) (w : World) (e : Ending) (w' : World) : Prop := e = .returned (.int .i64 r) ∧ Below w.heap.size w w'
set_option maxHeartbeats 2000000 in
theorem check_any (v : Value) (xs : List Ep) (w : World) (h : Rd 3 eE w v xs) : Calls Tryd.prog 46 #[v] w (ErrQ (chk xs) w) := by
  obtain ⟨a, cap, rfl, h1, h2, h3⟩ := h
  by_cases hl : 8 < xs.length
  · have hF : chk xs = 2 := by unfold chk; rw [if_pos hl]
    have HF := Lib.hid hF; clear hF h3
    have hl' : (8 : Int) < (xs.length : Int) := by omega
    go_enter Tryd.func46, Tryd.ntmps46
    go_wp2
    go_ret
    exact ⟨by rw [HF.out]; rfl, br _⟩
  · have hF : chk xs = chkR 0 xs := by unfold chk; rw [if_neg hl]
    have HF := Lib.hid hF; clear hF
    have H3 := Lib.hid h3; clear h3
    go_enter Tryd.func46, Tryd.ntmps46
    go_wp2
    go_loopw [10] (fun i wr => ∃ k : Nat, k ≤ xs.length ∧ i = .int .i64 k ∧ chk xs = chkR (prevNo xs k) (xs.drop k) ∧ Below w.heap.size w wr) (fun i _ => xs.length - (intOf i).toNat)
    case atStart => exact ⟨0, Nat.zero_le _, rfl, HF.out, br _⟩
    case round =>
      obtain ⟨k, hk, rfl, hch, hbw⟩ := hrel
      by_cases hlt : k < xs.length
      · obtain ⟨g, off, rfl, hbl, hc⟩ := H3.out (by omega)
        obtain ⟨q0, q1, q2⟩ := eE_at hc k hlt
        have c0 := (hbw.cell (p := ⟨g, off + k * 3, none⟩) hbl).trans q0
        have c1 := (hbw.cell (p := ⟨g, off + k * 3 + 1, none⟩) hbl).trans q1
        have c2 := (hbw.cell (p := ⟨g, off + k * 3 + 2, none⟩) hbl).trans q2
        have i1 : (k : Int) < (xs.length : Int) := by omega
        have i0 : (0 : Int) ≤ (k : Int) := by omega
        have hstep := chkR_step xs k hlt
        rw [hstep] at hch
        have HBW := Lib.hid hbw
        rcases (show xs[k].1 < 1 ∨ (1 ≤ xs[k].1 ∧ 255 < xs[k].1) ∨ (1 ≤ xs[k].1 ∧ xs[k].1 ≤ 255) by omega) with h | ⟨h, h'⟩ | ⟨h, h'⟩
        · rw [if_pos (by omega)] at hch
          have HCH := Lib.hid hch
          clear hch hstep hc q0 q1 q2 hbw
          generalize xs[k].1 = no at *; generalize wi xs[k].2.1 = ka at *; generalize wi xs[k].2.2 = kb at *
          go_wp2
          go_ret
          exact ⟨by rw [HCH.out]; rfl, by first | exact HBW.out | exact HBW.out.alloc HBW.out.size _⟩
        · rw [if_pos (by omega)] at hch
          have HCH := Lib.hid hch
          clear hch hstep hc q0 q1 q2 hbw
          generalize xs[k].1 = no at *; generalize wi xs[k].2.1 = ka at *; generalize wi xs[k].2.2 = kb at *
          go_wp2
          go_ret
          exact ⟨by rw [HCH.out]; rfl, by first | exact HBW.out | exact HBW.out.alloc HBW.out.size _⟩
        · rw [if_neg (by omega)] at hch
          rcases k with _ | j
          · have hp : prevNo xs 0 = 0 := rfl
            rw [hp, if_neg (by omega)] at hch
            have HCH := Lib.hid hch
            clear hch hstep hc q0 q1 q2 hbw hp
            simp only [Nat.zero_mul, Nat.add_zero] at c0 c1 c2
            generalize xs[0].1 = no at *; generalize wi xs[0].2.1 = ka at *; generalize wi xs[0].2.2 = kb at *
            go_wp2_with fail
            try go_quiet (fail)
            go_wp2
            go_roundw
            case rel => exact ⟨0 + 1, by omega, by go_num, HCH.out, by first | exact HBW.out | exact HBW.out.alloc HBW.out.size _ | exact bn (HBW.out.alloc HBW.out.size _) _⟩
            case measure => simp [intOf]; omega
          · obtain ⟨p0, _, _⟩ := eE_at hc j (by omega)
            have e0 := (hbw.cell (p := ⟨g, off + j * 3, none⟩) hbl).trans p0
            have hp : prevNo xs (j + 1) = xs[j].1 := by show (xs.getD j (0, 0, 0)).1 = _; rw [List.getD_eq_getElem?_getD, List.getElem?_eq_getElem (by omega)]; rfl
            rw [hp] at hch
            have hj1 : ((j + 1 : Nat) : Int) - 1 = (j : Int) := by omega
            have hj0 : (0 : Int) ≤ (j : Int) := by omega
            have hj2 : (j : Int) < (xs.length : Int) := by omega
            have hwk : IntKind.i64.wrap (((j + 1 : Nat) : Int) - 1) = (j : Int) := by rw [hj1]; exact IntWalk.i64_in _ (by omega)
            clear hstep hc q0 q1 q2 hbw hp p0 hj1
            by_cases hle : xs[j + 1].1 ≤ xs[j].1
            · rw [if_pos hle] at hch
              have HCH := Lib.hid hch
              clear hch
              generalize xs[j + 1].1 = no at *; generalize wi xs[j + 1].2.1 = ka at *; generalize wi xs[j + 1].2.2 = kb at *; generalize xs[j].1 = pr at *
              have e1 : (wr.alloc (.cells #[.int .i64 no, .int .u64 ka, .int .u64 kb] 54)).cell? ⟨g, off + j * 3, none⟩ = some (.int .i64 pr) := kp ((br wr).alloc (Nat.le_refl _) _) e0
              go_wp2_with fail
              go_quiet (fail)
              go_wp2
              go_ret
              exact ⟨by rw [HCH.out]; rfl, by first | exact HBW.out | exact HBW.out.alloc HBW.out.size _ | exact bn (HBW.out.alloc HBW.out.size _) _⟩
            · rw [if_neg hle] at hch
              have HCH := Lib.hid hch
              clear hch
              generalize xs[j + 1].1 = no at *; generalize wi xs[j + 1].2.1 = ka at *; generalize wi xs[j + 1].2.2 = kb at *; generalize xs[j].1 = pr at *
              have e1 : (wr.alloc (.cells #[.int .i64 no, .int .u64 ka, .int .u64 kb] 54)).cell? ⟨g, off + j * 3, none⟩ = some (.int .i64 pr) := kp ((br wr).alloc (Nat.le_refl _) _) e0
              go_wp2_with fail
              go_quiet (fail)
              go_wp2
              go_roundw
              case rel => exact ⟨j + 1 + 1, by omega, by go_num, HCH.out, by first | exact HBW.out | exact HBW.out.alloc HBW.out.size _ | exact bn (HBW.out.alloc HBW.out.size _) _⟩
              case measure => simp [intOf]; omega
      · have hch2 : chk xs = 0 := hch.trans (chkR_end xs k (by omega) _)
        have HCH := Lib.hid hch2
        clear hch hch2 H3
        go_wp2
        go_ret
        exact ⟨by rw [HCH.out]; rfl, hbw⟩
end Rg
end Go.Proofs.YtdfdjampodkpgaaDoor
end

/-! RingAt -/
section
/- Rings: where an epoch stands; a copy of a ring. -/
set_option linter.unusedSimpArgs false
set_option linter.unusedVariables false
namespace Go.Proofs.YtdfdjampodkpgaaDoor
open Go.RowKit
namespace Rg
open Tg
theorem clo_any (B0 : Nat) (no : Int) (x : Ep) (w : World) (c0 : w.cell? ⟨B0, 0, none⟩ = some (.int .i64 no)) : Calls Tryd.prog 75 #[.agg #[.int .i64 x.1, .int .u64 (wi x.2.1), .int .u64 (wi x.2.2)], .pointer (some ⟨B0, 0, none⟩)] w fun e w' => e = .returned (.bool (decide (x.1 = no))) ∧ Below w.heap.size w w' := by
  have hd : (x.1 == no) = decide (x.1 = no) := rfl
  have HD := Lib.hid hd; clear hd
  generalize x.1 = n at *; generalize wi x.2.1 = ka at *; generalize wi x.2.2 = kb at *
  have c1 : (w.alloc (.cells #[.int .i64 n, .int .u64 ka, .int .u64 kb] 54)).cell? ⟨B0, 0, none⟩ = some (.int .i64 no) := kp ((br w).alloc (Nat.le_refl _) _) c0
  go_enter Tryd.func75, Tryd.ntmps75
  go_wp2_with fail
  try go_quiet (fail)
  go_wp2
  go_ret
  exact ⟨by first | rfl | (rw [← HD.out]) | simp, by first | exact (br _).alloc (Nat.le_refl _) _ | exact bn ((br _).alloc (Nat.le_refl _) _) _⟩
set_option maxHeartbeats 1000000 in
theorem idx_any (B0 : Nat) (no : Int) (v : Value) (xs : List Ep) (w : World) (h : Rd 3 eE w v xs) (c0 : w.cell? ⟨B0, 0, none⟩ = some (.int .i64 no)) :
    Calls Tryd.prog 74 #[v, .func (.func 75) #[] #[.pointer (some ⟨B0, 0, none⟩)]] w (ErrQ (if atN no xs = xs.length then -1 else (atN no xs : Int)) w) := by
  have hle := h.len_le
  obtain ⟨a, cap, rfl, h1, h2, h3⟩ := h
  have H3 := Lib.hid h3; clear h3
  have eg : ∀ args w, (callFunc 75 args).run Tryd.prog w = .ok (.enter 75 args) w := enters_of Tryd.func75 (by kernel_rfl) rfl
  obtain ⟨RES, hRES⟩ : ∃ RES : Int, (if atN no xs = xs.length then -1 else (atN no xs : Int)) = RES := ⟨_, rfl⟩
  rw [hRES]
  have HRES := Lib.hid hRES; clear hRES
  go_enter Tryd.func74, Tryd.ntmps74
  go_wp2
  go_loopw [8] (fun i wr => ∃ k : Nat, k ≤ xs.length ∧ i = .int .i64 k ∧ (∀ j (hj : j < xs.length), j < k → xs[j].1 ≠ no) ∧ Below w.heap.size w wr) (fun i _ => xs.length - (intOf i).toNat)
  case atStart => exact ⟨0, Nat.zero_le _, rfl, fun j hj hk => by omega, br _⟩
  case round =>
    obtain ⟨k, hk, rfl, hall, hbw⟩ := hrel
    by_cases hlt : k < xs.length
    · obtain ⟨g, off, rfl, hbl, hc⟩ := H3.out (by omega)
      obtain ⟨q0, q1, q2⟩ := eE_at hc k hlt
      have d0 := (hbw.cell (p := ⟨g, off + k * 3, none⟩) hbl).trans q0
      have d1 := (hbw.cell (p := ⟨g, off + k * 3 + 1, none⟩) hbl).trans q1
      have d2 := (hbw.cell (p := ⟨g, off + k * 3 + 2, none⟩) hbl).trans q2
      have i1 : (k : Int) < (xs.length : Int) := by omega
      have i0 : (0 : Int) ≤ (k : Int) := by omega
      have hcl := clo_any B0 no xs[k] wr (kp hbw c0)
      have HCL := Lib.hid hcl; have HBW := Lib.hid hbw; have HALL := Lib.hid hall
      by_cases he : xs[k].1 = no
      · have hat : atN no xs = k := atN_eq no xs k (by omega) hall (fun _ => he)
        have hR := HRES.out
        rw [hat, if_neg (by omega)] at hR
        have HR := Lib.hid hR
        have hdt : decide (xs[k].1 = no) = true := decide_eq_true he
        have HDT := Lib.hid hdt
        clear hcl hbw hall hc q0 q1 q2 hR hat hdt he c0
        go_wp2_with fail
        refine (HCL.out).mono ?_
        rintro en w3 ⟨rfl, hb3⟩
        rw [HDT.out]
        go_wp2
        go_ret
        exact ⟨by rw [← HR.out]; rfl, HBW.out.trans (hb3.mono HBW.out.size)⟩
      · have hall2 : ∀ j (hj : j < xs.length), j < k + 1 → xs[j].1 ≠ no := fun j hj hjk => by
          by_cases e : j = k
          · subst e; exact he
          · exact hall j hj (by omega)
        have HA2 := Lib.hid hall2
        have HDT := Lib.hid (decide_eq_false he)
        clear hcl hbw hall hc q0 q1 q2 hall2 he c0
        go_wp2_with fail
        refine (HCL.out).mono ?_
        rintro en w3 ⟨rfl, hb3⟩
        rw [HDT.out]
        have HB3 := Lib.hid (HBW.out.trans (hb3.mono HBW.out.size))
        clear hb3
        go_wp2
        go_roundw
        case rel => exact ⟨k + 1, by omega, by go_num, HA2.out, HB3.out⟩
        case measure => simp [intOf]; omega
    · have hat : atN no xs = xs.length := atN_eq no xs xs.length (Nat.le_refl _) (fun j hj _ => hall j hj (by omega)) (fun h => absurd h (Nat.lt_irrefl _))
      have hR := HRES.out
      rw [if_pos hat] at hR
      have HR := Lib.hid hR
      clear hR hat hall H3 HRES
      go_wp2
      go_ret
      exact ⟨by rw [← HR.out]; rfl, hbw⟩
theorem at_any (no : Int) (v : Value) (xs : List Ep) (w : World) (h : Rd 3 eE w v xs) : Calls Tryd.prog 49 #[v, .int .i64 no] w (ErrQ (if atN no xs = xs.length then -1 else (atN no xs : Int)) w) := by
  have hI := idx_any w.heap.size no v xs (w.alloc (.cells #[.int .i64 no] 3)) (h.below ((br w).alloc (Nat.le_refl _) _)) (by rw [World.cell?_alloc_mark]; rfl)
  have HI := Lib.hid hI; clear hI
  obtain ⟨RES, hRES⟩ : ∃ RES : Int, (if atN no xs = xs.length then -1 else (atN no xs : Int)) = RES := ⟨_, rfl⟩
  rw [hRES] at HI ⊢
  clear hRES
  go_enter Tryd.func49, Tryd.ntmps49
  go_wp2_with fail
  refine HI.out.mono ?_
  rintro en w1 ⟨rfl, hb1⟩
  go_wp2
  go_ret
  exact ⟨rfl, bt ((br _).alloc (Nat.le_refl _) _) hb1⟩
set_option maxHeartbeats 1000000 in
theorem clone_any (v : Value) (xs : List Ep) (w : World) (h : Rd 3 eE w v xs) (hl : xs.length ≤ 8) : Calls Tryd.prog 47 #[v] w fun e w' => ∃ v', e = .returned v' ∧ OwnE w' w.heap.size v' xs ∧ Below w.heap.size w w' := by
  have H := Lib.hid h
  obtain ⟨a, cap, rfl, h1, h2, h3⟩ := h
  rcases a with _ | ad
  · have hz : xs = [] := by
      rcases xs with _ | ⟨x, xs⟩
      · rfl
      · obtain ⟨b, off, e, _⟩ := h3 (by simp); cases e
    subst hz
    have q : ∀ w, (binOp .eql 22 (.slice none 0 cap) (.slice none 0 0)).run Tryd.prog w = .ok (.bool true) w := fun w => Lib.run_eql_slice_nil w _ _ none 0 cap 0 0 Tryd.underlying22
    have hN := Lib.hid (own_nilE w w.heap.size)
    clear h3
    show Calls _ _ #[.slice none 0 cap] _ _
    go_enter Tryd.func47, Tryd.ntmps47
    go_wp2
    go_ret
    exact ⟨_, rfl, hN.out, br _⟩
  · clear h3
    have q : ∀ w, (binOp .eql 22 (.slice (some ad) xs.length cap) (.slice none 0 0)).run Tryd.prog w = .ok (.bool false) w := fun w => Lib.run_eql_slice_nil w _ _ (some ad) xs.length cap 0 0 Tryd.underlying22
    go_enter Tryd.func47, Tryd.ntmps47
    go_wp2_with (at_builtin; refine app_list rfl (.tmp 5) (.tmp 6) rfl w.heap.size _ [] rfl (own0 w w.heap.size w.heap.size rfl (Nat.le_refl _)) _ xs rfl (H.out.below ((br w).alloc (Nat.le_refl _) _)) (by simp; omega) (by simp) ?_; intro v1 w5 hown1 hb5 hfar5; have HO1 := Lib.hid hown1; have HB5 := Lib.hid (((br w).alloc (Nat.le_refl _) _).trans hb5); clear hown1 hfar5 hb5)
    go_ret
    exact ⟨_, rfl, HO1.out, HB5.out⟩
end Rg
end Go.Proofs.YtdfdjampodkpgaaDoor
end

/-! RingAdd -/
section
/- Rings: a key is added. -/
set_option linter.unusedSimpArgs false
set_option linter.unusedVariables false
namespace Go.Proofs.YtdfdjampodkpgaaDoor
open Go.RowKit
namespace Rg
open Tg
def aKey (a b : W64) : Value := .agg #[.int .u64 (wi a), .int .u64 (wi b)]
def RingQ (r : List Ep × Int) (w : World) (e : Ending) (w' : World) : Prop := ∃ v', e = .returned (.tuple #[v', .int .i64 r.2]) ∧ Rd 3 eE w' v' r.1 ∧ Below w.heap.size w w'
theorem add_cases (xs : List Ep) (k : W64 × W64) : (chk xs ≠ 0 ∧ addF xs k = ([], chk xs)) ∨ (chk xs = 0 ∧ xs.length ≤ 8 ∧ (xs.length = 8 ∨ lastNo xs = 255) ∧ addF xs k = ([], 2)) ∨ (chk xs = 0 ∧ xs.length < 8 ∧ lastNo xs ≠ 255 ∧ addF xs k = (xs ++ [(lastNo xs + 1, k)], 0)) := by
  unfold addF
  by_cases h : chk xs = 0
  · have hl : xs.length ≤ 8 := by
      unfold chk at h
      by_cases g : 8 < xs.length
      · rw [if_pos g] at h; simp at h
      · omega
    rw [if_neg (fun x => x h)]
    by_cases g : xs.length = 8 ∨ lastNo xs = 255
    · rw [if_pos g]; exact .inr (.inl ⟨h, hl, g, rfl⟩)
    · rw [if_neg g]; exact .inr (.inr ⟨h, by omega, fun x => g (.inr x), rfl⟩)
  · rw [if_pos h]; exact .inl ⟨h, rfl⟩
theorem last_no (xs : List Ep) (n : Nat) (h : xs.length = n + 1) : lastNo xs = (xs[n]'(by omega)).1 := by
  unfold lastNo
  rw [List.getLast?_eq_getElem?, List.getElem?_eq_getElem (by omega)]
  simp [h]
theorem last_bd {xs : List Ep} (h : chk xs = 0) : 0 ≤ lastNo xs ∧ lastNo xs ≤ 255 := by
  unfold chk at h
  by_cases g : 8 < xs.length
  · rw [if_pos g] at h; simp at h
  · rw [if_neg g] at h
    obtain ⟨g1, _⟩ := chkR_spec xs 0 h
    unfold lastNo
    cases hx : xs.getLast? with
    | none => simp
    | some x => have := g1 x (List.mem_of_getLast? hx); simp only; omega
set_option maxHeartbeats 2000000 in
theorem add_any (v : Value) (xs : List Ep) (a b : W64) (w : World) (h : Rd 3 eE w v xs) : Calls Tryd.prog 19 #[v, aKey a b] w (RingQ (addF xs (a, b)) w) := by
  have H := Lib.hid h
  have hck := check_any v xs
  have HCK := Lib.hid hck; clear hck
  obtain ⟨ad, cap, rfl, h1, h2, h3⟩ := h
  have H3 := Lib.hid h3; clear h3
  unfold aKey
  rcases add_cases xs (a, b) with ⟨hc, hF⟩ | ⟨hc, hl, hor, hF⟩ | ⟨hc, hl, hne, hF⟩
  · have HF := Lib.hid hF; have hb : (chk xs != 0) = true := by simp [hc]
    generalize chk xs = C at *
    clear hF
    go_enter Tryd.func19, Tryd.ntmps19
    go_wp2_with fail
    refine (HCK.out _ (H.out.below ((br w).alloc (Nat.le_refl _) _))).mono ?_
    rintro en w1 ⟨rfl, hb1⟩
    go_wp2
    go_ret2
    exact ⟨_, by rw [HF.out]; rfl, by rw [HF.out]; exact Rd.nil _, bt ((br w).alloc (Nat.le_refl _) _) hb1⟩
  · have HF := Lib.hid hF
    have hbd := last_bd hc
    rw [hc] at HCK
    clear hF hc
    rcases (show xs.length = 0 ∨ ∃ n, xs.length = n + 1 by rcases hx : xs.length with _ | n; exact .inl rfl; exact .inr ⟨n, rfl⟩) with hn | ⟨n, hn⟩
    · exfalso
      have hx : xs = [] := List.eq_nil_of_length_eq_zero hn
      subst hx
      rcases hor with h | h
      · simp at h
      · simp [lastNo] at h
    · have hlast := last_no xs n hn
      obtain ⟨g, off, rfl, hbl, hcc⟩ := H3.out (by omega)
      have q0 := (eE_at hcc n (by omega)).1
      rw [← hlast] at q0
      generalize lastNo xs = L at *
      have hi : (xs.length : Int) - 1 = (n : Int) := by omega
      have hn0 : (0 : Int) ≤ (n : Int) := by omega
      have hn1 : (n : Int) < (xs.length : Int) := by omega
      have hpos : (0 : Int) < (xs.length : Int) := by omega
      clear hcc hlast hbd
      have hor2 : (xs.length : Int) = 8 ∨ (xs.length ≠ 8 ∧ L = 255) := by omega
      clear hn hor
      rcases hor2 with h8 | ⟨h8, h255⟩
      case' inl => have e8 : ((xs.length : Int) == 8) = true := by simp [h8]
                   clear h8
      case' inr => have e8 : ((xs.length : Int) == 8) = false := by simp; omega
      all_goals
        go_enter Tryd.func19, Tryd.ntmps19
        go_wp2_with fail
        refine (HCK.out _ (H.out.below ((br w).alloc (Nat.le_refl _) _))).mono ?_
        rintro en w1 ⟨rfl, hb1⟩
        have HB1 : Below w.heap.size w w1 := bt ((br w).alloc (Nat.le_refl _) _) hb1
        have c0 := (HB1.cell (p := ⟨g, off + n * 3, none⟩) hbl).trans q0
        clear hb1
        go_wp2
        go_ret2
        have hr := HF.out
        unfold RingQ
        rw [hr]
        exact ⟨.slice none 0 0, rfl, Rd.nil _, HB1⟩
  · have HF := Lib.hid hF
    have hbd := last_bd hc
    rw [hc] at HCK
    clear hF hc
    have e8 : ((xs.length : Int) == 8) = false := by simp; omega
    rcases (show xs.length = 0 ∨ ∃ n, xs.length = n + 1 by rcases hx : xs.length with _ | n; exact .inl rfl; exact .inr ⟨n, rfl⟩) with hn | ⟨n, hn⟩
    · have hL : lastNo xs = 0 := by rw [List.eq_nil_of_length_eq_zero hn]; rfl
      rw [hL] at HF
      have hl8 : xs.length ≤ 8 := by omega
      have hwk : IntKind.i64.wrap (0 + 1) = 1 := by decide
      have hz : ¬ (0 : Int) < (xs.length : Int) := by omega
      have HN := Lib.hid hn
      clear H3 hbd hne hL hn
      go_enter Tryd.func19, Tryd.ntmps19
      go_wp2_with fail
      refine (HCK.out _ (H.out.below ((br w).alloc (Nat.le_refl _) _))).mono ?_
      rintro en w1 ⟨rfl, hb1⟩
      have HB1 : Below w.heap.size w w1 := bt ((br w).alloc (Nat.le_refl _) _) hb1
      have k0 : w1.cell? ⟨w.heap.size, 0, none⟩ = some (.int .u64 (wi a)) := boxc (bx hb1) 0
      have k1 : w1.cell? ⟨w.heap.size, 1, none⟩ = some (.int .u64 (wi b)) := boxc (bx hb1) 1
      clear hb1
      go_wp2_with fail
      have HB1' := Lib.hid HB1
      have hl9 : (xs.length + 1) * 24 ≤ 140737488355328 := by omega
      have hlz : ∀ o, w1.heap.size ≤ (w1.alloc o).drew.heap.size := fun o => ((br w1).alloc (Nat.le_refl _) o).size
      have R1 := Lib.hid (H.out.below HB1)
      go_region_held3 (fun w' => w'.cell? ⟨w.heap.size, 0, none⟩ = some (.int .u64 (wi a)) ∧ w'.cell? ⟨w.heap.size, 1, none⟩ = some (.int .u64 (wi b)))
        (first | go_keep | (go_split_ands; exact ⟨kp hfB2 k0, kp hfB2 k1⟩) | (go_split_ands; exact ⟨kp hfB1 k0, kp hfB1 k1⟩))
        (first
          | (go_at_call 47; (with_reducible refine (clone_any _ xs _ (R1.out.below (br w1).drew) hl8).mono ?_); rintro en w3 ⟨v1, rfl, hown1, hb3⟩; have hfB1 : Below w1.heap.size w1 w3 := bd (br w1) hb3; have hle : w1.heap.size ≤ w1.drew.heap.size := Nat.le_refl w1.heap.size)
          | (go_at_call 47; (with_reducible refine (clone_any _ xs _ (R1.out.below ((br w1).alloc (Nat.le_refl _) _).drew) hl8).mono ?_); rintro en w3 ⟨v1, rfl, hown1, hb3⟩; have hfZ := bd (br (w1.alloc _)) hb3; have hfB1 : Below w1.heap.size w1 w3 := bt ((br w1).alloc (Nat.le_refl _) _) hfZ; have hle := hlz (.cells #[.int .i64 (1), .int .u64 (wi a), .int .u64 (wi b)] 54); have hrd := Lib.hid ((rd1a w1 (1) a b _ w1.heap.size rfl).below hfZ))
          | ((refine step_app (by rfl) (.tmp 32) (.tmp 37) (by rfl) _ _ xs (by rfl) hown1 _ [(1, a, b)] (by rfl) hrd.out hl9 hb3.size ?_; intro v2 w5 hown2 hbel2 hfar2; have hfB2 : Below w1.heap.size w1 w5 := hfB1.trans (hbel2.mono hle)))
          | ((refine step_app (by rfl) (.tmp 32) (.tmp 37) (by rfl) _ _ xs (by rfl) (hown1.alloc _) _ [(1, a, b)] (by rfl) (rd1a w3 (1) a b _ w3.heap.size rfl) hl9 (Nat.le_trans hb3.size ((br w3).alloc (Nat.le_refl _) _).size) ?_; intro v2 w5 hown2 hbel2 hfar2; have hfB2 : Below w1.heap.size w1 w5 := (hfB1.alloc hfB1.size _).trans (hbel2.mono hle))))
      all_goals
        have hr := HF.out
        go_wp2
        go_ret2
        unfold RingQ
        rw [hr]
        exact ⟨_, rfl, hown2.rd, bt HB1'.out hfB2⟩
    · have hlast := last_no xs n hn
      obtain ⟨g, off, rfl, hbl, hcc⟩ := H3.out (by omega)
      have q0 := (eE_at hcc n (by omega)).1
      rw [← hlast] at q0
      generalize lastNo xs = L at *
      have hi : (xs.length : Int) - 1 = (n : Int) := by omega
      have hn0 : (0 : Int) ≤ (n : Int) := by omega
      have hn1 : (n : Int) < (xs.length : Int) := by omega
      have hpos : (0 : Int) < (xs.length : Int) := by omega
      have e255 : (L == 255) = false := by simp [hne]
      have hl8 : xs.length ≤ 8 := by omega
      have hwk : IntKind.i64.wrap (L + 1) = L + 1 := IntWalk.i64_in _ (by omega)
      have HN := Lib.hid hn
      clear hcc hlast hn
      go_enter Tryd.func19, Tryd.ntmps19
      go_wp2_with fail
      refine (HCK.out _ (H.out.below ((br w).alloc (Nat.le_refl _) _))).mono ?_
      rintro en w1 ⟨rfl, hb1⟩
      have HB1 : Below w.heap.size w w1 := bt ((br w).alloc (Nat.le_refl _) _) hb1
      have k0 : w1.cell? ⟨w.heap.size, 0, none⟩ = some (.int .u64 (wi a)) := boxc (bx hb1) 0
      have k1 : w1.cell? ⟨w.heap.size, 1, none⟩ = some (.int .u64 (wi b)) := boxc (bx hb1) 1
      have c0 := (HB1.cell (p := ⟨g, off + n * 3, none⟩) hbl).trans q0
      clear q0 hb1
      go_wp2_with fail
      have HB1' := Lib.hid HB1
      have hl9 : (xs.length + 1) * 24 ≤ 140737488355328 := by omega
      have hlz : ∀ o, w1.heap.size ≤ (w1.alloc o).drew.heap.size := fun o => ((br w1).alloc (Nat.le_refl _) o).size
      have R1 := Lib.hid (H.out.below HB1)
      go_region_held3 (fun w' => w'.cell? ⟨w.heap.size, 0, none⟩ = some (.int .u64 (wi a)) ∧ w'.cell? ⟨w.heap.size, 1, none⟩ = some (.int .u64 (wi b)))
        (first | go_keep | (go_split_ands; exact ⟨kp hfB2 k0, kp hfB2 k1⟩) | (go_split_ands; exact ⟨kp hfB1 k0, kp hfB1 k1⟩))
        (first
          | (go_at_call 47; (with_reducible refine (clone_any _ xs _ (R1.out.below (br w1).drew) hl8).mono ?_); rintro en w3 ⟨v1, rfl, hown1, hb3⟩; have hfB1 : Below w1.heap.size w1 w3 := bd (br w1) hb3; have hle : w1.heap.size ≤ w1.drew.heap.size := Nat.le_refl w1.heap.size)
          | (go_at_call 47; (with_reducible refine (clone_any _ xs _ (R1.out.below ((br w1).alloc (Nat.le_refl _) _).drew) hl8).mono ?_); rintro en w3 ⟨v1, rfl, hown1, hb3⟩; have hfZ := bd (br (w1.alloc _)) hb3; have hfB1 : Below w1.heap.size w1 w3 := bt ((br w1).alloc (Nat.le_refl _) _) hfZ; have hle := hlz (.cells #[.int .i64 (L + 1), .int .u64 (wi a), .int .u64 (wi b)] 54); have hrd := Lib.hid ((rd1a w1 (L + 1) a b _ w1.heap.size rfl).below hfZ))
          | ((refine step_app (by rfl) (.tmp 32) (.tmp 37) (by rfl) _ _ xs (by rfl) hown1 _ [(L + 1, a, b)] (by rfl) hrd.out hl9 hb3.size ?_; intro v2 w5 hown2 hbel2 hfar2; have hfB2 : Below w1.heap.size w1 w5 := hfB1.trans (hbel2.mono hle)))
          | ((refine step_app (by rfl) (.tmp 32) (.tmp 37) (by rfl) _ _ xs (by rfl) (hown1.alloc _) _ [(L + 1, a, b)] (by rfl) (rd1a w3 (L + 1) a b _ w3.heap.size rfl) hl9 (Nat.le_trans hb3.size ((br w3).alloc (Nat.le_refl _) _).size) ?_; intro v2 w5 hown2 hbel2 hfar2; have hfB2 : Below w1.heap.size w1 w5 := (hfB1.alloc hfB1.size _).trans (hbel2.mono hle))))
      all_goals
        have hr := HF.out
        go_wp2
        go_ret2
        unfold RingQ
        rw [hr]
        exact ⟨_, rfl, hown2.rd, bt HB1'.out hfB2⟩
end Rg
end Go.Proofs.YtdfdjampodkpgaaDoor
end

/-! RingMark -/
section
/- Rings: what is marked with its tag. -/
set_option linter.unusedSimpArgs false
set_option linter.unusedVariables false
namespace Go.Proofs.YtdfdjampodkpgaaDoor
open Go.RowKit
namespace Rg
open Tg
def byteOf (N : W64) (k : Nat) : Nat := N.toNat / 2 ^ (8 * k) % 256
theorem byteOf_lt (N : W64) (k : Nat) : byteOf N k < 256 := by unfold byteOf; omega
theorem byte_wrap (N : W64) (k : Nat) (P : Int) (hP : P = 2 ^ (8 * k)) : IntKind.u8.wrap (wi N / P) = (byteOf N k : Int) := by
  unfold byteOf wi
  rw [IntKind.wrap_u8, hP]
  have : ((2 : Int) ^ (8 * k)) = ((2 ^ (8 * k) : Nat) : Int) := by simp
  rw [this]
  omega
/-- eight bytes in a block of the call's own, the first k of them are set -/
structure B8 (W w : World) (g : Nat) (N : W64) (k : Nat) : Prop where
  below : Below W.heap.size W w
  ge : W.heap.size ≤ g
  lt : g < w.heap.size
  cell : ∀ j, j < 8 → w.cell? ⟨g, j, none⟩ = some (.int .u8 ((if j < k then byteOf N j else 0 : Nat) : Int))
  froz : ∀ j, w.frozen? ⟨g, j, none⟩ = false
theorem B8.set {W w : World} {g : Nat} {N : W64} {k : Nat} (h : B8 W w g N k) (hk : k < 8) : B8 W (w.setCell ⟨g, k, none⟩ (.int .u8 (byteOf N k))) g N (k + 1) := by
  refine ⟨h.below.setCell h.ge _, h.ge, by have := h.lt; simpa using this, fun j hj => ?_, fun j => ?_⟩
  · by_cases e : j = k
    · subst e
      rw [World.cell?_setCell_same w _ _ (h.cell j hj), if_pos (by omega)]
    · rw [World.cell?_setCell_other w _ _ _ (by intro e2; injection e2; omega), h.cell j hj]
      by_cases h1 : j < k
      · rw [if_pos h1, if_pos (by omega)]
      · rw [if_neg h1, if_neg (by omega)]
  · rw [World.frozen?_setCell]; exact h.froz j
theorem b8_0 (W w1 : World) (hb : Below W.heap.size W w1) (N : W64) (t : TypeId) : B8 W (w1.alloc (.cells #[.int .u8 0, .int .u8 0, .int .u8 0, .int .u8 0, .int .u8 0, .int .u8 0, .int .u8 0, .int .u8 0] t)) w1.heap.size N 0 := by
  refine ⟨hb.alloc hb.size _, hb.size, by simp, fun j hj => ?_, fun j => ?_⟩
  · rw [World.cell?_alloc_mark, if_neg (by omega)]
    match j, hj with
    | 0, _ => rfl
    | 1, _ => rfl
    | 2, _ => rfl
    | 3, _ => rfl
    | 4, _ => rfl
    | 5, _ => rfl
    | 6, _ => rfl
    | 7, _ => rfl
  · rw [World.frozen?_alloc_mark]; simp
/-- the eight bytes, the least one first -/
def leL (N : W64) : List UInt8 := [UInt8.ofNat (byteOf N 0), UInt8.ofNat (byteOf N 1), UInt8.ofNat (byteOf N 2), UInt8.ofNat (byteOf N 3), UInt8.ofNat (byteOf N 4), UInt8.ofNat (byteOf N 5), UInt8.ofNat (byteOf N 6), UInt8.ofNat (byteOf N 7)]
def markB (a b : W64) (s : ByteArray) : ByteArray := s ++ ⟨(leL (tagF a b s.data.toList)).toArray⟩
theorem leL_at (N : W64) (j : Nat) (hj : j < (leL N).length) : ((leL N)[j].toNat : Int) = (byteOf N j : Int) := by
  have h : ∀ k, (UInt8.ofNat (byteOf N k)).toNat = byteOf N k := fun k => by
    have := byteOf_lt N k
    simp; omega
  match j, hj with
  | 0, _ => exact congrArg _ (h 0)
  | 1, _ => exact congrArg _ (h 1)
  | 2, _ => exact congrArg _ (h 2)
  | 3, _ => exact congrArg _ (h 3)
  | 4, _ => exact congrArg _ (h 4)
  | 5, _ => exact congrArg _ (h 5)
  | 6, _ => exact congrArg _ (h 6)
  | 7, _ => exact congrArg _ (h 7)
set_option maxHeartbeats 2000000 in
theorem marked_any (a b : W64) (s : ByteArray) (hs : s.size ≤ 1000) (w : World) : Calls Tryd.prog 54 #[aKey a b, .string s] w fun e w' => e = .returned (.string (markB a b s)) ∧ Below w.heap.size w w' := by
  obtain ⟨M, hM⟩ : ∃ M, markB a b s = M := ⟨_, rfl⟩
  rw [hM]
  unfold markB at hM
  have HM := Lib.hid hM
  clear hM
  unfold aKey
  go_enter Tryd.func54, Tryd.ntmps54
  go_wp2_with fail
  refine (of_any a b s _ (by omega)).mono ?_
  rintro en w1 ⟨rfl, hb1⟩
  generalize tagF a b s.data.toList = N at *
  have HB1 : Below w.heap.size w w1 := bt ((br _).alloc (Nat.le_refl _) _) hb1
  have B0 := Lib.hid (b8_0 w w1 HB1 N 117)
  have hN := wi_bd N
  have hN0 := hN.1; have hN1 := hN.2
  clear hb1 hN
  go_wp2_with fail
  go_loopw [11] (fun i wr => ∃ k : Nat, k ≤ 8 ∧ i = .int .i64 k ∧ B8 w wr w1.heap.size N k) (fun i _ => 8 - (intOf i).toNat)
  case atStart => exact ⟨0, by omega, rfl, B0.out⟩
  case round =>
    obtain ⟨k, hk, rfl, hB⟩ := hrel
    clear B0
    have HB := Lib.hid hB
    clear hB
    rcases (show k = 0 ∨ k = 1 ∨ k = 2 ∨ k = 3 ∨ k = 4 ∨ k = 5 ∨ k = 6 ∨ k = 7 ∨ k = 8 by omega) with rfl | rfl | rfl | rfl | rfl | rfl | rfl | rfl | rfl
    · have c := HB.out.cell 0 (by omega); have f := HB.out.froz 0
      rw [if_neg (by omega)] at c
      have e := byte_wrap N 0 1 (by decide)
      have e0 : wi N % 256 = ((byteOf N 0 : Nat) : Int) := by have h := byte_wrap N 0 1 (by decide); rw [Int.ediv_one, IntKind.wrap_u8] at h; exact h
      have HB2 := Lib.hid (HB.out.set (by omega))
      clear HB
      go_wp2
      go_roundw
      case rel => exact ⟨1, by omega, rfl, HB2.out⟩
      case measure => simp [intOf]
    · have c := HB.out.cell 1 (by omega); have f := HB.out.froz 1
      rw [if_neg (by omega)] at c
      have e := byte_wrap N 1 256 (by decide)
      have HB2 := Lib.hid (HB.out.set (by omega))
      clear HB
      go_wp2
      go_roundw
      case rel => exact ⟨2, by omega, rfl, HB2.out⟩
      case measure => simp [intOf]
    · have c := HB.out.cell 2 (by omega); have f := HB.out.froz 2
      rw [if_neg (by omega)] at c
      have e := byte_wrap N 2 65536 (by decide)
      have HB2 := Lib.hid (HB.out.set (by omega))
      clear HB
      go_wp2
      go_roundw
      case rel => exact ⟨3, by omega, rfl, HB2.out⟩
      case measure => simp [intOf]
    · have c := HB.out.cell 3 (by omega); have f := HB.out.froz 3
      rw [if_neg (by omega)] at c
      have e := byte_wrap N 3 16777216 (by decide)
      have HB2 := Lib.hid (HB.out.set (by omega))
      clear HB
      go_wp2
      go_roundw
      case rel => exact ⟨4, by omega, rfl, HB2.out⟩
      case measure => simp [intOf]
    · have c := HB.out.cell 4 (by omega); have f := HB.out.froz 4
      rw [if_neg (by omega)] at c
      have e := byte_wrap N 4 4294967296 (by decide)
      have HB2 := Lib.hid (HB.out.set (by omega))
      clear HB
      go_wp2
      go_roundw
      case rel => exact ⟨5, by omega, rfl, HB2.out⟩
      case measure => simp [intOf]
    · have c := HB.out.cell 5 (by omega); have f := HB.out.froz 5
      rw [if_neg (by omega)] at c
      have e := byte_wrap N 5 1099511627776 (by decide)
      have HB2 := Lib.hid (HB.out.set (by omega))
      clear HB
      go_wp2
      go_roundw
      case rel => exact ⟨6, by omega, rfl, HB2.out⟩
      case measure => simp [intOf]
    · have c := HB.out.cell 6 (by omega); have f := HB.out.froz 6
      rw [if_neg (by omega)] at c
      have e := byte_wrap N 6 281474976710656 (by decide)
      have HB2 := Lib.hid (HB.out.set (by omega))
      clear HB
      go_wp2
      go_roundw
      case rel => exact ⟨7, by omega, rfl, HB2.out⟩
      case measure => simp [intOf]
    · have c := HB.out.cell 7 (by omega); have f := HB.out.froz 7
      rw [if_neg (by omega)] at c
      have e := byte_wrap N 7 72057594037927936 (by decide)
      have HB2 := Lib.hid (HB.out.set (by omega))
      clear HB
      go_wp2
      go_roundw
      case rel => exact ⟨8, by omega, rfl, HB2.out⟩
      case measure => simp [intOf]
    · have hcv : (convert 84 9 (.slice (some ⟨w1.heap.size, 0, none⟩) 8 8)).run Tryd.prog wr = .ok (.string ⟨(leL N).toArray⟩) wr := by
        refine run_convert_bytes_back wr 84 9 5 ⟨w1.heap.size, 0, none⟩ 8 (leL N) Tryd.underlying84 Tryd.underlying5 Tryd.underlying9 (fun j hj => ?_)
        have hj8 : j < 8 := hj
        have ha : (⟨w1.heap.size, 0, none⟩ : Addr).add j = ⟨w1.heap.size, j, none⟩ := by unfold Addr.add; split <;> simp_all
        rw [ha, HB.out.cell j hj8, if_pos hj8, leL_at]
      obtain ⟨T, hT⟩ : ∃ T : ByteArray, T = ⟨(leL N).toArray⟩ := ⟨_, rfl⟩
      have hTs : T.size ≤ 8 := by rw [hT]; exact Nat.le_refl 8
      rw [← hT] at hcv HM
      have HM2 := Lib.hid HM.out
      clear hT HM
      go_wp2
      go_ret
      exact ⟨by rw [← HM2.out]; rfl, HB.out.below⟩
end Rg
end Go.Proofs.YtdfdjampodkpgaaDoor
end

/-! RingSeal -/
section
/- Rings: a text is sealed. -/
set_option linter.unusedSimpArgs false
set_option linter.unusedVariables false
namespace Go.Proofs.YtdfdjampodkpgaaDoor
open Go.RowKit
namespace Rg
open Tg
def emptyS : ByteArray := ⟨#[]⟩
def oneB (n : Int) : ByteArray := ⟨[UInt8.ofNat n.toNat].toArray⟩
def sealed (x : Ep) (s : ByteArray) : ByteArray := markB x.2.1 x.2.2 (oneB x.1 ++ s)
def sealF (xs : List Ep) (s : ByteArray) : ByteArray × Int := if chk xs ≠ 0 then (emptyS, chk xs) else match xs.getLast? with | none => (emptyS, 5) | some x => if 111 < s.size then (emptyS, 2) else (sealed x s, 0)
def SealQ (r : ByteArray × Int) (w : World) (e : Ending) (w' : World) : Prop := e = .returned (.tuple #[.string r.1, .int .i64 r.2]) ∧ Below w.heap.size w w'
theorem seal_cases (xs : List Ep) (s : ByteArray) : (chk xs ≠ 0 ∧ sealF xs s = (emptyS, chk xs)) ∨ (chk xs = 0 ∧ xs.length = 0 ∧ sealF xs s = (emptyS, 5)) ∨ (∃ n, ∃ h : xs.length = n + 1, chk xs = 0 ∧ 111 < s.size ∧ sealF xs s = (emptyS, 2)) ∨ (∃ n, ∃ h : xs.length = n + 1, chk xs = 0 ∧ s.size ≤ 111 ∧ sealF xs s = (sealed (xs[n]'(by omega)) s, 0)) := by
  unfold sealF
  by_cases hc : chk xs = 0
  · rw [if_neg (fun h => h hc)]
    rcases (show xs.length = 0 ∨ ∃ n, xs.length = n + 1 from by rcases h : xs.length with _ | n; exact .inl rfl; exact .inr ⟨n, rfl⟩) with hx | ⟨n, hx⟩
    · have h0 : xs = [] := List.eq_nil_of_length_eq_zero hx
      subst h0
      exact .inr (.inl ⟨hc, rfl, rfl⟩)
    · have hl : xs.getLast? = some (xs[n]'(by omega)) := by
        rw [List.getLast?_eq_getElem?, List.getElem?_eq_getElem (by omega)]
        simp [hx]
      rw [hl]
      by_cases hs : 111 < s.size
      · exact .inr (.inr (.inl ⟨n, hx, hc, hs, by simp only [if_pos hs]⟩))
      · exact .inr (.inr (.inr ⟨n, hx, hc, by omega, by simp only [if_neg hs]⟩))
  · rw [if_pos hc]; exact .inl ⟨hc, rfl⟩
set_option maxHeartbeats 2000000 in
theorem seal_any (v : Value) (xs : List Ep) (s : ByteArray) (hss : s.size ≤ 9223372036854775807) (w : World) (h : Rd 3 eE w v xs) : Calls Tryd.prog 24 #[v, .string s] w (SealQ (sealF xs s) w) := by
  have H := Lib.hid h
  have HCK := Lib.hid (check_any v xs)
  obtain ⟨ad, cap, rfl, h1, h2, h3⟩ := h
  have H3 := Lib.hid h3; clear h3
  rcases seal_cases xs s with ⟨hc, hF⟩ | ⟨hc, hn, hF⟩ | ⟨n, hn, hc, hs, hF⟩ | ⟨n, hn, hc, hs, hF⟩
  · have HF := Lib.hid hF; have hb : (chk xs != 0) = true := by simp [hc]
    generalize chk xs = C at *
    clear hF
    go_enter Tryd.func24, Tryd.ntmps24
    go_wp2_with fail
    refine (HCK.out _ H.out).mono ?_
    rintro en w1 ⟨rfl, hb1⟩
    go_wp2
    go_ret2
    exact ⟨by rw [HF.out]; rfl, hb1⟩
  · have HF := Lib.hid hF
    have hb : ((xs.length : Int) == 0) = true := by simp [hn]
    rw [hc] at HCK
    clear hF hc hn
    go_enter Tryd.func24, Tryd.ntmps24
    go_wp2_with fail
    refine (HCK.out _ H.out).mono ?_
    rintro en w1 ⟨rfl, hb1⟩
    go_wp2
    go_ret2
    exact ⟨by rw [HF.out]; rfl, hb1⟩
  · have HF := Lib.hid hF
    have hb : ((xs.length : Int) == 0) = false := by rw [beq_eq_false_iff_ne]; omega
    have hs' : (111 : Int) < (s.size : Int) := by omega
    rw [hc] at HCK
    clear hF hc hn
    go_enter Tryd.func24, Tryd.ntmps24
    go_wp2_with fail
    refine (HCK.out _ H.out).mono ?_
    rintro en w1 ⟨rfl, hb1⟩
    go_wp2
    go_ret2
    exact ⟨by rw [HF.out]; rfl, hb1⟩
  · have hb : ((xs.length : Int) == 0) = false := by rw [beq_eq_false_iff_ne]; omega
    have hs' : (s.size : Int) ≤ 111 := by omega
    have hi : (xs.length : Int) - 1 = (n : Int) := by omega
    have hn0 : (0 : Int) ≤ (n : Int) := by omega
    have hn1 : (n : Int) < (xs.length : Int) := by omega
    have hno : 1 ≤ (xs[n]'(by omega)).1 ∧ (xs[n]'(by omega)).1 ≤ 255 := by
      unfold chk at hc
      by_cases g : 8 < xs.length
      · rw [if_pos g] at hc; simp at hc
      · rw [if_neg g] at hc
        obtain ⟨g1, _⟩ := chkR_spec xs 0 hc
        have := g1 _ (List.getElem_mem (l := xs) (n := n) (by omega)); omega
    have hl8 : xs.length ≤ 8 := by
      unfold chk at hc
      by_cases g : 8 < xs.length
      · rw [if_pos g] at hc; simp at hc
      · omega
    have hwn : IntKind.i64.wrap (n : Int) = (n : Int) := by rw [IntKind.wrap_i64]; omega
    have hw1 : IntKind.i64.wrap ((xs.length : Int) - 1) = (n : Int) := by rw [hi]; exact hwn
    rw [hc] at HCK
    obtain ⟨g, off, rfl, hbl, hcc⟩ := H3.out (by omega)
    have q := eE_at hcc n (by omega)
    unfold sealed at hF
    have HF := Lib.hid hF
    clear hF hc hcc
    generalize (xs[n]'(by omega)).1 = no at *
    generalize (xs[n]'(by omega)).2.1 = ka at *
    generalize (xs[n]'(by omega)).2.2 = kb at *
    obtain ⟨q0, q1, q2⟩ := q
    obtain ⟨no1, no2⟩ := hno
    have HN := Lib.hid hn; clear hn
    go_enter Tryd.func24, Tryd.ntmps24
    go_wp2_with fail
    refine (HCK.out _ H.out).mono ?_
    rintro en w1 ⟨rfl, hb1⟩
    have c0 := (hb1.cell (p := ⟨g, off + n * 3, none⟩) hbl).trans q0
    have c1 := (hb1.cell (p := ⟨g, off + n * 3 + 1, none⟩) hbl).trans q1
    have c2 := (hb1.cell (p := ⟨g, off + n * 3 + 2, none⟩) hbl).trans q2
    have HB1 := Lib.hid hb1
    have w8 : IntKind.u8.wrap no = no := by rw [IntKind.wrap_u8]; omega
    have hcv : (convert 84 9 (.slice (some ⟨w1.heap.size + 1, 0, none⟩) 1 1)).run Tryd.prog ((w1.alloc (.cells #[.int .i64 no, .int .u64 (wi ka), .int .u64 (wi kb)] 54)).alloc (.cells #[.int .u8 no] 5)) = .ok (.string (oneB no)) ((w1.alloc (.cells #[.int .i64 no, .int .u64 (wi ka), .int .u64 (wi kb)] 54)).alloc (.cells #[.int .u8 no] 5)) := by
      refine run_convert_bytes_back _ 84 9 5 ⟨w1.heap.size + 1, 0, none⟩ 1 [UInt8.ofNat no.toNat] Tryd.underlying84 Tryd.underlying5 Tryd.underlying9 (fun j hj => ?_)
      have hj1 : j = 0 := by simpa using hj
      subst hj1
      have ha : (⟨w1.heap.size + 1, 0, none⟩ : Addr).add 0 = ⟨w1.heap.size + 1, 0, none⟩ := by unfold Addr.add; split <;> simp_all
      have hs1 : w1.heap.size + 1 = (w1.alloc (.cells #[.int .i64 no, .int .u64 (wi ka), .int .u64 (wi kb)] 54)).heap.size := by simp
      rw [ha, hs1, World.cell?_alloc_mark]
      have : ((UInt8.ofNat no.toNat).toNat : Int) = no := by
        have : (UInt8.ofNat no.toNat).toNat = no.toNat % 256 := by simp
        rw [this]; omega
      simp only [List.getElem_cons_zero]
      rw [this]; rfl
    obtain ⟨T, hT⟩ : ∃ T : ByteArray, oneB no = T := ⟨_, rfl⟩
    have hTs : T.size ≤ 1 := by rw [← hT]; exact Nat.le_refl 1
    rw [hT] at hcv HF
    clear q0 q1 q2 hb1 hT
    have hsz : (T ++ s).size ≤ 1000 := by rw [ByteArray.size_append]; omega
    obtain ⟨TS, hTS⟩ : ∃ TS : ByteArray, T ++ s = TS := ⟨_, rfl⟩
    have hsz2 : TS.size ≤ 1000 := by rw [← hTS]; exact hsz
    rw [hTS] at HF
    clear hsz
    have HM := Lib.hid (marked_any ka kb TS hsz2)
    go_wp2_with fail
    refine (HM.out _).mono ?_
    rintro en w2 ⟨rfl, hb2⟩
    go_wp2
    go_ret2
    exact ⟨by rw [HF.out]; rfl, bt (((HB1.out).alloc HB1.out.size _).alloc (by have := HB1.out.size; simp; omega) _) hb2⟩
end Rg
end Go.Proofs.YtdfdjampodkpgaaDoor
end

/-! RingOpen -/
section
/- Rings: a text is opened. -/
set_option linter.unusedSimpArgs false
set_option linter.unusedVariables false
namespace Go.Proofs.YtdfdjampodkpgaaDoor
open Go.RowKit
namespace Rg
open Tg
theorem str_ne {a b : ByteArray} (h : a ≠ b) : (a.toList == b.toList) = false := by
  rw [← Bool.not_eq_true, beq_iff_eq]
  intro e
  rw [ByteArray.toList_eq, ByteArray.toList_eq] at e
  apply h
  cases a; cases b
  congr 1
  exact Array.toList_inj.1 e
def bodyOf (t : ByteArray) : ByteArray := t.extract 0 (t.size - 8)
def firstB (t : ByteArray) : Int := ((t.data.toList.getD 0 0).toNat : Int)
def openF (xs : List Ep) (t : ByteArray) : ByteArray × Int × Int := if chk xs ≠ 0 then (emptyS, 0, chk xs) else if t.size < 9 ∨ 120 < t.size then (emptyS, 0, 1) else match xs[atN (firstB t) xs]? with | none => (emptyS, 0, 5) | some x => if markB x.2.1 x.2.2 (bodyOf t) = t then ((bodyOf t).extract 1 (t.size - 8), firstB t, 0) else (emptyS, 0, 9)
def OpenQ (r : ByteArray × Int × Int) (w : World) (e : Ending) (w' : World) : Prop := e = .returned (.tuple #[.string r.1, .int .i64 r.2.1, .int .i64 r.2.2]) ∧ Below w.heap.size w w'
theorem open_cases (xs : List Ep) (t : ByteArray) : (chk xs ≠ 0 ∧ openF xs t = (emptyS, 0, chk xs)) ∨ (chk xs = 0 ∧ t.size < 9 ∧ openF xs t = (emptyS, 0, 1)) ∨ (chk xs = 0 ∧ 120 < t.size ∧ openF xs t = (emptyS, 0, 1)) ∨ (chk xs = 0 ∧ 9 ≤ t.size ∧ t.size ≤ 120 ∧ atN (firstB t) xs = xs.length ∧ openF xs t = (emptyS, 0, 5)) ∨ (∃ h : atN (firstB t) xs < xs.length, chk xs = 0 ∧ 9 ≤ t.size ∧ t.size ≤ 120 ∧ markB xs[atN (firstB t) xs].2.1 xs[atN (firstB t) xs].2.2 (bodyOf t) = t ∧ openF xs t = ((bodyOf t).extract 1 (t.size - 8), firstB t, 0)) ∨ (∃ h : atN (firstB t) xs < xs.length, chk xs = 0 ∧ 9 ≤ t.size ∧ t.size ≤ 120 ∧ markB xs[atN (firstB t) xs].2.1 xs[atN (firstB t) xs].2.2 (bodyOf t) ≠ t ∧ openF xs t = (emptyS, 0, 9)) := by
  by_cases hc : chk xs = 0
  · by_cases h9 : t.size < 9
    · exact .inr (.inl ⟨hc, h9, by unfold openF; rw [if_neg (fun h => h hc), if_pos (.inl h9)]⟩)
    · by_cases h120 : 120 < t.size
      · exact .inr (.inr (.inl ⟨hc, h120, by unfold openF; rw [if_neg (fun h => h hc), if_pos (.inr h120)]⟩))
      · have hle := atN_le (firstB t) xs
        by_cases ha : atN (firstB t) xs = xs.length
        · exact .inr (.inr (.inr (.inl ⟨hc, by omega, by omega, ha, by unfold openF; rw [if_neg (fun h => h hc), if_neg (by omega), List.getElem?_eq_none (by omega)]⟩)))
        · have hlt : atN (firstB t) xs < xs.length := by omega
          by_cases hm : markB xs[atN (firstB t) xs].2.1 xs[atN (firstB t) xs].2.2 (bodyOf t) = t
          · exact .inr (.inr (.inr (.inr (.inl ⟨hlt, hc, by omega, by omega, hm, by unfold openF; rw [if_neg (fun h => h hc), if_neg (by omega), List.getElem?_eq_getElem hlt]; simp only [if_pos hm]⟩))))
          · exact .inr (.inr (.inr (.inr (.inr ⟨hlt, hc, by omega, by omega, hm, by unfold openF; rw [if_neg (fun h => h hc), if_neg (by omega), List.getElem?_eq_getElem hlt]; simp only [if_neg hm]⟩))))
  · exact .inl ⟨hc, by unfold openF; rw [if_pos hc]⟩
theorem first_at (t : ByteArray) (hz : 0 < t.size) : IntKind.i64.wrap ((t[0]'hz).toNat : Int) = firstB t := by
  have e : t.data.toList.getD 0 0 = t[0]'hz := by
    rw [List.getD_eq_getElem?_getD, List.getElem?_eq_getElem (by simpa using hz)]; rfl
  unfold firstB
  rw [e, IntKind.wrap_i64]
  have := (t[0]'hz).toNat_lt
  omega
set_option maxHeartbeats 2000000 in
theorem open_any (v : Value) (xs : List Ep) (t : ByteArray) (hss : t.size ≤ 9223372036854775807) (w : World) (h : Rd 3 eE w v xs) : Calls Tryd.prog 28 #[v, .string t] w (OpenQ (openF xs t) w) := by
  have H := Lib.hid h
  have HCK := Lib.hid (check_any v xs)
  rcases open_cases xs t with ⟨hc, hF⟩ | ⟨hc, h9, hF⟩ | ⟨hc, h9, hF⟩ | ⟨hc, h9, h120, ha, hF⟩ | ⟨hlt, hc, h9, h120, hm, hF⟩ | ⟨hlt, hc, h9, h120, hm, hF⟩
  · have HF := Lib.hid hF; have hb : (chk xs != 0) = true := by simp [hc]
    generalize chk xs = C at *
    clear hF
    go_enter Tryd.func28, Tryd.ntmps28
    go_wp2_with fail
    refine (HCK.out _ H.out).mono ?_
    rintro en w1 ⟨rfl, hb1⟩
    go_wp2
    go_ret3
    exact ⟨by rw [HF.out]; rfl, hb1⟩
  · have HF := Lib.hid hF
    have hs' : (t.size : Int) < 9 := by omega
    rw [hc] at HCK
    clear hF hc
    go_enter Tryd.func28, Tryd.ntmps28
    go_wp2_with fail
    refine (HCK.out _ H.out).mono ?_
    rintro en w1 ⟨rfl, hb1⟩
    go_wp2
    go_ret3
    exact ⟨by rw [HF.out]; rfl, hb1⟩
  · have HF := Lib.hid hF
    have hs' : ¬ (t.size : Int) < 9 := by omega
    have hs2 : (120 : Int) < (t.size : Int) := by omega
    rw [hc] at HCK
    clear hF hc
    go_enter Tryd.func28, Tryd.ntmps28
    go_wp2_with fail
    refine (HCK.out _ H.out).mono ?_
    rintro en w1 ⟨rfl, hb1⟩
    go_wp2
    go_ret3
    exact ⟨by rw [HF.out]; rfl, hb1⟩
  · have HF := Lib.hid hF
    have hs' : ¬ (t.size : Int) < 9 := by omega
    have hs2 : ¬ (120 : Int) < (t.size : Int) := by omega
    have hA := at_any (firstB t) v xs
    rw [if_pos ha] at hA
    rw [hc] at HCK
    have HA := Lib.hid hA
    have hz : 0 < t.size := by omega
    have e0 : IntKind.i64.wrap ((t[0]'hz).toNat : Int) = firstB t := first_at t hz
    generalize firstB t = no at *
    clear hF hc ha hA
    go_enter Tryd.func28, Tryd.ntmps28
    go_wp2_with fail
    refine (HCK.out _ H.out).mono ?_
    rintro en w1 ⟨rfl, hb1⟩
    go_wp2_with fail
    refine (HA.out _ (H.out.below hb1)).mono ?_
    rintro en w2 ⟨rfl, hb2⟩
    go_wp2
    go_ret3
    exact ⟨by rw [HF.out]; rfl, bt hb1 hb2⟩
  · have hs' : ¬ (t.size : Int) < 9 := by omega
    have hs2 : ¬ (120 : Int) < (t.size : Int) := by omega
    have hA := at_any (firstB t) v xs
    rw [if_neg (by omega)] at hA
    obtain ⟨n, hn⟩ : ∃ n, atN (firstB t) xs = n := ⟨_, rfl⟩
    simp only [hn] at hlt hm hA
    have hi8 : (n : Int) < (xs.length : Int) := by omega
    rw [hc] at HCK
    have HA := Lib.hid hA
    have hz : 0 < t.size := by omega
    have e0 : IntKind.i64.wrap ((t[0]'hz).toNat : Int) = firstB t := first_at t hz
    have HF := Lib.hid hF
    generalize firstB t = no at *
    obtain ⟨ad, cap, rfl, h1, h2, h3⟩ := h
    obtain ⟨g, off, rfl, hbl, hcc⟩ := h3 (by omega)
    have hl3 : n < xs.length := by omega
    have q := eE_at hcc n hl3
    obtain ⟨ka, hka⟩ : ∃ ka, xs[n].2.1 = ka := ⟨_, rfl⟩
    obtain ⟨kb, hkb⟩ : ∃ kb, xs[n].2.2 = kb := ⟨_, rfl⟩
    generalize xs[n].1 = nn at *
    rw [hka, hkb] at q hm
    obtain ⟨q0, q1, q2⟩ := q
    have hbs : (bodyOf t).size ≤ 1000 := by unfold bodyOf; simp; omega
    have HM := Lib.hid (marked_any ka kb (bodyOf t) hbs)
    rw [hm] at HM
    unfold bodyOf at HM HF
    have hw8 : IntKind.i64.wrap ((t.size : Int) - 8) = ((t.size - 8 : Nat) : Int) := by rw [IntKind.wrap_i64]; omega
    clear hF hc hA hcc h3 hka hkb hm hbs
    go_enter Tryd.func28, Tryd.ntmps28
    go_wp2_with fail
    refine (HCK.out _ H.out).mono ?_
    rintro en w1 ⟨rfl, hb1⟩
    go_wp2_with fail
    refine (HA.out _ (H.out.below hb1)).mono ?_
    rintro en w2 ⟨rfl, hb2⟩
    have hb12 := bt hb1 hb2
    have c0 := (hb12.cell (p := ⟨g, off + n * 3, none⟩) hbl).trans q0
    have c1 := (hb12.cell (p := ⟨g, off + n * 3 + 1, none⟩) hbl).trans q1
    have c2 := (hb12.cell (p := ⟨g, off + n * 3 + 2, none⟩) hbl).trans q2
    have HB12 := Lib.hid hb12
    clear hb1 hb2 hb12 q0 q1 q2
    go_wp2_with fail
    refine (HM.out _).mono ?_
    rintro en w3 ⟨rfl, hb3⟩
    go_wp2_with fail
    go_ret3
    exact ⟨by rw [HF.out]; rfl, bt HB12.out hb3⟩
  · have hs' : ¬ (t.size : Int) < 9 := by omega
    have hs2 : ¬ (120 : Int) < (t.size : Int) := by omega
    have hA := at_any (firstB t) v xs
    rw [if_neg (by omega)] at hA
    obtain ⟨n, hn⟩ : ∃ n, atN (firstB t) xs = n := ⟨_, rfl⟩
    simp only [hn] at hlt hm hA
    have hi8 : (n : Int) < (xs.length : Int) := by omega
    rw [hc] at HCK
    have HA := Lib.hid hA
    have hz : 0 < t.size := by omega
    have e0 : IntKind.i64.wrap ((t[0]'hz).toNat : Int) = firstB t := first_at t hz
    have HF := Lib.hid hF
    generalize firstB t = no at *
    obtain ⟨ad, cap, rfl, h1, h2, h3⟩ := h
    obtain ⟨g, off, rfl, hbl, hcc⟩ := h3 (by omega)
    have hl3 : n < xs.length := by omega
    have q := eE_at hcc n hl3
    obtain ⟨ka, hka⟩ : ∃ ka, xs[n].2.1 = ka := ⟨_, rfl⟩
    obtain ⟨kb, hkb⟩ : ∃ kb, xs[n].2.2 = kb := ⟨_, rfl⟩
    generalize xs[n].1 = nn at *
    rw [hka, hkb] at q hm
    obtain ⟨q0, q1, q2⟩ := q
    have hbs : (bodyOf t).size ≤ 1000 := by unfold bodyOf; simp; omega
    have HM := Lib.hid (marked_any ka kb (bodyOf t) hbs)
    obtain ⟨M, hM⟩ : ∃ M, markB ka kb (bodyOf t) = M := ⟨_, rfl⟩
    rw [hM] at HM hm
    have hq : (M.toList == t.toList) = false := str_ne hm
    clear hM
    unfold bodyOf at HM
    have hw8 : IntKind.i64.wrap ((t.size : Int) - 8) = ((t.size - 8 : Nat) : Int) := by rw [IntKind.wrap_i64]; omega
    clear hF hc hA hcc h3 hka hkb hm hbs
    go_enter Tryd.func28, Tryd.ntmps28
    go_wp2_with fail
    refine (HCK.out _ H.out).mono ?_
    rintro en w1 ⟨rfl, hb1⟩
    go_wp2_with fail
    refine (HA.out _ (H.out.below hb1)).mono ?_
    rintro en w2 ⟨rfl, hb2⟩
    have hb12 := bt hb1 hb2
    have c0 := (hb12.cell (p := ⟨g, off + n * 3, none⟩) hbl).trans q0
    have c1 := (hb12.cell (p := ⟨g, off + n * 3 + 1, none⟩) hbl).trans q1
    have c2 := (hb12.cell (p := ⟨g, off + n * 3 + 2, none⟩) hbl).trans q2
    have HB12 := Lib.hid hb12
    clear hb1 hb2 hb12 q0 q1 q2
    go_wp2_with fail
    refine (HM.out _).mono ?_
    rintro en w3 ⟨rfl, hb3⟩
    go_wp2
    go_ret3
    exact ⟨by rw [HF.out]; rfl, bt HB12.out hb3⟩
end Rg
end Go.Proofs.YtdfdjampodkpgaaDoor
end
