/- Joined by shake.py: Base Base2 Rd Box BitsPlain FindPlain. -/
import Derived.Below
import Derived.WalkKit
import Derived.Deep.QuietTactic
import Derived.BigQuiet
import Derived.Lib.Hide
import Derived.Laws.IdiomStrings
import Derived.Outline
import Derived.Laws.OwnMore
import Derived.Laws.AppendOwn
set_option linter.unusedSimpArgs false
set_option linter.unusedVariables false

/-! Base -/
section
/- Small lemmas that all texts of this seat use. -/
set_option linter.unusedSimpArgs false
set_option linter.unusedVariables false
namespace Go.Proofs.YtdfdjampodkpgaaDoor
open Go.RowKit
theorem bt {a b c : World} (h1 : Below a.heap.size a b) (h2 : Below b.heap.size b c) : Below a.heap.size a c := h1.trans (h2.mono h1.size)
theorem bd {a b c : World} (h1 : Below a.heap.size a b) (h2 : Below b.drew.heap.size b.drew c) : Below a.heap.size a c := bt h1.drew h2
theorem bn {a b : World} (h1 : Below a.heap.size a b) (n : Nat) : Below a.heap.size a (b.drewN n) := ⟨h1.os, h1.tape, h1.output, h1.size, h1.block⟩
theorem wf_u8 {a : Int} (h : (Lit.int .u8 a).wf = true) : 0 ≤ a ∧ a < 256 := by simp [Lit.wf, IntKind.min, IntKind.max, IntKind.signed, IntKind.bits] at h; omega
theorem wf_i64 {a : Int} (h : (Lit.int .i64 a).wf = true) : -9223372036854775808 ≤ a ∧ a ≤ 9223372036854775807 := by simp [Lit.wf, IntKind.min, IntKind.max, IntKind.signed, IntKind.bits] at h; omega
theorem wf_u64 {a : Int} (h : (Lit.int .u64 a).wf = true) : 0 ≤ a ∧ a ≤ 18446744073709551615 := by simp [Lit.wf, IntKind.min, IntKind.max, IntKind.signed, IntKind.bits] at h; omega
theorem br (w : World) : Below w.heap.size w w := Below.refl _ _
theorem ret_int {k : IntKind} {a b : Int} (h : a = b) : Ending.returned (.int k a) = .returned (.int k b) := by rw [h]
end Go.Proofs.YtdfdjampodkpgaaDoor
end

/-! Base2 -/
section
/- Small lemmas on calls inside a region that draws its order. -/
set_option linter.unusedSimpArgs false
set_option linter.unusedVariables false
namespace Go.Proofs.YtdfdjampodkpgaaDoor
open Go.RowKit
/-- a contract that leaves the world alone, for the tactic on quiet regions -/
theorem qz {P : Program} {f : FuncId} {args : Array Value} {w : World} {n : Nat} {v : Value}
    (h : Calls P f args (w.drewN n) fun e w' => e = .returned v ∧ w.drewN n = w') : Calls P f args (w.drewN n) fun e w'' => e = .returned v ∧ ∃ m, w'' = w.drewN m :=
  h.mono fun _ _ ⟨he, hm⟩ => ⟨he, n, hm.symm⟩
theorem qa {P : Program} {f : FuncId} {args : Array Value} {w : World} {a n : Nat} {v : Value}
    (h : Calls P f args (w.drewN (a + n)) fun e w' => e = .returned v ∧ w.drewN (a + n) = w') : Calls P f args (w.drewN (a + n)) fun e w'' => e = .returned v ∧ ∃ m, w'' = w.drewN (a + m) :=
  h.mono fun _ _ ⟨he, hm⟩ => ⟨he, n, hm.symm⟩
theorem asz (w : World) (o : Obj) : (w.alloc o).heap.size = w.heap.size + 1 := by simp
/-- below a 'Below' every old cell and every old mark reads as before -/
theorem bcell {B : Nat} {W w1 : World} (hb : Below B W w1) : (∀ b o, b < B → w1.cell? ⟨b, o, none⟩ = W.cell? ⟨b, o, none⟩) ∧ (∀ b o, b < B → w1.frozen? ⟨b, o, none⟩ = W.frozen? ⟨b, o, none⟩) :=
  ⟨fun b o h => hb.cell (p := ⟨b, o, none⟩) h, fun b o h => hb.frozen (p := ⟨b, o, none⟩) h⟩
/-- a block of the call's own, behind calls that leave it alone -/
theorem boxc {w w3 : World} {C : Array Value} {t : TypeId} {fr : Nat × Nat} (hB : Below (w.heap.size + 1) (w.alloc (.cells C t fr)) w3) (j : Nat) : w3.cell? ⟨w.heap.size, j, none⟩ = C[j]? := by
  rw [hB.cell (p := ⟨w.heap.size, j, none⟩) (Nat.lt_succ_self _), World.cell?_alloc_mark]
theorem boxf {w w3 : World} {C : Array Value} {t : TypeId} (hB : Below (w.heap.size + 1) (w.alloc (.cells C t (0, 0))) w3) (j : Nat) : w3.frozen? ⟨w.heap.size, j, none⟩ = false := by
  rw [hB.frozen (p := ⟨w.heap.size, j, none⟩) (Nat.lt_succ_self _), World.frozen?_alloc_mark]; simp
theorem boxs {w w3 : World} {o : Obj} (hB : Below (w.heap.size + 1) (w.alloc o) w3) : w.heap.size < w3.heap.size := by
  have := hB.size; rw [asz] at this; omega
/-- the same base, said of the world with the block -/
theorem bx {w w3 : World} {o : Obj} (hB : Below (w.alloc o).heap.size (w.alloc o) w3) : Below (w.heap.size + 1) (w.alloc o) w3 := by rw [asz] at hB; exact hB
/-- a block kept over a call: its cells, its marks, its number -/
theorem kc {a b : World} {q : Nat} {C : Array Value} (hb : Below a.heap.size a b) (l : q < a.heap.size) (k : ∀ j, a.cell? ⟨q, j, none⟩ = C[j]?) : ∀ j, b.cell? ⟨q, j, none⟩ = C[j]? :=
  fun j => (hb.cell (p := ⟨q, j, none⟩) l).trans (k j)
theorem kf {a b : World} {q : Nat} (hb : Below a.heap.size a b) (l : q < a.heap.size) (k : ∀ j, a.frozen? ⟨q, j, none⟩ = false) : ∀ j, b.frozen? ⟨q, j, none⟩ = false :=
  fun j => (hb.frozen (p := ⟨q, j, none⟩) l).trans (k j)
theorem kl {a b : World} {q : Nat} (hb : Below a.heap.size a b) (l : q < a.heap.size) : q < b.heap.size := Nat.lt_of_lt_of_le l hb.size
theorem kp {a b : World} {p : Addr} {v : Value} (hb : Below a.heap.size a b) (k : a.cell? p = some v) : b.cell? p = some v :=
  (hb.cell (World.block_lt_of_cell? a _ k)).trans k
end Go.Proofs.YtdfdjampodkpgaaDoor
end

/-! Rd -/
section
/- A slice value that reads as a list of plain things (each of 'k' cells): nil, empty and other slices alike. -/
set_option linter.unusedSimpArgs false
set_option linter.unusedVariables false
namespace Go.Proofs.YtdfdjampodkpgaaDoor
open Go.RowKit

def Rd {α : Type} (k : Nat) (enc : α → List Value) (w : World) (v : Value) (xs : List α) : Prop :=
  ∃ (a : Option Addr) (cap : Nat), v = .slice a xs.length cap ∧ xs.length ≤ cap ∧ cap ≤ maxLen ∧
    (0 < xs.length → ∃ b off, a = some ⟨b, off, none⟩ ∧ b < w.heap.size ∧
      ∀ (i : Nat) (h : i < xs.length) (j : Nat) (u : Value), (enc xs[i])[j]? = some u → w.cell? ⟨b, off + (i * k + j), none⟩ = some u)

section
variable {α : Type} {k : Nat} {enc : α → List Value} {w w' : World} {v : Value} {xs : List α}
theorem Rd.below (h : Rd k enc w v xs) (hb : Below w.heap.size w w') : Rd k enc w' v xs := by
  obtain ⟨a, cap, rfl, h1, h2, h3⟩ := h
  refine ⟨a, cap, rfl, h1, h2, fun hn => ?_⟩
  obtain ⟨b, off, rfl, hlt, hc⟩ := h3 hn
  exact ⟨b, off, rfl, Nat.lt_of_lt_of_le hlt hb.size, fun i hi j u hu => (hb.cell (p := ⟨b, off + (i * k + j), none⟩) hlt).trans (hc i hi j u hu)⟩
theorem Rd.len_le (h : Rd k enc w v xs) : xs.length ≤ 9223372036854775807 := by
  obtain ⟨_, cap, _, h1, h2, _⟩ := h; unfold maxLen at h2; omega
theorem Rd.nil (w : World) : Rd k enc w (.slice none 0 0) ([] : List α) := ⟨none, 0, rfl, Nat.le_refl _, by unfold maxLen; omega, fun h => absurd h (by simp)⟩

/-- what the call has built reads as a list -/
theorem Rd.of_own {base e n : Nat} {cs : List Value} (h : w.ownsRow base e k v n cs) (hn : xs.length = n)
    (hc : ∀ (i : Nat) (h : i < xs.length) (j : Nat) (u : Value), (enc xs[i])[j]? = some u → j < k ∧ cs[i * k + j]? = some u) : Rd k enc w v xs := by
  subst hn
  obtain ⟨hl, h | ⟨g, cap, cur, rfl, hg, hcell, h1, h2, h3, h4⟩⟩ := h
  · obtain ⟨rfl, h0⟩ := h
    refine ⟨none, 0, by rw [h0], by omega, by unfold maxLen; omega, fun hn => by omega⟩
  · refine ⟨some ⟨g, 0, none⟩, cap, rfl, h1, h2, fun _ => ⟨g, 0, rfl, ?_, ?_⟩⟩
    · rcases Nat.lt_or_ge g w.heap.size with hlt | hge
      · exact hlt
      · rw [Array.getElem?_eq_none hge] at hcell; cases hcell
    · intro i hi j u hu
      obtain ⟨hj, hcs⟩ := hc i hi j u hu
      have hown : w.ownsRow base e k (.slice (some ⟨g, 0, none⟩) xs.length cap) xs.length cs := ⟨hl, .inr ⟨g, cap, cur, rfl, hg, hcell, h1, h2, h3, h4⟩⟩
      have hlt : i * k + j < xs.length * k := by
        have : (i + 1) * k ≤ xs.length * k := Nat.mul_le_mul_right k (by omega)
        rw [Nat.add_mul] at this; omega
      rw [Nat.zero_add, hown.cellAt _ hlt, hcs]
end

/-- the ints' own reading -/
def eI (n : Int) : List Value := [.int .i64 n]
theorem eI_at {w : World} {b off : Nat} {xs : List Int} (h : ∀ (i : Nat) (h : i < xs.length) (j : Nat) (u : Value), (eI xs[i])[j]? = some u → w.cell? ⟨b, off + (i * 1 + j), none⟩ = some u)
    (i : Nat) (hi : i < xs.length) : w.cell? ⟨b, off + i, none⟩ = some (.int .i64 xs[i]) := by
  have := h i hi 0 _ rfl
  simpa using this
/-- a literal of ints, just made -/
theorem Rd.lit (xs : List Int) (w : World) (t : TypeId) (fr : Nat × Nat) (h : xs.length ≤ maxLen) :
    Rd 1 eI (w.alloc (.cells (xs.map (Value.int .i64)).toArray t fr)) (.slice (some ⟨w.heap.size, 0, none⟩) xs.length xs.length) xs := by
  refine ⟨_, _, rfl, Nat.le_refl _, h, fun _ => ⟨w.heap.size, 0, rfl, by simp, ?_⟩⟩
  intro i hi j u hu
  rw [World.cell?_alloc_mark]
  unfold eI at hu
  match j with
  | 0 => simp at hu; subst hu; simp [hi]
  | j + 1 => simp at hu
end Go.Proofs.YtdfdjampodkpgaaDoor
end

/-! Box -/
section
/- A block of the call's own, cell by cell: a variable, a result. -/
set_option linter.unusedSimpArgs false
set_option linter.unusedVariables false
namespace Go.Proofs.YtdfdjampodkpgaaDoor
open Go.RowKit
def Box (w : World) (b : Nat) (t : TypeId) (cs : List Value) : Prop := w.heap[b]? = some (.cells cs.toArray t (0, 0))
section
variable {w w' : World} {b : Nat} {t : TypeId} {cs : List Value}
theorem Box.lt (h : Box w b t cs) : b < w.heap.size := by
  rcases Nat.lt_or_ge b w.heap.size with h' | h'
  · exact h'
  · unfold Box at h; simp [Array.getElem?_eq_none h'] at h
theorem Box.cell (h : Box w b t cs) (j : Nat) : w.cell? ⟨b, j, none⟩ = cs[j]? := by unfold Box at h; simp [World.cell?, h]
theorem Box.froz (h : Box w b t cs) (j : Nat) : w.frozen? ⟨b, j, none⟩ = false := by unfold Box at h; simp [World.frozen?, h]
theorem Box.next (h : Box w b t cs) (hb : Below w.heap.size w w') : Box w' b t cs := (hb.block b h.lt).trans h
theorem Box.of_block (h : Box w b t cs) (hb : w'.heap[b]? = w.heap[b]?) : Box w' b t cs := hb.trans h
theorem Box.dr (h : Box w b t cs) (n : Nat) : Box (w.drewN n) b t cs := h
theorem Box.alloc (h : Box w b t cs) (o : Obj) : Box (w.alloc o) b t cs := h.next ((br w).alloc (Nat.le_refl _) o)
theorem Box.new (w : World) (t : TypeId) (cs : List Value) : Box (w.alloc (.cells cs.toArray t)) w.heap.size t cs := heap_alloc_new w _
theorem Box.set (h : Box w b t cs) (j : Nat) (v : Value) : Box (w.setCell ⟨b, j, none⟩ v) b t (cs.set j v) := by
  have hlt := h.lt
  unfold Box at h ⊢
  show (w.heap.modify b _)[b]? = _
  rw [Array.getElem?_eq_getElem hlt] at h
  rw [Array.getElem?_eq_getElem (by rw [Array.size_modify]; exact hlt), Array.getElem_modify_self]
  injection h with h
  rw [h]
  simp
theorem Box.other (h : Box w b t cs) (b' j : Nat) (v : Value) (hne : b ≠ b') : Box (w.setCell ⟨b', j, none⟩ v) b t cs := h.of_block (Below.heap_setCell _ _ _ _ hne)
end
end Go.Proofs.YtdfdjampodkpgaaDoor
end

/-! BitsPlain -/
section
/- Bits of numbers in a row, regrouped: plain facts. -/
set_option linter.unusedSimpArgs false
set_option linter.unusedVariables false
namespace Go.Proofs.YtdfdjampodkpgaaDoor
namespace Bt
theorem getD_lt {xs : List Nat} {i : Nat} (h : i < xs.length) : xs.getD i 0 = xs[i] := by simp [List.getD, List.getElem?_eq_getElem h]
theorem getD_ge {xs : List Nat} {i : Nat} (h : xs.length ≤ i) : xs.getD i 0 = 0 := by simp [List.getD, List.getElem?_eq_none h]
/-- n bits from a on, as a number -/
def val (f : Nat → Nat) (a : Nat) : Nat → Nat
  | 0 => 0
  | n + 1 => 2 * val f a n + f (a + n)
theorem val_add (f : Nat → Nat) (a n : Nat) : ∀ m, val f a (n + m) = val f a n * 2 ^ m + val f (a + n) m
  | 0 => by simp [val]
  | m + 1 => by
    rw [← Nat.add_assoc, val, val_add f a n m, val, Nat.pow_succ]
    have : a + (n + m) = a + n + m := by omega
    rw [this, Nat.mul_add, ← Nat.mul_assoc, Nat.mul_comm 2, Nat.mul_assoc, Nat.mul_comm 2 (2 ^ m)]
    omega
theorem val_lt {f : Nat → Nat} (hf : ∀ i, f i < 2) (a : Nat) : ∀ n, val f a n < 2 ^ n
  | 0 => by simp [val]
  | n + 1 => by
    have := val_lt hf a n
    have h2 := hf (a + n)
    rw [val, Nat.pow_succ]
    omega
theorem val_congr {f g : Nat → Nat} {a b : Nat} : ∀ {n}, (∀ i, i < n → f (a + i) = g (b + i)) → val f a n = val g b n
  | 0, _ => rfl
  | n + 1, h => by rw [val, val, val_congr (fun i hi => h i (by omega)), h n (by omega)]
theorem val_zero {f : Nat → Nat} {a : Nat} : ∀ {n}, (∀ i, i < n → f (a + i) = 0) → val f a n = 0
  | 0, _ => rfl
  | n + 1, h => by rw [val, val_zero (fun i hi => h i (by omega)), h n (by omega)]
theorem val_zero_iff {f : Nat → Nat} {a : Nat} : ∀ {n}, val f a n = 0 ↔ ∀ i, i < n → f (a + i) = 0
  | 0 => by simp [val]
  | n + 1 => by
    rw [val]
    have ih := val_zero_iff (f := f) (a := a) (n := n)
    constructor
    · intro h i hi
      by_cases e : i = n
      · subst e; omega
      · exact ih.1 (by omega) i (by omega)
    · intro h
      have h1 := ih.2 (fun i hi => h i (by omega))
      have h2 := h n (by omega)
      omega
/-- bit i of a number of w bits, from the highest one on -/
def bt (w x i : Nat) : Nat := x / 2 ^ (w - 1 - i) % 2
theorem bt_lt (w x i : Nat) : bt w x i < 2 := Nat.mod_lt _ (by omega)
theorem bt_val (w x : Nat) (hx : x < 2 ^ w) : ∀ n, n ≤ w → val (bt w x) 0 n = x / 2 ^ (w - n)
  | 0, _ => by rw [val, Nat.sub_zero, Nat.div_eq_of_lt hx]
  | n + 1, h => by
    rw [val, bt_val w x hx n (by omega), Nat.zero_add, bt]
    have e : w - n = (w - 1 - n) + 1 := by omega
    have e2 : w - (n + 1) = w - 1 - n := by omega
    rw [e, e2, Nat.pow_succ, ← Nat.div_div_eq_div_mul]
    omega
theorem bt_all {w x : Nat} (hx : x < 2 ^ w) : val (bt w x) 0 w = x := by
  rw [bt_val w x hx w (Nat.le_refl _), Nat.sub_self, Nat.pow_zero, Nat.div_one]
/-- bits of numbers of w bits each, one behind the other; none behind them -/
def bitL (w : Nat) (xs : List Nat) (i : Nat) : Nat := bt w (xs.getD (i / w) 0) (i % w)
theorem bitL_lt (w : Nat) (xs : List Nat) (i : Nat) : bitL w xs i < 2 := bt_lt _ _ _
theorem bitL_out {w : Nat} (hw : 0 < w) (xs : List Nat) (i : Nat) (h : w * xs.length ≤ i) : bitL w xs i = 0 := by
  unfold bitL
  have : xs.length ≤ i / w := (Nat.le_div_iff_mul_le hw).2 (by rw [Nat.mul_comm]; exact h)
  rw [getD_ge this]
  unfold bt
  simp
theorem bitL_one {w : Nat} (hw : 0 < w) {xs : List Nat} {k : Nat} (hx : xs.getD k 0 < 2 ^ w) : val (bitL w xs) (w * k) w = xs.getD k 0 := by
  rw [← bt_all hx]
  refine val_congr fun i hi => ?_
  unfold bitL
  have h1 : (w * k + i) / w = k := by rw [Nat.mul_add_div hw, Nat.div_eq_of_lt hi, Nat.add_zero]
  have h2 : (w * k + i) % w = i := by rw [Nat.mul_add_mod, Nat.mod_eq_of_lt hi]
  rw [h1, h2, Nat.zero_add]
/-- q groups of w bits -/
def grp (f : Nat → Nat) (w q : Nat) : List Nat := (List.range q).map (fun j => val f (w * j) w)
theorem grp_len (f : Nat → Nat) (w q : Nat) : (grp f w q).length = q := by unfold grp; simp
theorem grp_succ (f : Nat → Nat) (w q : Nat) : grp f w (q + 1) = grp f w q ++ [val f (w * q) w] := by unfold grp; rw [List.range_succ, List.map_append]; rfl
theorem grp_get (f : Nat → Nat) (w q j : Nat) (h : j < q) : (grp f w q).getD j 0 = val f (w * j) w := by
  unfold grp
  rw [getD_lt (by simpa using h)]
  simp
theorem grp_lt {f : Nat → Nat} (hf : ∀ i, f i < 2) (w q : Nat) : ∀ x ∈ grp f w q, x < 2 ^ w := fun x hx => by
  unfold grp at hx
  obtain ⟨j, _, rfl⟩ := List.mem_map.1 hx
  exact val_lt hf _ _
/-- bits of groups of bits: the bits -/
theorem bitL_grp {f : Nat → Nat} (hf : ∀ i, f i < 2) {w : Nat} (hw : 0 < w) (q i : Nat) (h : i < w * q) : bitL w (grp f w q) i = f i := by
  unfold bitL
  have hj : i / w < q := Nat.div_lt_of_lt_mul h
  rw [grp_get f w q _ hj]
  have hr : i % w < w := Nat.mod_lt _ hw
  have e : w = i % w + (1 + (w - 1 - i % w)) := by omega
  have hv := val_add f (w * (i / w)) (i % w) (1 + (w - 1 - i % w))
  rw [← e] at hv
  have hv2 := val_add f (w * (i / w) + i % w) 1 (w - 1 - i % w)
  rw [Nat.div_add_mod] at hv hv2
  have hlt := val_lt hf (i + 1) (w - 1 - i % w)
  have h1 : val f i 1 = f i := by rw [val, val]; simp
  unfold bt
  rw [hv, hv2, h1, Nat.add_comm 1, Nat.pow_succ]
  generalize 2 ^ (w - 1 - i % w) = P at *
  have hP : 0 < P := by omega
  have e3 : val f (w * (i / w)) (i % w) * (P * 2) + (f i * P + val f (i + 1) (w - 1 - i % w)) = (val f (w * (i / w)) (i % w) * 2 + f i) * P + val f (i + 1) (w - 1 - i % w) := by
    rw [Nat.add_mul, Nat.mul_assoc, Nat.mul_comm P 2]; omega
  rw [e3, Nat.mul_comm _ P, Nat.mul_add_div hP, Nat.div_eq_of_lt hlt]
  have := hf i
  omega
/-- what is regrouped: whole groups, and what is left of bits -/
def many (fr to n : Nat) : Nat := fr * n / to
def rest (fr to n : Nat) : Nat := fr * n % to
theorem many_rest (fr to n : Nat) : to * many fr to n + rest fr to n = fr * n := Nat.div_add_mod _ _
/-- a round: a number comes in -/
theorem val_in {fr : Nat} (hw : 0 < fr) {xs : List Nat} {k a r : Nat} (hx : xs.getD k 0 < 2 ^ fr) (h : a + r = fr * k) : val (bitL fr xs) a (r + fr) = val (bitL fr xs) a r * 2 ^ fr + xs.getD k 0 := by
  rw [val_add, h, bitL_one hw hx]
/-- a group goes out -/
theorem val_out {f : Nat → Nat} (hf : ∀ i, f i < 2) (a w b : Nat) : val f a (w + b) / 2 ^ b = val f a w ∧ val f a (w + b) % 2 ^ b = val f (a + w) b := by
  have h := val_add f a w b
  have hl := val_lt hf (a + w) b
  rw [h, Nat.mul_comm]
  exact ⟨by rw [Nat.mul_add_div (Nat.two_pow_pos b), Nat.div_eq_of_lt hl, Nat.add_zero], by rw [Nat.mul_add_mod, Nat.mod_eq_of_lt hl]⟩
/-- what is left over, filled up with nothing -/
theorem val_pad {w : Nat} (hw : 0 < w) (xs : List Nat) {a r m : Nat} (h : w * xs.length ≤ a + r) : val (bitL w xs) a (r + m) = val (bitL w xs) a r * 2 ^ m := by
  rw [val_add, val_zero (a := a + r) (n := m) (fun i hi => bitL_out hw xs _ (by omega)), Nat.add_zero]
/-- there and back -/
theorem grp_back {xs : List Nat} {v w m : Nat} (hv : 0 < v) (hw : 0 < w) (hx : ∀ x ∈ xs, x < 2 ^ v) (h : v * xs.length ≤ w * m) : grp (bitL w (grp (bitL v xs) w m)) v xs.length = xs := by
  refine List.ext_getElem (by rw [grp_len]) fun j h1 h2 => ?_
  have e := grp_get (bitL w (grp (bitL v xs) w m)) v xs.length j h2
  rw [getD_lt h1] at e
  rw [e]
  have hc : val (bitL w (grp (bitL v xs) w m)) (v * j) v = val (bitL v xs) (v * j) v := val_congr fun i hi => by
    refine bitL_grp (bitL_lt v xs) hw m _ (Nat.lt_of_lt_of_le ?_ h)
    have : v * j + v ≤ v * xs.length := by rw [← Nat.mul_succ]; exact Nat.mul_le_mul_left v h2
    omega
  rw [hc, bitL_one hv (by rw [getD_lt h2]; exact hx _ (List.getElem_mem h2)), getD_lt h2]
end Bt
end Go.Proofs.YtdfdjampodkpgaaDoor
end

/-! FindPlain -/
section
/- The first place where something holds: plain facts. -/
set_option linter.unusedSimpArgs false
set_option linter.unusedVariables false
namespace Go.Proofs.YtdfdjampodkpgaaDoor
def findN {α : Type} (p : α → Bool) : List α → Nat
  | [] => 0
  | x :: l => if p x then 0 else findN p l + 1
section
variable {α : Type} (p : α → Bool)
theorem findN_le : ∀ l : List α, findN p l ≤ l.length
  | [] => Nat.le_refl _
  | x :: l => by
    show (if p x then 0 else findN p l + 1) ≤ _
    by_cases h : p x
    · rw [if_pos h]; omega
    · rw [if_neg h]; have := findN_le l; simp; omega
theorem findN_eq : ∀ (l : List α) (k : Nat), k ≤ l.length → (∀ j (hj : j < l.length), j < k → p l[j] = false) → (∀ h : k < l.length, p l[k] = true) → findN p l = k
  | [], k, hk, _, _ => by have : k = 0 := by simpa using hk
                          subst this; rfl
  | x :: l, 0, _, _, h => by
    have h0 : p x = true := h (by simp)
    show (if p x then 0 else findN p l + 1) = 0
    rw [if_pos h0]
  | x :: l, k + 1, hk, ha, h => by
    have h0 : p x = false := ha 0 (by simp) (by omega)
    show (if p x then 0 else findN p l + 1) = k + 1
    rw [if_neg (by simp [h0]), findN_eq l k (by simpa using hk) (fun j hj hjk => ha (j + 1) (by simpa using hj) (by omega)) (fun h' => h (by simpa using h'))]
theorem findN_spec : ∀ (l : List α), (∀ j (hj : j < l.length), j < findN p l → p l[j] = false) ∧ (∀ h : findN p l < l.length, p l[findN p l] = true)
  | [] => ⟨fun j hj => by simp at hj, fun h => by simp at h⟩
  | x :: l => by
    obtain ⟨g1, g2⟩ := findN_spec l
    by_cases h : p x
    · have e : findN p (x :: l) = 0 := by show (if _ then _ else _) = _; rw [if_pos h]
      rw [e]
      refine ⟨fun j hj hj0 => by omega, fun _ => ?_⟩
      exact h
    · have e : findN p (x :: l) = findN p l + 1 := by show (if _ then _ else _) = _; rw [if_neg h]
      refine ⟨fun j hj hj0 => ?_, fun hh => ?_⟩
      · rw [e] at hj0
        cases j with
        | zero => simpa using h
        | succ j => exact g1 j (by simpa using hj) (by omega)
      · simp only [e] at hh ⊢
        exact g2 (by simpa using hh)
/-- as an index: -1 where nothing is found -/
def findI (l : List α) : Int := if findN p l = l.length then -1 else (findN p l : Int)
theorem findI_neg (l : List α) : findI p l < 0 ↔ ∀ x ∈ l, p x = false := by
  have hle := findN_le p l
  obtain ⟨h1, h2⟩ := findN_spec p l
  unfold findI
  by_cases h : findN p l = l.length
  · rw [if_pos h]
    refine ⟨fun _ x hx => ?_, fun _ => by omega⟩
    obtain ⟨i, hi, rfl⟩ := List.getElem_of_mem hx
    exact h1 i hi (by omega)
  · rw [if_neg h]
    refine ⟨fun h' => by omega, fun h' => ?_⟩
    have h3 := h2 (by omega)
    rw [h' _ (List.getElem_mem _)] at h3
    cases h3
end
end Go.Proofs.YtdfdjampodkpgaaDoor
end
