/- Bits of numbers in a row, regrouped: plain facts. -/
import Derived.Test.YtkanlfgomfibdaaDoorBase
set_option linter.unusedSimpArgs false
set_option linter.unusedVariables false
namespace Go.Proofs.YtkanlfgomfibdaaDoor
namespace Bt
theorem getD_lt {xs : List Nat} {i : Nat} (h : i < xs.length) : xs.getD i 0 = xs[i] := by simp [List.getD, List.getElem?_eq_getElem h]
theorem getD_ge {xs : List Nat} {i : Nat} (h : xs.length ≤ i) : xs.getD i 0 = 0 := by simp [List.getD, List.getElem?_eq_none h]
/-- n bits from a on, as a number -/
def val (f : Nat → Nat) (a : Nat) : Nat → Nat
  | 0 => 0
  | n + 1 => 2 * val f a n + f (a + n)
theorem val_add (f : Nat → Nat) (a n : Nat) : ∀ m, val f a (n + m) = val f a n * 2 ^ m + val f (a + n) m
  | 0 => by simp [val]
  | m + 1 => by
    rw [← Nat.add_assoc, val, val_add f a n m, val, Nat.pow_succ]
    have : a + (n + m) = a + n + m := by omega
    rw [this, Nat.mul_add, ← Nat.mul_assoc, Nat.mul_comm 2, Nat.mul_assoc, Nat.mul_comm 2 (2 ^ m)]
    omega
theorem val_lt {f : Nat → Nat} (hf : ∀ i, f i < 2) (a : Nat) : ∀ n, val f a n < 2 ^ n
  | 0 => by simp [val]
  | n + 1 => by
    have := val_lt hf a n
    have h2 := hf (a + n)
    rw [val, Nat.pow_succ]
    omega
theorem val_congr {f g : Nat → Nat} {a b : Nat} : ∀ {n}, (∀ i, i < n → f (a + i) = g (b + i)) → val f a n = val g b n
  | 0, _ => rfl
  | n + 1, h => by rw [val, val, val_congr (fun i hi => h i (by omega)), h n (by omega)]
theorem val_zero {f : Nat → Nat} {a : Nat} : ∀ {n}, (∀ i, i < n → f (a + i) = 0) → val f a n = 0
  | 0, _ => rfl
  | n + 1, h => by rw [val, val_zero (fun i hi => h i (by omega)), h n (by omega)]
theorem val_zero_iff {f : Nat → Nat} {a : Nat} : ∀ {n}, val f a n = 0 ↔ ∀ i, i < n → f (a + i) = 0
  | 0 => by simp [val]
  | n + 1 => by
    rw [val]
    have ih := val_zero_iff (f := f) (a := a) (n := n)
    constructor
    · intro h i hi
      by_cases e : i = n
      · subst e; omega
      · exact ih.1 (by omega) i (by omega)
    · intro h
      have h1 := ih.2 (fun i hi => h i (by omega))
      have h2 := h n (by omega)
      omega
/-- bit i of a number of w bits, from the highest one on -/
def bt (w x i : Nat) : Nat := x / 2 ^ (w - 1 - i) % 2
theorem bt_lt (w x i : Nat) : bt w x i < 2 := Nat.mod_lt _ (by omega)
theorem bt_val (w x : Nat) (hx : x < 2 ^ w) : ∀ n, n ≤ w → val (bt w x) 0 n = x / 2 ^ (w - n)
  | 0, _ => by rw [val, Nat.sub_zero, Nat.div_eq_of_lt hx]
  | n + 1, h => by
    rw [val, bt_val w x hx n (by omega), Nat.zero_add, bt]
    have e : w - n = (w - 1 - n) + 1 := by omega
    have e2 : w - (n + 1) = w - 1 - n := by omega
    rw [e, e2, Nat.pow_succ, ← Nat.div_div_eq_div_mul]
    omega
theorem bt_all {w x : Nat} (hx : x < 2 ^ w) : val (bt w x) 0 w = x := by
  rw [bt_val w x hx w (Nat.le_refl _), Nat.sub_self, Nat.pow_zero, Nat.div_one]
/-- bits of numbers of w bits each, one behind the other; none behind them -/
def bitL (w : Nat) (xs : List Nat) (i : Nat) : Nat := bt w (xs.getD (i / w) 0) (i % w)
theorem bitL_lt (w : Nat) (xs : List Nat) (i : Nat) : bitL w xs i < 2 := bt_lt _ _ _
theorem bitL_out {w : Nat} (hw : 0 < w) (xs : List Nat) (i : Nat) (h : w * xs.length ≤ i) : bitL w xs i = 0 := by
  unfold bitL
  have : xs.length ≤ i / w := (Nat.le_div_iff_mul_le hw).2 (by rw [Nat.mul_comm]; exact h)
  rw [getD_ge this]
  unfold bt
  simp
theorem bitL_one {w : Nat} (hw : 0 < w) {xs : List Nat} {k : Nat} (hx : xs.getD k 0 < 2 ^ w) : val (bitL w xs) (w * k) w = xs.getD k 0 := by
  rw [← bt_all hx]
  refine val_congr fun i hi => ?_
  unfold bitL
  have h1 : (w * k + i) / w = k := by rw [Nat.mul_add_div hw, Nat.div_eq_of_lt hi, Nat.add_zero]
  have h2 : (w * k + i) % w = i := by rw [Nat.mul_add_mod, Nat.mod_eq_of_lt hi]
  rw [h1, h2, Nat.zero_add]
/-- q groups of w bits -/
def grp (f : Nat → Nat) (w q : Nat) : List Nat := (List.range q).map (fun j => val f (w * j) w)
theorem grp_len (f : Nat → Nat) (w q : Nat) : (grp f w q).length = q := by unfold grp; simp
theorem grp_succ (f : Nat → Nat) (w q : Nat) : grp f w (q + 1) = grp f w q ++ [val f (w * q) w] := by unfold grp; rw [List.range_succ, List.map_append]; rfl
theorem grp_get (f : Nat → Nat) (w q j : Nat) (h : j < q) : (grp f w q).getD j 0 = val f (w * j) w := by
  unfold grp
  rw [getD_lt (by simpa using h)]
  simp
theorem grp_lt {f : Nat → Nat} (hf : ∀ i, f i < 2) (w q : Nat) : ∀ x ∈ grp f w q, x < 2 ^ w := fun x hx => by
  unfold grp at hx
  obtain ⟨j, _, rfl⟩ := List.mem_map.1 hx
  exact val_lt hf _ _
/-- bits of groups of bits: the bits -/
theorem bitL_grp {f : Nat → Nat} (hf : ∀ i, f i < 2) {w : Nat} (hw : 0 < w) (q i : Nat) (h : i < w * q) : bitL w (grp f w q) i = f i := by
  unfold bitL
  have hj : i / w < q := Nat.div_lt_of_lt_mul h
  rw [grp_get f w q _ hj]
  have hr : i % w < w := Nat.mod_lt _ hw
  have e : w = i % w + (1 + (w - 1 - i % w)) := by omega
  have hv := val_add f (w * (i / w)) (i % w) (1 + (w - 1 - i % w))
  rw [← e] at hv
  have hv2 := val_add f (w * (i / w) + i % w) 1 (w - 1 - i % w)
  rw [Nat.div_add_mod] at hv hv2
  have hlt := val_lt hf (i + 1) (w - 1 - i % w)
  have h1 : val f i 1 = f i := by rw [val, val]; simp
  unfold bt
  rw [hv, hv2, h1, Nat.add_comm 1, Nat.pow_succ]
  generalize 2 ^ (w - 1 - i % w) = P at *
  have hP : 0 < P := by omega
  have e3 : val f (w * (i / w)) (i % w) * (P * 2) + (f i * P + val f (i + 1) (w - 1 - i % w)) = (val f (w * (i / w)) (i % w) * 2 + f i) * P + val f (i + 1) (w - 1 - i % w) := by
    rw [Nat.add_mul, Nat.mul_assoc, Nat.mul_comm P 2]; omega
  rw [e3, Nat.mul_comm _ P, Nat.mul_add_div hP, Nat.div_eq_of_lt hlt]
  have := hf i
  omega
/-- what is regrouped: whole groups, and what is left of bits -/
def many (fr to n : Nat) : Nat := fr * n / to
def rest (fr to n : Nat) : Nat := fr * n % to
theorem many_rest (fr to n : Nat) : to * many fr to n + rest fr to n = fr * n := Nat.div_add_mod _ _
/-- a round: a number comes in -/
theorem val_in {fr : Nat} (hw : 0 < fr) {xs : List Nat} {k a r : Nat} (hx : xs.getD k 0 < 2 ^ fr) (h : a + r = fr * k) : val (bitL fr xs) a (r + fr) = val (bitL fr xs) a r * 2 ^ fr + xs.getD k 0 := by
  rw [val_add, h, bitL_one hw hx]
/-- a group goes out -/
theorem val_out {f : Nat → Nat} (hf : ∀ i, f i < 2) (a w b : Nat) : val f a (w + b) / 2 ^ b = val f a w ∧ val f a (w + b) % 2 ^ b = val f (a + w) b := by
  have h := val_add f a w b
  have hl := val_lt hf (a + w) b
  rw [h, Nat.mul_comm]
  exact ⟨by rw [Nat.mul_add_div (Nat.two_pow_pos b), Nat.div_eq_of_lt hl, Nat.add_zero], by rw [Nat.mul_add_mod, Nat.mod_eq_of_lt hl]⟩
/-- what is left over, filled up with nothing -/
theorem val_pad {w : Nat} (hw : 0 < w) (xs : List Nat) {a r m : Nat} (h : w * xs.length ≤ a + r) : val (bitL w xs) a (r + m) = val (bitL w xs) a r * 2 ^ m := by
  rw [val_add, val_zero (a := a + r) (n := m) (fun i hi => bitL_out hw xs _ (by omega)), Nat.add_zero]
/-- there and back -/
theorem grp_back {xs : List Nat} {v w m : Nat} (hv : 0 < v) (hw : 0 < w) (hx : ∀ x ∈ xs, x < 2 ^ v) (h : v * xs.length ≤ w * m) : grp (bitL w (grp (bitL v xs) w m)) v xs.length = xs := by
  refine List.ext_getElem (by rw [grp_len]) fun j h1 h2 => ?_
  have e := grp_get (bitL w (grp (bitL v xs) w m)) v xs.length j h2
  rw [getD_lt h1] at e
  rw [e]
  have hc : val (bitL w (grp (bitL v xs) w m)) (v * j) v = val (bitL v xs) (v * j) v := val_congr fun i hi => by
    refine bitL_grp (bitL_lt v xs) hw m _ (Nat.lt_of_lt_of_le ?_ h)
    have : v * j + v ≤ v * xs.length := by rw [← Nat.mul_succ]; exact Nat.mul_le_mul_left v h2
    omega
  rw [hc, bitL_one hv (by rw [getD_lt h2]; exact hx _ (List.getElem_mem h2)), getD_lt h2]
end Bt
end Go.Proofs.YtkanlfgomfibdaaDoor
