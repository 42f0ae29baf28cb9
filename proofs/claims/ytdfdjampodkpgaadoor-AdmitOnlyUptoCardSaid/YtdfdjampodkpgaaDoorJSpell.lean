/- Joined by shake.py: SpellPlain SpellLay SpellNum SpellReg SpellConv SpellRaw. -/
import Derived.Test.YtdfdjampodkpgaaDoorJBase
import Derived.Lib.CaseT
import Derived.Lib.CaseU
import Derived.Shelf.Unicode.CaseLaid
import Derived.Shelf.Strings.Runes
import Derived.Test.YtdfdjampodkpgaaDoorProg
import Derived.Laws.BitsAllLaws
import Derived.Test.YtdfdjampodkpgaaDoorJEl
import Derived.Laws.IdiomStrings
import Derived.Laws.MakeOwn
set_option linter.unusedSimpArgs false
set_option linter.unusedVariables false

/-! SpellPlain -/
section
/- Spelling: plain law. -/
set_option linter.unusedSimpArgs false
set_option linter.unusedVariables false
namespace Go.Proofs.YtdfdjampodkpgaaDoor
namespace Sl
open Bt
/-- the letters -/
def letters : List Nat := [48, 49, 50, 51, 52, 53, 54, 55, 56, 57, 65, 66, 67, 68, 69, 70, 71, 72, 74, 75, 77, 78, 80, 81, 82, 83, 84, 86, 87, 88, 89, 90]
def letter (n : Nat) : Nat := letters.getD n 0
/-- what a byte says: 32: nothing; 33: it is no letter -/
def num (c : Nat) : Nat :=
  let d := if 97 ≤ c ∧ c ≤ 122 then c - 32 else c
  if d = 45 then 32 else if d = 79 then 0 else if d = 73 ∨ d = 76 then 1 else
    match letters.findIdx? (· == d) with
    | some n => n
    | none => 33
theorem num_le : ∀ c < 256, num c ≤ 33 := by decide +kernel
theorem num_letter : ∀ n < 32, num (letter n) = n := by decide +kernel
theorem letter_lt : ∀ n < 32, letter n < 256 := by decide +kernel
def small (c : Nat) : Nat := if 65 ≤ c ∧ c ≤ 90 then c + 32 else c
theorem num_small : ∀ c < 256, num (small c) = num c := by decide +kernel
theorem small_lt : ∀ c < 256, small c < 256 := by decide +kernel
/-- the numbers of letters; none: one is no letter -/
def nums : List Nat → Option (List Nat)
  | [] => some []
  | c :: l => if num c = 33 then none else if num c = 32 then nums l else (nums l).map (num c :: ·)
theorem nums_app : ∀ (l l' : List Nat), nums (l ++ l') = (nums l).bind (fun a => (nums l').map (a ++ ·))
  | [], l' => by simp [nums]
  | c :: l, l' => by
    rw [List.cons_append, nums, nums, nums_app l l']
    by_cases h1 : num c = 33
    · rw [if_pos h1, if_pos h1]; rfl
    · rw [if_neg h1, if_neg h1]
      by_cases h2 : num c = 32
      · rw [if_pos h2, if_pos h2]
      · rw [if_neg h2, if_neg h2]
        cases nums l with
        | none => rfl
        | some a => simp; rfl
theorem nums_lt : ∀ {l : List Nat}, (∀ c ∈ l, c < 256) → ∀ {xs}, nums l = some xs → ∀ x ∈ xs, x < 32
  | [], _, xs, h, x, hx => by simp [nums] at h; subst h; cases hx
  | c :: l, hl, xs, h, x, hx => by
    rw [nums] at h
    have hc := num_le c (hl c (by simp))
    have ih := fun {ys} (hy : nums l = some ys) => nums_lt (fun c hc => hl c (by simp [hc])) hy
    split at h
    · cases h
    · split at h
      · exact ih h x hx
      · cases hn : nums l with
        | none => rw [hn] at h; cases h
        | some ys =>
          rw [hn] at h
          simp at h
          subst h
          rcases List.mem_cons.1 hx with rfl | hx
          · omega
          · exact ih hn x hx
theorem nums_len : ∀ {l xs : List Nat}, nums l = some xs → xs.length ≤ l.length
  | [], xs, h => by simp [nums] at h; subst h; simp
  | c :: l, xs, h => by
    rw [nums] at h
    split at h
    · cases h
    · split at h
      · have := nums_len h; simp; omega
      · cases hn : nums l with
        | none => rw [hn] at h; cases h
        | some ys =>
          rw [hn] at h
          simp at h
          subst h
          have := nums_len hn
          simp; omega
theorem nums_map_small : ∀ {l : List Nat}, (∀ c ∈ l, c < 256) → nums (l.map small) = nums l
  | [], _ => rfl
  | c :: l, h => by rw [List.map_cons, nums, nums, num_small c (h c (by simp)), nums_map_small (fun c hc => h c (by simp [hc]))]
theorem nums_letters : ∀ {xs : List Nat}, (∀ x ∈ xs, x < 32) → nums (xs.map letter) = some xs
  | [], _ => rfl
  | x :: xs, h => by
    have hx := h x (by simp)
    rw [List.map_cons, nums, num_letter x hx, if_neg (by omega), if_neg (by omega), nums_letters (fun y hy => h y (by simp [hy]))]
    rfl
/-- how many letters a text of n bytes has -/
def fit (n : Nat) : Nat := (8 * n + 4) / 5
/-- a text, spelled: the letters' numbers -/
def fives (bs : List Nat) : List Nat := grp (bitL 8 bs) 5 (fit bs.length)
def rawF (bs : List Nat) : List Nat := (fives bs).map letter
theorem fives_lt (bs : List Nat) : ∀ x ∈ fives bs, x < 32 := grp_lt (bitL_lt 8 bs) 5 _
theorem fives_len (bs : List Nat) : (fives bs).length = fit bs.length := grp_len _ _ _
theorem rawF_len (bs : List Nat) : (rawF bs).length = fit bs.length := by unfold rawF; rw [List.length_map, fives_len]
theorem rawF_lt (bs : List Nat) : ∀ c ∈ rawF bs, c < 256 := fun c hc => by
  obtain ⟨x, hx, rfl⟩ := List.mem_map.1 hc
  exact letter_lt x (fives_lt bs x hx)
/-- letters, read: the text, and the error -/
def readF (l : List Nat) : List Nat × Int :=
  match nums l with
  | none => ([], 1)
  | some xs =>
    if xs.length % 8 = 1 ∨ xs.length % 8 = 3 ∨ xs.length % 8 = 6 then ([], 1)
    else if 120 < 5 * xs.length / 8 then ([], 2)
    else if val (bitL 5 xs) (8 * (5 * xs.length / 8)) (5 * xs.length % 8) ≠ 0 then ([], 1)
    else (grp (bitL 5 xs) 8 (5 * xs.length / 8), 0)
theorem readF_no {l : List Nat} (h : (readF l).2 ≠ 0) : (readF l).1 = [] := by
  unfold readF at h ⊢
  cases hn : nums l with
  | none => rfl
  | some xs =>
    rw [hn] at h
    simp only at h ⊢
    split
    · rfl
    · split
      · rfl
      · split
        · rfl
        · rename_i h1 h2 h3; rw [if_neg h1, if_neg h2, if_neg h3] at h; exact absurd rfl h
theorem readF_yes {l : List Nat} (h : (readF l).2 = 0) : ∃ xs, nums l = some xs ∧ ¬ (xs.length % 8 = 1 ∨ xs.length % 8 = 3 ∨ xs.length % 8 = 6) ∧ 5 * xs.length / 8 ≤ 120 ∧ val (bitL 5 xs) (8 * (5 * xs.length / 8)) (5 * xs.length % 8) = 0 ∧ (readF l).1 = grp (bitL 5 xs) 8 (5 * xs.length / 8) := by
  unfold readF at h ⊢
  cases hn : nums l with
  | none => rw [hn] at h; exact absurd h (by decide)
  | some xs =>
    rw [hn] at h
    simp only at h ⊢
    split at h
    · exact absurd h (by decide)
    · split at h
      · exact absurd h (by decide)
      · split at h
        · exact absurd h (by decide)
        · rename_i h1 h2 h3
          exact ⟨xs, rfl, h1, by omega, by omega, by rw [if_neg h1, if_neg h2, if_neg h3]⟩
theorem readF_lt (l : List Nat) : ∀ x ∈ (readF l).1, x < 256 := fun x hx => by
  by_cases h : (readF l).2 = 0
  · obtain ⟨xs, _, _, _, _, e⟩ := readF_yes h
    rw [e] at hx
    exact grp_lt (bitL_lt 5 xs) 8 _ x hx
  · rw [readF_no h] at hx; cases hx
theorem readF_len (l : List Nat) : (readF l).1.length ≤ 120 := by
  by_cases h : (readF l).2 = 0
  · obtain ⟨xs, _, _, h2, _, e⟩ := readF_yes h
    rw [e, grp_len]; exact h2
  · rw [readF_no h]; simp
/-- what is spelled is read as it was -/
theorem back {bs : List Nat} (hb : ∀ b ∈ bs, b < 256) (hn : bs.length ≤ 120) : readF (rawF bs) = (bs, 0) := by
  have e : 5 * fit bs.length / 8 = bs.length := by unfold fit; omega
  have e2 : 8 * bs.length + 5 * fit bs.length % 8 = 5 * fit bs.length := by unfold fit; omega
  have hv : val (bitL 5 (fives bs)) (8 * bs.length) (5 * fit bs.length % 8) = 0 := val_zero fun i hi => by
    unfold fives
    rw [bitL_grp (bitL_lt 8 bs) (by omega) _ _ (by omega), bitL_out (by omega) _ _ (by omega)]
  unfold readF rawF
  rw [nums_letters (fives_lt bs)]
  simp only [fives_len]
  rw [if_neg (by unfold fit; omega), e, if_neg (by omega), if_neg (by rw [hv]; simp)]
  have hg : grp (bitL 5 (fives bs)) 8 bs.length = bs := grp_back (v := 8) (w := 5) (by omega) (by omega) hb (by unfold fit; omega)
  rw [hg]
/-- what is read has one fair spelling -/
theorem fair {l : List Nat} (h : (readF l).2 = 0) : readF (rawF (readF l).1) = readF l ∧ (rawF (readF l).1).length ≤ l.length := by
  have hb := back (readF_lt l) (readF_len l)
  refine ⟨by rw [hb, ← h], ?_⟩
  obtain ⟨xs, h1, _, _, _, e⟩ := readF_yes h
  rw [rawF_len, e, grp_len]
  have := nums_len h1
  unfold fit
  omega
/-- a hyphen anywhere says nothing -/
theorem loose (l l' : List Nat) : readF (l ++ 45 :: l') = readF (l ++ l') := by
  have h : nums (l ++ 45 :: l') = nums (l ++ l') := by
    rw [nums_app, nums_app, nums]
    rw [if_neg (show ¬ num 45 = 33 by decide), if_pos (show num 45 = 32 by decide)]
  unfold readF
  rw [h]
theorem readF_small {l : List Nat} (h : ∀ c ∈ l, c < 256) : readF (l.map small) = readF l := by
  unfold readF
  rw [nums_map_small h]
/-- the fair spelling, or none -/
def fairF (l : List Nat) : List Nat × Int := if (readF l).2 = 0 then (rawF (readF l).1, 0) else ([], (readF l).2)
end Sl
end Go.Proofs.YtdfdjampodkpgaaDoor
end

/-! SpellLay -/
section
/- Layings of the library's contracts at this program, written out. (gen_lay.py) -/
set_option linter.unusedSimpArgs false
set_option linter.unusedVariables false
namespace Go.Proofs.YtdfdjampodkpgaaDoor
open Go.Shelf
namespace Lay
def lUp_ren : Go.Shelf.Ren := ⟨fun | 203 => 78 | 262 => 91 | 313 => 102 | 274 => 108 | 275 => 109 | n => n, fun | 21 => 21 | 4 => 4 | 3 => 3 | 162 => 140 | 203 => 138 | 160 => 146 | 46 => 121 | 0 => 0 | 208 => 154 | 51 => 150 | 206 => 152 | n => n, fun | 13 => 0 | n => n⟩
theorem lUp : Lays.n203 Tryd.prog lUp_ren where
  mixed := by kernel_rfl
  f203 := Tryd.func78.trans (congrArg some (by kernel_rfl))
  f262 := Tryd.func91.trans (congrArg some (by kernel_rfl))
  f274 := Tryd.func108.trans (congrArg some (by kernel_rfl))
  f275 := Tryd.func109.trans (congrArg some (by kernel_rfl))
  f313 := Tryd.func102.trans (congrArg some (by kernel_rfl))
  t0 := Tryd.underlying0
  a0 := Tryd.isAgg0
  z0 := Tryd.sizeOf0
  v0 := Tryd.zeroValue0
  t3 := Tryd.underlying3
  a3 := Tryd.isAgg3
  z3 := Tryd.sizeOf3
  v3 := Tryd.zeroValue3
  t4 := Tryd.underlying4
  a4 := Tryd.isAgg4
  z4 := Tryd.sizeOf4
  v4 := Tryd.zeroValue4
  t21 := Tryd.underlying21
  a21 := Tryd.isAgg21
  z21 := Tryd.sizeOf21
  v21 := Tryd.zeroValue21
  t46 := Tryd.underlying121
  a46 := Tryd.isAgg121
  z46 := Tryd.sizeOf121
  v46 := Tryd.zeroValue121
  t51 := Tryd.underlying150
  a51 := Tryd.isAgg150
  z51 := Tryd.sizeOf150
  v51 := Tryd.zeroValue150
  t160 := Tryd.underlying146
  a160 := Tryd.isAgg146
  z160 := Tryd.sizeOf146
  v160 := Tryd.zeroValue146
  t162 := Tryd.underlying140
  a162 := Tryd.isAgg140
  z162 := Tryd.sizeOf140
  v162 := Tryd.zeroValue140
  t203 := Tryd.underlying138
  a203 := Tryd.isAgg138
  z203 := Tryd.sizeOf138
  v203 := Tryd.zeroValue138
  t206 := Tryd.underlying152
  a206 := Tryd.isAgg152
  z206 := Tryd.sizeOf152
  v206 := Tryd.zeroValue152
  t208 := Tryd.underlying154
  a208 := Tryd.isAgg154
  z208 := Tryd.sizeOf154
  v208 := Tryd.zeroValue154
  g13 := by kernel_rfl
def lIx_ren : Go.Shelf.Ren := ⟨fun | 152 => 79 | 137 => 92 | 119 => 93 | 224 => 94 | 225 => 95 | 217 => 103 | 266 => 110 | n => n, fun | 9 => 9 | 21 => 21 | 3 => 3 | 4 => 4 | 5 => 5 | 0 => 0 | 46 => 121 | n => n, fun | n => n⟩
theorem lIx : Lays.n152 Tryd.prog lIx_ren where
  mixed := by kernel_rfl
  f119 := Tryd.func93.trans (congrArg some (by kernel_rfl))
  f137 := Tryd.func92.trans (congrArg some (by kernel_rfl))
  f152 := Tryd.func79.trans (congrArg some (by kernel_rfl))
  f217 := Tryd.func103.trans (congrArg some (by kernel_rfl))
  f224 := Tryd.func94.trans (congrArg some (by kernel_rfl))
  f225 := Tryd.func95.trans (congrArg some (by kernel_rfl))
  f266 := Tryd.func110.trans (congrArg some (by kernel_rfl))
  t0 := Tryd.underlying0
  a0 := Tryd.isAgg0
  z0 := Tryd.sizeOf0
  v0 := Tryd.zeroValue0
  t3 := Tryd.underlying3
  a3 := Tryd.isAgg3
  z3 := Tryd.sizeOf3
  v3 := Tryd.zeroValue3
  t4 := Tryd.underlying4
  a4 := Tryd.isAgg4
  z4 := Tryd.sizeOf4
  v4 := Tryd.zeroValue4
  t5 := Tryd.underlying5
  a5 := Tryd.isAgg5
  z5 := Tryd.sizeOf5
  v5 := Tryd.zeroValue5
  t9 := Tryd.underlying9
  a9 := Tryd.isAgg9
  z9 := Tryd.sizeOf9
  v9 := Tryd.zeroValue9
  t21 := Tryd.underlying21
  a21 := Tryd.isAgg21
  z21 := Tryd.sizeOf21
  v21 := Tryd.zeroValue21
  t46 := Tryd.underlying121
  a46 := Tryd.isAgg121
  z46 := Tryd.sizeOf121
  v46 := Tryd.zeroValue121
def lCr_ren : Go.Shelf.Ren := ⟨fun | 274 => 108 | n => n, fun | 21 => 21 | 162 => 140 | 160 => 146 | 3 => 3 | 4 => 4 | 46 => 121 | 0 => 0 | 208 => 154 | 51 => 150 | 206 => 152 | n => n, fun | n => n⟩
theorem lCr : Lays.n274 Tryd.prog lCr_ren where
  mixed := by kernel_rfl
  f274 := Tryd.func108.trans (congrArg some (by kernel_rfl))
  t0 := Tryd.underlying0
  a0 := Tryd.isAgg0
  z0 := Tryd.sizeOf0
  v0 := Tryd.zeroValue0
  t3 := Tryd.underlying3
  a3 := Tryd.isAgg3
  z3 := Tryd.sizeOf3
  v3 := Tryd.zeroValue3
  t4 := Tryd.underlying4
  a4 := Tryd.isAgg4
  z4 := Tryd.sizeOf4
  v4 := Tryd.zeroValue4
  t21 := Tryd.underlying21
  a21 := Tryd.isAgg21
  z21 := Tryd.sizeOf21
  v21 := Tryd.zeroValue21
  t46 := Tryd.underlying121
  a46 := Tryd.isAgg121
  z46 := Tryd.sizeOf121
  v46 := Tryd.zeroValue121
  t51 := Tryd.underlying150
  a51 := Tryd.isAgg150
  z51 := Tryd.sizeOf150
  v51 := Tryd.zeroValue150
  t160 := Tryd.underlying146
  a160 := Tryd.isAgg146
  z160 := Tryd.sizeOf146
  v160 := Tryd.zeroValue146
  t162 := Tryd.underlying140
  a162 := Tryd.isAgg140
  z162 := Tryd.sizeOf140
  v162 := Tryd.zeroValue140
  t208 := Tryd.underlying154
  a208 := Tryd.isAgg154
  z208 := Tryd.sizeOf154
  v208 := Tryd.zeroValue154
end Lay
end Go.Proofs.YtdfdjampodkpgaaDoor
end

/-! SpellNum -/
section
/- Spelling: the number of a letter. -/
set_option linter.unusedSimpArgs false
set_option linter.unusedVariables false
namespace Go.Proofs.YtdfdjampodkpgaaDoor
open Go.RowKit
namespace Sl
open Bt
/-- the library's table of great and small letters lies where it must -/
abbrev Tab (w : World) : Prop := Lib.CaseVar (Lay.lUp_ren.g 13) Lib.caseA w
theorem Tab.below {w w' : World} (h : Tab w) (hb : Below w.heap.size w w') : Tab w' := by
  obtain ⟨R, oR, cap, h1, h2⟩ := h
  exact ⟨R, oR, cap, kp hb h1, fun i hi => ⟨kp hb (h2 i hi).1, kp hb (h2 i hi).2.1, kp hb (h2 i hi).2.2.1, kp hb (h2 i hi).2.2.2.1, kp hb (h2 i hi).2.2.2.2⟩⟩
def numC (c : Nat) : Int := if num c = 33 then -2 else if num c = 32 then -1 else num c
def lettersB : ByteArray := ⟨#[48, 49, 50, 51, 52, 53, 54, 55, 56, 57, 65, 66, 67, 68, 69, 70, 71, 72, 74, 75, 77, 78, 80, 81, 82, 83, 84, 86, 87, 88, 89, 90]⟩
def chkN (c : Nat) : Bool :=
  let u := Lib.toUpperU (c : Int)
  if u = 45 then numC c == -1 else if u = 79 then numC c == 0 else if u = 73 then numC c == 1 else if u = 76 then numC c == 1
  else if 127 < u then numC c == -2
  else decide (0 ≤ u) && (if 0 ≤ Lib.indexByte lettersB.data.toList u.toNat.toUInt8 then numC c == Lib.indexByte lettersB.data.toList u.toNat.toUInt8 else numC c == -2)
set_option maxRecDepth 100000 in
theorem chkN_all : ∀ c < 256, chkN c = true := by decide +kernel
set_option maxHeartbeats 2000000 in
theorem number_any (c : Nat) (hc : c < 256) (w : World) (hV : Tab w) : Calls Tryd.prog 57 #[.int .i32 c] w fun e w' => e = .returned (.int .i64 (numC c)) ∧ Below w.heap.size w w' := by
  have hk := chkN_all c hc
  have c1 : Calls Tryd.prog 78 #[.int .i32 c] w fun e w' => e = .returned (.int .i32 (Lib.toUpperU (c : Int))) ∧ ∃ q, w' = w.drewN q := Any.unicode_ToUpper_laid Lay.lUp c w hV
  have c2 : ∀ (r : Int) (w : World), 0 ≤ r → r < 128 → Calls Tryd.prog 79 #[.string lettersB, .int .i32 r] w fun e w' => e = .returned (.int .i64 (Lib.indexByte lettersB.data.toList r.toNat.toUInt8)) ∧ w' = w := fun r w h0 h1 => Any.strings_IndexRune_ascii Lay.lIx lettersB r w h0 h1
  unfold chkN at hk
  simp only at hk
  obtain ⟨u, hu⟩ : ∃ u, Lib.toUpperU (c : Int) = u := ⟨_, rfl⟩
  obtain ⟨R, hR⟩ : ∃ R, numC c = R := ⟨_, rfl⟩
  rw [hu] at c1 hk
  rw [hR] at hk ⊢
  clear hu hR
  have C1 := Lib.hid c1
  have C2 := Lib.hid c2
  clear c1 c2
  unfold lettersB at C2
  by_cases h1 : u = 45
  · subst h1
    obtain rfl : R = -1 := by simpa using hk
    go_enter Tryd.func57, Tryd.ntmps57
    go_wp2_with (first | (go_at_call 78; (with_reducible refine C1.out.mono ?_); rintro en w1 ⟨rfl, q, rfl⟩))
    go_ret
    exact ⟨rfl, bn (br w) q⟩
  by_cases h2 : u = 79
  · subst h2
    obtain rfl : R = 0 := by simpa using hk
    go_enter Tryd.func57, Tryd.ntmps57
    go_wp2_with (first | (go_at_call 78; (with_reducible refine C1.out.mono ?_); rintro en w1 ⟨rfl, q, rfl⟩))
    go_ret
    exact ⟨rfl, bn (br w) q⟩
  by_cases h3 : u = 73
  · subst h3
    obtain rfl : R = 1 := by simpa using hk
    go_enter Tryd.func57, Tryd.ntmps57
    go_wp2_with (first | (go_at_call 78; (with_reducible refine C1.out.mono ?_); rintro en w1 ⟨rfl, q, rfl⟩))
    go_ret
    exact ⟨rfl, bn (br w) q⟩
  by_cases h4 : u = 76
  · subst h4
    obtain rfl : R = 1 := by simpa using hk
    go_enter Tryd.func57, Tryd.ntmps57
    go_wp2_with (first | (go_at_call 78; (with_reducible refine C1.out.mono ?_); rintro en w1 ⟨rfl, q, rfl⟩))
    go_ret
    exact ⟨rfl, bn (br w) q⟩
  have b1 : (u == 45) = false := by simpa using h1
  have b2 : (u == 79) = false := by simpa using h2
  have b3 : (u == 73) = false := by simpa using h3
  have b4 : (u == 76) = false := by simpa using h4
  rw [if_neg h1, if_neg h2, if_neg h3, if_neg h4] at hk
  by_cases h5 : 127 < u
  · rw [if_pos h5] at hk
    obtain rfl : R = -2 := by simpa using hk
    go_enter Tryd.func57, Tryd.ntmps57
    go_wp2_with (first | (go_at_call 78; (with_reducible refine C1.out.mono ?_); rintro en w1 ⟨rfl, q, rfl⟩))
    go_ret
    exact ⟨rfl, bn (br w) q⟩
  rw [if_neg h5, Bool.and_eq_true, decide_eq_true_iff] at hk
  obtain ⟨h6, hk⟩ := hk
  have h7 : u < 128 := by omega
  have CX := Lib.hid (fun w => C2.out u w h6 h7)
  unfold lettersB at hk
  generalize Lib.indexByte _ u.toNat.toUInt8 = X at *
  clear C2
  by_cases h8 : 0 ≤ X
  · rw [if_pos h8] at hk
    obtain rfl : R = X := by simpa using hk
    go_enter Tryd.func57, Tryd.ntmps57
    go_wp2_with (first | (go_at_call 78; (with_reducible refine C1.out.mono ?_); rintro en w1 ⟨rfl, q, rfl⟩) | (go_at_call 79; (with_reducible refine (CX.out _).mono ?_); rintro en w2 ⟨rfl, rfl⟩))
    go_ret
    exact ⟨rfl, bn (br w) q⟩
  · rw [if_neg h8] at hk
    obtain rfl : R = -2 := by simpa using hk
    go_enter Tryd.func57, Tryd.ntmps57
    go_wp2_with (first | (go_at_call 78; (with_reducible refine C1.out.mono ?_); rintro en w1 ⟨rfl, q, rfl⟩) | (go_at_call 79; (with_reducible refine (CX.out _).mono ?_); rintro en w2 ⟨rfl, rfl⟩))
    go_ret
    exact ⟨rfl, bn (br w) q⟩
/-- or, at numbers that do not meet -/
theorem or_i64 (L x k : Nat) (hx : x < 2 ^ k) (hL : L * 2 ^ k + x < 9223372036854775808) : bits .or .i64 ((L * 2 ^ k : Nat) : Int) (x : Int) = ((L * 2 ^ k + x : Nat) : Int) := by
  show IntKind.i64.wrap ((BitVec.ofInt 64 ((L * 2 ^ k : Nat) : Int) ||| BitVec.ofInt 64 (x : Int)).toNat : Int) = _
  have e1 : (BitVec.ofInt 64 ((L * 2 ^ k : Nat) : Int)).toNat = L * 2 ^ k := by rw [BitVec.ofInt_natCast, BitVec.toNat_ofNat]; exact Nat.mod_eq_of_lt (by omega)
  have e2 : (BitVec.ofInt 64 (x : Int)).toNat = x := by rw [BitVec.ofInt_natCast, BitVec.toNat_ofNat]; exact Nat.mod_eq_of_lt (by omega)
  rw [BitVec.toNat_or, e1, e2]
  have h := Nat.two_pow_add_eq_or_of_lt hx L
  rw [Nat.mul_comm] at h
  rw [← h]
  exact IntWalk.i64_in _ (by omega)
end Sl
end Go.Proofs.YtdfdjampodkpgaaDoor
end

/-! SpellReg -/
section
/- Spelling: numbers regrouped. (gen_spell.py) -/
set_option linter.unusedSimpArgs false
set_option linter.unusedVariables false
namespace Go.Proofs.YtdfdjampodkpgaaDoor
open Go.RowKit
namespace Sl
open Bt
def zs (l : List Nat) : List Int := l.map (fun n : Nat => (n : Int))
def by8 (l : List Nat) : List UInt8 := l.map (fun n : Nat => n.toUInt8)
theorem u8_nat {n : Nat} (h : n < 256) : n.toUInt8.toNat = n := by simp [Nat.toUInt8, UInt8.toNat_ofNat']; omega
theorem mask_w (c : Nat) (h : c < 13) : wrap64 (wrap64 (2 ^ c) - 1) = 2 ^ c - 1 := by
  rcases (show c = 0 ∨ c = 1 ∨ c = 2 ∨ c = 3 ∨ c = 4 ∨ c = 5 ∨ c = 6 ∨ c = 7 ∨ c = 8 ∨ c = 9 ∨ c = 10 ∨ c = 11 ∨ c = 12 by omega) with rfl | rfl | rfl | rfl | rfl | rfl | rfl | rfl | rfl | rfl | rfl | rfl | rfl
  all_goals (unfold wrap64; decide)
theorem and_i64 (V c : Nat) (hV : V < 4611686018427387904) (hc : c < 13) : bits .and .i64 (V : Int) (wrap64 (wrap64 (2 ^ c) - 1)) = ((V % 2 ^ c : Nat) : Int) := by
  rw [mask_w c hc, bits_mask .i64 62 (by decide) (fun n h0 h1 => IntWalk.i64_in _ (by omega)) c (by omega) V (by omega) (by omega)]
  simp
set_option maxRecDepth 100000 in
set_option maxHeartbeats 2000000 in
theorem regA_any (v : Value) (bs : List UInt8) (w : World) (h : RdE elB w v bs) (hl : bs.length ≤ 100000) : Calls Tryd.prog 56 #[v, .int .i64 8, .int .i64 5] w fun e w' => ∃ u, e = .returned (.tuple #[u, .int .i64 (val (bitL 8 (bs.map UInt8.toNat)) (5 * many 8 5 bs.length) (rest 8 5 bs.length) : Nat), .int .i64 (rest 8 5 bs.length : Nat)]) ∧ ROwn elZ w' w.heap.size u (zs (grp (bitL 8 (bs.map UInt8.toNat)) 5 (many 8 5 bs.length))) ∧ Below w.heap.size w w' := by
  obtain ⟨a, cap, rfl, h1, h2, h3⟩ := h
  have H3 := Lib.hid h3; clear h3
  obtain ⟨f, hf⟩ : ∃ f, bitL 8 (bs.map UInt8.toNat) = f := ⟨_, rfl⟩
  rw [hf]
  have HF := Lib.hid hf
  have HL := Lib.hid (fun i => hf ▸ bitL_lt 8 (bs.map UInt8.toNat) i)
  have hle : (bs.length : Int) ≤ 100000 := by omega
  clear hf
  go_enter Tryd.func56, Tryd.ntmps56
  go_wp2
  go_loopw [6, 7, 8, 13] (fun o L b i wr => ∃ k : Nat, k ≤ bs.length ∧ L = .int .i64 (val f (5 * many 8 5 k) (rest 8 5 k) : Nat) ∧ b = .int .i64 (rest 8 5 k : Nat) ∧ i = .int .i64 k ∧ ROwn elZ wr w.heap.size o (zs (grp f 5 (many 8 5 k))) ∧ Below w.heap.size w wr) (fun _ _ _ i _ => bs.length - (intOf i).toNat)
  case atStart => exact ⟨0, Nat.zero_le _, rfl, rfl, rfl, (ROwn.nil _ _ : ROwn elZ w w.heap.size (.slice none 0 0) []), br _⟩
  case round =>
    obtain ⟨k, hk, rfl, rfl, rfl, hown, hbw⟩ := hrel
    by_cases hkl : k < bs.length
    · obtain ⟨g, off, rfl, hbl, hc⟩ := H3.out (by omega)
      have d0 := (hbw.cell (p := ⟨g, off + (k * 1 + 0), none⟩) hbl).trans (hc k (by omega) 0 _ rfl)
      simp only [Nat.mul_one, Nat.add_zero] at d0
      have i1 : (k : Int) < (bs.length : Int) := by omega
      have i0 : (0 : Int) ≤ (k : Int) := by omega
      have hqr := many_rest 8 5 k
      have hr5 : rest 8 5 k < 5 := Nat.mod_lt _ (by omega)
      have hx : bs[k].toNat < 256 := bs[k].toNat_lt
      have hin := val_in (fr := 8) (by omega) (xs := (bs.map UInt8.toNat)) (k := k) (a := 5 * many 8 5 k) (r := rest 8 5 k) (by rw [getD_lt (by simpa using hkl)]; simpa using hx) hqr
      rw [HF.out, getD_lt (by simpa using hkl)] at hin
      try simp only [List.getElem_map] at hin
      generalize bs[k].toNat = x at *
      generalize many 8 5 k = q at *
      generalize rest 8 5 k = r at *
      have hL : val f (5 * q) r < 2 ^ r := val_lt HL.out _ _
      have hL2 : val f (5 * q) r < 16 := Nat.lt_of_lt_of_le hL (Nat.le_trans (Nat.pow_le_pow_right (by omega) (show r ≤ 4 by omega)) (by decide))
      generalize val f (5 * q) r = L at *
      have ho := or_i64 L x 8 (by omega) (by omega)
      have hw1 : IntKind.i64.wrap ((L : Int) * 256) = (L : Int) * 256 := IntWalk.i64_in _ (by omega)
      have ho2 : bits .or .i64 ((L : Int) * 256) (x : Int) = ((L * 256 + x : Nat) : Int) := by rw [← ho]; congr 1
      have hB := Lib.hid hbw
      have hst : (L : Int) * 256 + (x : Int) = ((val f (5 * q) (r + 8) : Nat) : Int) := by rw [hin]; simp
      have HST := Lib.hid hst
      clear ho hL hc hst hbw hin
      go_wp2_with fail
      rw [HST.out]
      go_loopw [6, 7, 8] (fun o y b wy => ∃ q' b' : Nat, 5 * q' + b' = 8 * (k + 1) ∧ b' ≤ 12 ∧ y = .int .i64 (val f (5 * q') b' : Nat) ∧ b = .int .i64 b' ∧ ROwn elZ wy w.heap.size o (zs (grp f 5 q')) ∧ Below w.heap.size w wy) (fun _ _ b _ => (intOf b).toNat)
      case atStart => exact ⟨q, r + 8, by omega, by omega, rfl, by simp, hown, hB.out⟩
      case round =>
        obtain ⟨q', b', hqb, hb12, rfl, rfl, hown, hbw⟩ := hrel
        clear d0 hB
        by_cases hb5 : 5 ≤ b'
        · obtain ⟨c, rfl⟩ : ∃ c, b' = c + 5 := ⟨b' - 5, by omega⟩
          have hc1 : ((c + 5 : Nat) : Int) = (c : Int) + 5 := by simp
          have hc2 : (c : Int) + 5 - 5 = (c : Int) := by omega
          have hc5 : (5 : Int) ≤ (c : Int) + 5 := by omega
          rw [hc1]
          clear hc1
          obtain ⟨o1, o2⟩ := val_out HL.out (5 * q') 5 c
          have o3 : 5 * q' + 5 = 5 * (q' + 1) := by omega
          rw [o3, Nat.add_comm 5 c] at o2
          rw [Nat.add_comm 5 c] at o1
          have hg := grp_succ f 5 q'
          have hglen := grp_len f 5 q'
          have hVlt : val f (5 * q') (c + 5) < 4096 := Nat.lt_of_lt_of_le (val_lt HL.out _ _) (Nat.le_trans (Nat.pow_le_pow_right (by omega) (show c + 5 ≤ 12 by omega)) (by decide))
          have hGlt : val f (5 * q') 5 < 32 := val_lt HL.out _ _
          generalize val f (5 * q') (c + 5) = V at *
          generalize val f (5 * q') 5 = G at *
          have hsh : (V : Int) / 2 ^ c = (G : Int) := by rw [← o1]; simp
          have hand := and_i64 V c (by omega) (by omega)
          rw [o2] at hand
          have HG := Lib.hid hg; have HGL := Lib.hid hglen; have HBW := Lib.hid hbw; have HON := Lib.hid hown; have HAND := Lib.hid hand
          have HLIT := Lib.hid (fun W : World => rd_lit elZ [(G : Int)] W 3 (0, 0) W.heap.size rfl (by simp [maxLen]))
          obtain ⟨u6, c6, rfl⟩ := own_shapeZ hown
          clear o1 o2 hg hglen hbw hown hand
          go_wp2_with (at_builtin; refine appE elZ rfl (.tmp 32) (.tmp 36) rfl w.heap.size _ _ rfl (HON.out.next ((br _).alloc (Nat.le_refl _) _)) _ [(G : Int)] rfl (HLIT.out wr) (by unfold zs; rw [List.length_map, HGL.out]; show q' + 1 ≤ _; unfold maxLen; omega) (by unfold zs; rw [List.length_map, HGL.out]; show (q' + 1) * 8 ≤ _; omega) (by have := HBW.out.size; simp; omega) ?_; intro v5 w5 hown5 hb5 hfar5; have HO5 := Lib.hid hown5; have HB5 := Lib.hid hb5; clear hown5 hb5 hfar5)
          go_roundw
          case rel =>
            refine ⟨q' + 1, c, by omega, by omega, by rw [HAND.out], by go_num, ?_, (HBW.out.alloc HBW.out.size _).trans HB5.out⟩
            have := HO5.out
            unfold zs at this ⊢
            rw [HG.out, List.map_append]
            exact this
          case measure => simp [intOf]; omega
        · have hbr : b' = rest 8 5 (k + 1) ∧ q' = many 8 5 (k + 1) := by unfold rest many; omega
          have HBR := Lib.hid hbr
          have hb5' : b' < 5 := by omega
          have HBW := Lib.hid hbw; have HON := Lib.hid hown
          obtain ⟨u6, c6, rfl⟩ := own_shapeZ hown
          clear hbw hown hbr
          obtain ⟨Y, hY⟩ : ∃ Y, val f (5 * q') b' = Y := ⟨_, rfl⟩
          have HY := Lib.hid hY
          rw [hY]
          clear hY
          go_wp2
          go_roundw
          case rel => exact ⟨k + 1, by omega, by rw [← HBR.out.1, ← HBR.out.2, HY.out], by rw [← HBR.out.1], by go_num, by rw [← HBR.out.2]; exact HON.out, HBW.out⟩
          case measure => simp [intOf]; omega
    · have e : k = bs.length := by omega
      subst e
      have HBW := Lib.hid hbw; have HON := Lib.hid hown
      obtain ⟨u6, c6, hsh⟩ := own_shapeZ hown
      clear hbw hown
      go_wp2
      refine bodyPost_ret (v := .tuple #[_, _, _]) (by simp [results, Tryd.results56, go_sem]) rfl ⟨_, rfl, HON.out, HBW.out⟩
set_option maxRecDepth 100000 in
set_option maxHeartbeats 2000000 in
theorem regB_any (v : Value) (xs : List Nat) (w : World) (h : RdE elZ w v (zs xs)) (hx32 : ∀ x ∈ xs, x < 32) (hl : xs.length ≤ 2000000) : Calls Tryd.prog 58 #[v, .int .i64 5, .int .i64 8] w fun e w' => ∃ u, e = .returned (.tuple #[u, .int .i64 (val (bitL 5 xs) (8 * many 5 8 xs.length) (rest 5 8 xs.length) : Nat), .int .i64 (rest 5 8 xs.length : Nat)]) ∧ ROwn elB w' w.heap.size u (by8 (grp (bitL 5 xs) 8 (many 5 8 xs.length))) ∧ Below w.heap.size w w' := by
  obtain ⟨a, cap, rfl, h1, h2, h3⟩ := h
  have H3 := Lib.hid h3; clear h3
  obtain ⟨f, hf⟩ : ∃ f, bitL 5 xs = f := ⟨_, rfl⟩
  rw [hf]
  have HF := Lib.hid hf
  have HL := Lib.hid (fun i => hf ▸ bitL_lt 5 xs i)
  have hle : (xs.length : Int) ≤ 2000000 := by omega
  clear hf
  have HZL : (zs xs).length = xs.length := by unfold zs; rw [List.length_map]
  rw [HZL] at h1 ⊢
  go_enter Tryd.func58, Tryd.ntmps58
  go_wp2
  go_loopw [6, 7, 8, 13] (fun o L b i wr => ∃ k : Nat, k ≤ xs.length ∧ L = .int .i64 (val f (8 * many 5 8 k) (rest 5 8 k) : Nat) ∧ b = .int .i64 (rest 5 8 k : Nat) ∧ i = .int .i64 k ∧ ROwn elB wr w.heap.size o (by8 (grp f 8 (many 5 8 k))) ∧ Below w.heap.size w wr) (fun _ _ _ i _ => xs.length - (intOf i).toNat)
  case atStart => exact ⟨0, Nat.zero_le _, rfl, rfl, rfl, (ROwn.nil _ _ : ROwn elB w w.heap.size (.slice none 0 0) []), br _⟩
  case round =>
    obtain ⟨k, hk, rfl, rfl, rfl, hown, hbw⟩ := hrel
    by_cases hkl : k < xs.length
    · obtain ⟨g, off, rfl, hbl, hc⟩ := H3.out (by rw [HZL]; omega)
      have d0 := (hbw.cell (p := ⟨g, off + (k * 1 + 0), none⟩) hbl).trans (hc k (by rw [HZL]; omega) 0 _ rfl)
      simp only [Nat.mul_one, Nat.add_zero, zs, List.getElem_map] at d0
      have i1 : (k : Int) < (xs.length : Int) := by omega
      have i0 : (0 : Int) ≤ (k : Int) := by omega
      have hqr := many_rest 5 8 k
      have hr5 : rest 5 8 k < 8 := Nat.mod_lt _ (by omega)
      have hx : xs[k] < 32 := hx32 _ (List.getElem_mem hkl)
      have hin := val_in (fr := 5) (by omega) (xs := xs) (k := k) (a := 8 * many 5 8 k) (r := rest 5 8 k) (by rw [getD_lt (by simpa using hkl)]; simpa using hx) hqr
      rw [HF.out, getD_lt (by simpa using hkl)] at hin
      try simp only [List.getElem_map] at hin
      generalize xs[k] = x at *
      generalize many 5 8 k = q at *
      generalize rest 5 8 k = r at *
      have hL : val f (8 * q) r < 2 ^ r := val_lt HL.out _ _
      have hL2 : val f (8 * q) r < 128 := Nat.lt_of_lt_of_le hL (Nat.le_trans (Nat.pow_le_pow_right (by omega) (show r ≤ 7 by omega)) (by decide))
      generalize val f (8 * q) r = L at *
      have ho := or_i64 L x 5 (by omega) (by omega)
      have hw1 : IntKind.i64.wrap ((L : Int) * 32) = (L : Int) * 32 := IntWalk.i64_in _ (by omega)
      have ho2 : bits .or .i64 ((L : Int) * 32) (x : Int) = ((L * 32 + x : Nat) : Int) := by rw [← ho]; congr 1
      have hB := Lib.hid hbw
      have hst : (L : Int) * 32 + (x : Int) = ((val f (8 * q) (r + 5) : Nat) : Int) := by rw [hin]; simp
      have HST := Lib.hid hst
      clear ho hL hc hst hbw hin
      go_wp2_with fail
      rw [HST.out]
      go_loopw [6, 7, 8] (fun o y b wy => ∃ q' b' : Nat, 8 * q' + b' = 5 * (k + 1) ∧ b' ≤ 12 ∧ y = .int .i64 (val f (8 * q') b' : Nat) ∧ b = .int .i64 b' ∧ ROwn elB wy w.heap.size o (by8 (grp f 8 q')) ∧ Below w.heap.size w wy) (fun _ _ b _ => (intOf b).toNat)
      case atStart => exact ⟨q, r + 5, by omega, by omega, rfl, by simp, hown, hB.out⟩
      case round =>
        obtain ⟨q', b', hqb, hb12, rfl, rfl, hown, hbw⟩ := hrel
        clear d0 hB
        by_cases hb5 : 8 ≤ b'
        · obtain ⟨c, rfl⟩ : ∃ c, b' = c + 8 := ⟨b' - 8, by omega⟩
          have hc1 : ((c + 8 : Nat) : Int) = (c : Int) + 8 := by simp
          have hc2 : (c : Int) + 8 - 8 = (c : Int) := by omega
          have hc5 : (8 : Int) ≤ (c : Int) + 8 := by omega
          rw [hc1]
          clear hc1
          obtain ⟨o1, o2⟩ := val_out HL.out (8 * q') 8 c
          have o3 : 8 * q' + 8 = 8 * (q' + 1) := by omega
          rw [o3, Nat.add_comm 8 c] at o2
          rw [Nat.add_comm 8 c] at o1
          have hg := grp_succ f 8 q'
          have hglen := grp_len f 8 q'
          have hVlt : val f (8 * q') (c + 8) < 4096 := Nat.lt_of_lt_of_le (val_lt HL.out _ _) (Nat.le_trans (Nat.pow_le_pow_right (by omega) (show c + 8 ≤ 12 by omega)) (by decide))
          have hGlt : val f (8 * q') 8 < 256 := val_lt HL.out _ _
          generalize val f (8 * q') (c + 8) = V at *
          generalize val f (8 * q') 8 = G at *
          have hsh : (V : Int) / 2 ^ c = (G : Int) := by rw [← o1]; simp
          have hand := and_i64 V c (by omega) (by omega)
          rw [o2] at hand
          have HG := Lib.hid hg; have HGL := Lib.hid hglen; have HBW := Lib.hid hbw; have HON := Lib.hid hown; have HAND := Lib.hid hand
          have hwu : IntKind.u8.wrap (G : Int) = (G : Int) := wraps_u8 _ (by omega) (by omega)
          have HLIT := Lib.hid (fun W : World => show RdE elB (W.alloc (.cells #[.int .u8 (G : Int)] 5)) (.slice (some ⟨W.heap.size, 0, none⟩) 1 1) [G.toUInt8] from (by
            have := rd_lit elB [G.toUInt8] W 5 (0, 0) W.heap.size rfl (by simp [maxLen])
            simp only [List.flatMap_cons, List.flatMap_nil, eB, u8_nat hGlt] at this
            exact this))
          obtain ⟨u6, c6, rfl⟩ := own_shapeZ hown
          clear o1 o2 hg hglen hbw hown hand
          go_wp2_with (at_builtin; refine appE elB rfl (.tmp 31) (.tmp 36) rfl w.heap.size _ _ rfl (HON.out.next ((br _).alloc (Nat.le_refl _) _)) _ [G.toUInt8] rfl (HLIT.out wr) (by unfold by8; rw [List.length_map, HGL.out]; show q' + 1 ≤ _; unfold maxLen; omega) (by unfold by8; rw [List.length_map, HGL.out]; show (q' + 1) * 1 ≤ _; omega) (by have := HBW.out.size; simp; omega) ?_; intro v5 w5 hown5 hb5 hfar5; have HO5 := Lib.hid hown5; have HB5 := Lib.hid hb5; clear hown5 hb5 hfar5)
          go_roundw
          case rel =>
            refine ⟨q' + 1, c, by omega, by omega, by rw [HAND.out], by go_num, ?_, (HBW.out.alloc HBW.out.size _).trans HB5.out⟩
            have := HO5.out
            unfold by8 at this ⊢
            rw [HG.out, List.map_append]
            exact this
          case measure => simp [intOf]; omega
        · have hbr : b' = rest 5 8 (k + 1) ∧ q' = many 5 8 (k + 1) := by unfold rest many; omega
          have HBR := Lib.hid hbr
          have hb5' : b' < 8 := by omega
          have HBW := Lib.hid hbw; have HON := Lib.hid hown
          obtain ⟨u6, c6, rfl⟩ := own_shapeZ hown
          clear hbw hown hbr
          obtain ⟨Y, hY⟩ : ∃ Y, val f (8 * q') b' = Y := ⟨_, rfl⟩
          have HY := Lib.hid hY
          rw [hY]
          clear hY
          go_wp2
          go_roundw
          case rel => exact ⟨k + 1, by omega, by rw [← HBR.out.1, ← HBR.out.2, HY.out], by rw [← HBR.out.1], by go_num, by rw [← HBR.out.2]; exact HON.out, HBW.out⟩
          case measure => simp [intOf]; omega
    · have e : k = xs.length := by omega
      subst e
      have HBW := Lib.hid hbw; have HON := Lib.hid hown
      obtain ⟨u6, c6, hsh⟩ := own_shapeZ hown
      clear hbw hown
      go_wp2
      refine bodyPost_ret (v := .tuple #[_, _, _]) (by simp [results, Tryd.results58, go_sem]) rfl ⟨_, rfl, HON.out, HBW.out⟩
end Sl
end Go.Proofs.YtdfdjampodkpgaaDoor
end

/-! SpellConv -/
section
/- Spelling: a text is spelled. (gen_spell2.py) -/
set_option linter.unusedSimpArgs false
set_option linter.unusedVariables false
namespace Go.Proofs.YtdfdjampodkpgaaDoor
open Go.RowKit
namespace Sl
open Bt
/-- a text as numbers, and back -/
def nt (s : ByteArray) : List Nat := s.data.toList.map UInt8.toNat
def sB (l : List Nat) : ByteArray := ⟨(by8 l).toArray⟩
theorem nt_len (s : ByteArray) : (nt s).length = s.size := by unfold nt; rw [List.length_map]; rfl
theorem nt_lt (s : ByteArray) : ∀ b ∈ nt s, b < 256 := fun b hb => by
  obtain ⟨x, _, rfl⟩ := List.mem_map.1 hb
  exact x.toNat_lt
theorem nt_sB {l : List Nat} (h : ∀ b ∈ l, b < 256) : nt (sB l) = l := by
  unfold nt sB by8
  rw [List.map_map]
  exact (List.map_congr_left (fun b hb => u8_nat (h b hb))).trans (List.map_id _)
theorem ba_of {a b : ByteArray} (h : a.data.toList = b.data.toList) : a = b := by
  obtain ⟨⟨a⟩⟩ := a
  obtain ⟨⟨b⟩⟩ := b
  simp at h
  rw [h]
theorem sB_nt (s : ByteArray) : sB (nt s) = s := by
  apply ba_of
  unfold sB nt by8
  show List.map _ (List.map _ _) = _
  rw [List.map_map]
  refine (List.map_congr_left (fun b _ => ?_)).trans (List.map_id _)
  show b.toNat.toUInt8 = b
  simp
theorem sB_size (l : List Nat) : (sB l).size = l.length := by
  unfold sB by8; show (List.map _ l).toArray.size = _; simp
/-- a text's bytes, in a block of their own -/
theorem conv_sb (s : ByteArray) (w : World) (hs : s.size ≤ maxLen) : ∃ (cap : Nat) (W : World), (convert 9 84 (.string s)).run Tryd.prog w = .ok (.slice (some ⟨w.heap.size, 0, none⟩) s.size cap) W ∧ RdE elB W (.slice (some ⟨w.heap.size, 0, none⟩) s.data.toList.length cap) s.data.toList ∧ Below w.heap.size w W := by
  have h := run_bytes_of_string (P := Tryd.prog) w 9 84 5 s Tryd.underlying9 Tryd.underlying84 Tryd.underlying5
  have hl : s.data.toList.length = s.size := Array.length_toList
  refine ⟨_, _, h, ⟨_, _, rfl, by rw [hl]; exact grownCap_ge _ _ _ _, grownCap_le_maxLen _ _ _ _ hs, fun hn => ⟨w.heap.size, 0, rfl, by rw [asz]; exact Nat.lt_succ_self _, fun i hi j u hu => ?_⟩⟩, (bn (br w) 1).alloc (Nat.le_refl _) _⟩
  have hj : j = 0 := by
    cases j with
    | zero => rfl
    | succ j => simp [eB] at hu
  subst hj
  have hz : i < s.data.size := by rw [← Array.length_toList]; exact hi
  have hc : (w.drew.alloc (.cells (bytesRow s (grownCap w s.size 0 5)) 5 ((bytesRow s (grownCap w s.size 0 5)).size, (bytesRow s (grownCap w s.size 0 5)).size + 1))).cell? ⟨w.heap.size, 0 + (i * 1 + 0), none⟩ = (bytesRow s (grownCap w s.size 0 5))[i]? := by
    rw [show 0 + (i * 1 + 0) = i by omega]
    exact World.cell?_alloc_mark _ _ _ _ _
  rw [hc]
  unfold bytesRow
  rw [Array.getElem?_append_left (by simpa using hz)]
  simp only [Array.getElem?_map]
  rw [Array.getElem?_eq_getElem hz]
  simp [eB] at hu ⊢
  rw [← hu]
theorem idx_str (s : ByteArray) (x : Int) (i : Nat) (hx : x = (i : Int)) (hi : i < s.size) (w : World) : (Instr.index 9 (.string s) (.int .i64 x)).run Tryd.prog w = .ok (.int .u8 ((s[i]'hi).toNat : Int)) w := by
  subst hx
  rw [run_index_string w _ _ _ _ Tryd.underlying9, dif_pos ⟨by omega, by omega⟩]
  simp
theorem letters_at (n : Nat) (h : n < 32) (w : World) : (Instr.index 9 (.string lettersB) (.int .i64 n)).run Tryd.prog w = .ok (.int .u8 (letter n : Nat)) w := by
  rw [idx_str lettersB n n rfl (by show n < 32; exact h) w]
  have : ∀ n : Nat, ∀ h : n < 32, (lettersB[n]'(by show n < 32; exact h)).toNat = letter n := by decide +kernel
  rw [this n h]
theorem made_one8 (z : Value) (hz : z.cells = #[z]) (n : Nat) : madeCells z.cells (n * 1) = (List.replicate n z).toArray := by
  unfold madeCells
  rw [hz, Nat.mul_one]
  apply Array.ext
  · simp
  · intro i h1 h2
    simp [Nat.mod_one]
theorem u8_info : (Tryd.prog.info? 5).map (fun i => (i.zero, i.size, i.bytes)) = some (some (.int .u8 0), 1, 1) := by kernel_rfl
theorem make_u8 (n : Nat) (hn : n ≤ 1000000) (w : World) : (Instr.makeSlice 84 (.int .i64 n) (.int .i64 n)).run Tryd.prog w = .ok (.slice (some ⟨w.heap.size, 0, none⟩) n n) (w.alloc (.cells (List.replicate n (.int .u8 0)).toArray 5)) := by
  obtain ⟨i0, hi, hz0, hz1, hz2⟩ := info_parts u8_info
  have := run_make (P := Tryd.prog) w 84 5 i0 _ Tryd.underlying84 hi hz0 .i64 .i64 n n (by omega) (Int.le_refl _) (by rw [hz2]; show (1 : Int) * n ≤ _; omega) (by omega)
  rw [this, Int.toNat_natCast, hz1]
  rw [made_one8 _ rfl]
def lv (x : Nat) : Value := .int .u8 (letter x : Nat)
theorem conv_bs (l : List Nat) (hl : ∀ x ∈ l, x < 256) (g : Nat) (w : World) (t : TypeId) (h : Box w g t (l.map (fun x : Nat => Value.int .u8 x))) : (convert 84 9 (.slice (some ⟨g, 0, none⟩) l.length l.length)).run Tryd.prog w = .ok (.string (sB l)) w := by
  have hlen : (by8 l).length = l.length := by unfold by8; rw [List.length_map]
  have := run_convert_bytes_back (P := Tryd.prog) w 84 9 5 ⟨g, 0, none⟩ l.length (by8 l) Tryd.underlying84 Tryd.underlying5 Tryd.underlying9 (fun j hj => by
    have ha : (⟨g, 0, none⟩ : Addr).add j = ⟨g, j, none⟩ := by unfold Addr.add; split <;> simp_all
    rw [hlen] at hj
    rw [ha, h.cell j, List.getElem?_map, List.getElem?_eq_getElem hj]
    have : ((by8 l)[j]'(by rw [hlen]; exact hj)).toNat = l[j] := by
      unfold by8
      rw [List.getElem_map]
      exact u8_nat (hl _ (List.getElem_mem hj))
    rw [this]
    rfl)
  rw [hlen] at this
  exact this
end Sl
end Go.Proofs.YtdfdjampodkpgaaDoor
end

/-! SpellRaw -/
section
/- Spelling: a text is spelled. (gen_spell2.py) -/
set_option linter.unusedSimpArgs false
set_option linter.unusedVariables false
namespace Go.Proofs.YtdfdjampodkpgaaDoor
open Go.RowKit
namespace Sl
open Bt
theorem wrapsN (V : Nat) (h : V < 256) : wrap64 (V : Int) = (V : Int) ∧ IntKind.i64.wrap (V : Int) = (V : Int) := ⟨by unfold wrap64; omega, IntWalk.i64_in _ (by omega)⟩
theorem zs_len (l : List Nat) : (zs l).length = l.length := by unfold zs; rw [List.length_map]
def csL (xs : List Nat) (k : Nat) : List Value := (xs.take k).map lv ++ List.replicate (xs.length - k) (.int .u8 0)
theorem cs_zero (xs : List Nat) : csL xs 0 = List.replicate xs.length (.int .u8 0) := by unfold csL; simp
theorem cs_at {xs : List Nat} {k : Nat} (h : k < xs.length) : (csL xs k)[k]? = some (.int .u8 0) := by
  unfold csL
  rw [List.getElem?_append_right (by simp; omega)]
  have : k - ((xs.take k).map lv).length = 0 := by simp; omega
  rw [this, List.getElem?_replicate]
  rw [if_pos (by omega)]
theorem cs_set {xs : List Nat} {k : Nat} (h : k < xs.length) : (csL xs k).set k (lv xs[k]) = csL xs (k + 1) := by
  unfold csL
  have hl : ((xs.take k).map lv).length = k := by simp; omega
  rw [List.set_append_right _ _ (by rw [hl]; exact Nat.le_refl _), hl, Nat.sub_self, List.take_succ_eq_append_getElem h, List.map_append]
  have : xs.length - k = (xs.length - (k + 1)) + 1 := by omega
  rw [this, List.replicate_succ, List.set_cons_zero]
  simp
theorem cs_all (xs : List Nat) : csL xs xs.length = xs.map lv := by unfold csL; simp
set_option maxRecDepth 100000 in
set_option maxHeartbeats 2000000 in
theorem raw_any (s : ByteArray) (hs : s.size ≤ 1000) (w : World) : Calls Tryd.prog 26 #[.string s] w fun e w' => e = .returned (.string (sB (rawF (nt s)))) ∧ Below w.heap.size w w' := by
  obtain ⟨cap, W, hcv, hrd, hbW⟩ := conv_sb s w (by unfold maxLen; omega)
  have hlb : s.data.toList.length = s.size := Array.length_toList
  have cr := fun v w' h => regA_any v s.data.toList w' h (by rw [hlb]; omega)
  rw [hlb] at cr
  have hqr := many_rest 8 5 s.size
  have hr5 : rest 8 5 s.size < 5 := Nat.mod_lt _ (by omega)
  have hfit : fit s.size ≤ 2000 := by unfold fit; omega
  have hfl : (fives (nt s)).length = fit s.size := by rw [fives_len, nt_len]
  have hf0 : rest 8 5 s.size = 0 → fives (nt s) = grp (bitL 8 (nt s)) 5 (many 8 5 s.size) := fun h => by
    unfold fives
    rw [nt_len]
    have : fit s.size = many 8 5 s.size := by unfold fit; omega
    rw [this]
  have hf1 : 0 < rest 8 5 s.size → fives (nt s) = grp (bitL 8 (nt s)) 5 (many 8 5 s.size) ++ [val (bitL 8 (nt s)) (5 * many 8 5 s.size) (rest 8 5 s.size) * 2 ^ (5 - rest 8 5 s.size)] := fun h => by
    unfold fives
    rw [nt_len]
    have : fit s.size = many 8 5 s.size + 1 := by unfold fit; omega
    rw [this, grp_succ, ← val_pad (by omega) (nt s) (by rw [nt_len]; omega)]
    have : rest 8 5 s.size + (5 - rest 8 5 s.size) = 5 := by omega
    rw [this]
  have hLlt := val_lt (bitL_lt 8 (nt s)) (5 * many 8 5 s.size) (rest 8 5 s.size)
  have hL16 : val (bitL 8 (nt s)) (5 * many 8 5 s.size) (rest 8 5 s.size) < 16 := Nat.lt_of_lt_of_le hLlt (Nat.le_trans (Nat.pow_le_pow_right (by omega) (show rest 8 5 s.size ≤ 4 by omega)) (by decide))
  have hx32 := fives_lt (nt s)
  have hgl := grp_len (bitL 8 (nt s)) 5 (many 8 5 s.size)
  have hraw : rawF (nt s) = (fives (nt s)).map letter := rfl
  have hrl : ∀ x ∈ rawF (nt s), x < 256 := rawF_lt _
  unfold nt at hf0 hf1 hL16 hx32 hfl hraw hrl hgl ⊢
  generalize s.data.toList.map UInt8.toNat = N at *
  generalize hF : fives N = F at *
  clear hF hLlt
  obtain ⟨RES, hRES⟩ : ∃ R, sB (rawF N) = R := ⟨_, rfl⟩
  have hconv : ∀ g W t, Box W g t (F.map lv) → (convert 84 9 (.slice (some ⟨g, 0, none⟩) F.length F.length)).run Tryd.prog W = .ok (.string RES) W := fun g W t hb => by
    have := conv_bs (rawF N) hrl g W t (by rw [hraw, List.map_map]; exact hb)
    rw [hRES, hraw, List.length_map] at this
    exact this
  rw [hRES]
  have HCONV := Lib.hid hconv
  clear hRES hraw hrl hconv
  have hle : F.length ≤ 2000 := by omega
  generalize many 8 5 s.size = q at *
  generalize rest 8 5 s.size = r at *
  generalize val (bitL 8 N) (5 * q) r = L at *
  have CR := Lib.hid cr
  have HRD := Lib.hid hrd; have HBW := Lib.hid hbW; have HX := Lib.hid hx32
  have hsz : (s.size : Int) ≤ 1000 := by omega
  rw [hlb] at HRD
  clear cr hrd hbW hx32 hqr hlb hfl hfit
  by_cases hr0 : r = 0
  · subst hr0
    have hF0 := hf0 rfl
    rw [← hF0] at CR
    clear hf0 hf1 hF0 hgl
    go_enter Tryd.func26, Tryd.ntmps26
    go_wp2_with fail
    refine (CR.out _ _ HRD.out).mono ?_
    rintro en w3 ⟨u, rfl, hF, hb3⟩
    have hB3 := bt HBW.out hb3
    have hF := hF.base (Nat.le_refl _)
    clear hb3 CR HRD HBW
    obtain ⟨x3, c3, hsh3⟩ := own_shapeZ hF
    rw [zs_len] at hsh3
    subst hsh3
    obtain ⟨a4, c4, e4, _, _, g4⟩ := hF.rd
    injection e4 with e5 e7 e6
    clear e7
    subst e5 e6
    have G4 := Lib.hid g4
    have HB3 := Lib.hid hB3
    clear g4 hF hB3
    have hmk := fun W => make_u8 F.length (by omega) W
    have HMK := Lib.hid hmk
    generalize hm : F.length = m at *
    have HM := Lib.hid hm
    clear hm
    have hmle : (m : Int) ≤ 2000 := by omega
    have hbx0 := Lib.hid (Box.new w3 5 (List.replicate m (.int .u8 0)))
    go_wp2_with fail
    go_loopw [30] (fun i wr => ∃ k : Nat, k ≤ m ∧ i = .int .i64 k ∧ Box wr w3.heap.size 5 (csL F k) ∧ Below w3.heap.size w3 wr) (fun i _ => m - (intOf i).toNat)
    case atStart => exact ⟨0, Nat.zero_le _, rfl, by rw [cs_zero, HM.out]; exact hbx0.out, (br _).alloc (Nat.le_refl _) _⟩
    case round =>
      obtain ⟨k, hk, rfl, hbox, hbw⟩ := hrel
      by_cases hkl : k < m
      · obtain ⟨g, off, rfl, hbl, hc⟩ := G4.out (by rw [zs_len, HM.out]; omega)
        have hkF : k < F.length := by rw [HM.out]; exact hkl
        have d0 := (hbw.cell (p := ⟨g, off + (k * 1 + 0), none⟩) hbl).trans (hc k (by rw [zs_len]; exact hkF) 0 _ rfl)
        simp only [Nat.mul_one, Nat.add_zero, zs, List.getElem_map] at d0
        have hx := HX.out _ (List.getElem_mem hkF)
        have hs0 := hbox.cell k
        rw [cs_at hkF] at hs0
        have hf0 := hbox.froz k
        have hset := hbox.set k (lv F[k])
        rw [cs_set hkF] at hset
        unfold lv at hset
        have hlt := hbox.lt
        have hix := fun W => letters_at F[k] hx W
        unfold lettersB at hix
        generalize F[k] = x at *
        have i1 : (k : Int) < (m : Int) := by omega
        have i0 : (0 : Int) ≤ (k : Int) := by omega
        have HSET := Lib.hid hset; have HBW2 := Lib.hid hbw
        clear hc hset hbw hbox G4 hmk
        go_wp2
        go_roundw
        case rel => exact ⟨k + 1, by omega, by go_num, HSET.out, HBW2.out.setCell (Nat.le_refl _) _⟩
        case measure => simp [intOf]; omega
      · have e : k = m := by omega
        subst e
        rw [← HM.out, cs_all] at hbox
        have hcv2 := HCONV.out _ _ _ hbox
        have HBW2 := Lib.hid (HB3.out.trans (hbw.mono HB3.out.size))
        clear hbox hbw G4 hmk
        go_wp2
        go_ret
        exact ⟨rfl, HBW2.out⟩
  · obtain ⟨c, hrc, hc1, hc4⟩ : ∃ c : Nat, r + c = 5 ∧ 1 ≤ c ∧ c ≤ 4 := ⟨5 - r, by omega, by omega, by omega⟩
    have hF1 := hf1 (by omega)
    rw [show 5 - r = c by omega] at hF1
    have hI : (5 : Int) - (r : Int) = (c : Int) := by omega
    have hgt : (0 : Int) < (r : Int) := by omega
    obtain ⟨V, hV⟩ : ∃ V, L * 2 ^ c = V := ⟨_, rfl⟩
    have hVlt : V < 256 := by
      rw [← hV]
      have h1 : 2 ^ c ≤ 16 := Nat.le_trans (Nat.pow_le_pow_right (by omega) hc4) (by decide)
      have := Nat.mul_le_mul (show L ≤ 15 by omega) h1
      omega
    have hVI : (L : Int) * 2 ^ c = (V : Int) := by rw [← hV]; simp
    have hw64 : wrap64 ((L : Int) * 2 ^ c) = (V : Int) := by rw [hVI]; exact (wrapsN V hVlt).1
    have hwi : IntKind.i64.wrap ((L : Int) * 2 ^ c) = (V : Int) := by rw [hVI]; exact (wrapsN V hVlt).2
    rw [hV] at hF1
    have HF1 := Lib.hid hF1
    have HGL := Lib.hid hgl
    have HLT := Lib.hid (fun W : World => rd_lit elZ [(V : Int)] W 3 (0, 0) W.heap.size rfl (by simp [maxLen]))
    clear hf0 hf1 hF1 hV hVI hgl
    generalize hG : grp (bitL 8 N) 5 q = G at *
    clear hG
    have hGle : G.length ≤ 2000 := by have := HF1.out; rw [this, List.length_append] at hle; simp at hle; omega
    go_enter Tryd.func26, Tryd.ntmps26
    go_wp2_with fail
    refine (CR.out _ _ HRD.out).mono ?_
    rintro en w3 ⟨u, rfl, hu, hb3⟩
    have HB3 := Lib.hid (bt HBW.out hb3)
    have HU := Lib.hid hu
    have HS := Lib.hid (Nat.le_trans hb3.size (Nat.le_refl _))
    obtain ⟨xu, cu, hsu⟩ := own_shapeZ hu
    subst hsu
    clear hb3 CR hu
    go_wp2_with (at_builtin; refine appE elZ rfl (.tmp 18) (.tmp 23) rfl W.heap.size _ _ rfl (HU.out.next ((br _).alloc (Nat.le_refl _) _)) _ [(V : Int)] rfl (HLT.out w3) (by rw [zs_len]; show G.length + 1 ≤ _; unfold maxLen; omega) (by rw [zs_len]; show (G.length + 1) * 8 ≤ _; omega) (by have := HS.out; simp; omega) ?_; intro v5 w5 hown5 hb5 hfar5; have HO5 := Lib.hid hown5; have HB5 := Lib.hid hb5; clear hown5 hb5 hfar5)
    have hF : ROwn elZ w5 W.heap.size v5 (zs F) := by
      rw [HF1.out]
      unfold zs
      rw [List.map_append]
      exact HO5.out
    have hB3 : Below w.heap.size w w5 := (HB3.out.alloc HB3.out.size _).trans (HB5.out.mono HBW.out.size)
    clear HO5 HB5 HB3 HRD HBW HU HS
    obtain ⟨x3, c3, hsh3⟩ := own_shapeZ hF
    rw [zs_len] at hsh3
    subst hsh3
    obtain ⟨a4, c4, e4, _, _, g4⟩ := hF.rd
    injection e4 with e5 e7 e6
    clear e7
    subst e5 e6
    have G4 := Lib.hid g4
    have HB3 := Lib.hid hB3
    clear g4 hF hB3
    have hmk := fun W => make_u8 F.length (by omega) W
    have HMK := Lib.hid hmk
    generalize hm : F.length = m at *
    have HM := Lib.hid hm
    clear hm
    have hmle : (m : Int) ≤ 2000 := by omega
    have hbx0 := Lib.hid (Box.new w5 5 (List.replicate m (.int .u8 0)))
    go_wp2_with fail
    go_loopw [30] (fun i wr => ∃ k : Nat, k ≤ m ∧ i = .int .i64 k ∧ Box wr w5.heap.size 5 (csL F k) ∧ Below w5.heap.size w5 wr) (fun i _ => m - (intOf i).toNat)
    case atStart => exact ⟨0, Nat.zero_le _, rfl, by rw [cs_zero, HM.out]; exact hbx0.out, (br _).alloc (Nat.le_refl _) _⟩
    case round =>
      obtain ⟨k, hk, rfl, hbox, hbw⟩ := hrel
      by_cases hkl : k < m
      · obtain ⟨g, off, rfl, hbl, hc⟩ := G4.out (by rw [zs_len, HM.out]; omega)
        have hkF : k < F.length := by rw [HM.out]; exact hkl
        have d0 := (hbw.cell (p := ⟨g, off + (k * 1 + 0), none⟩) hbl).trans (hc k (by rw [zs_len]; exact hkF) 0 _ rfl)
        simp only [Nat.mul_one, Nat.add_zero, zs, List.getElem_map] at d0
        have hx := HX.out _ (List.getElem_mem hkF)
        have hs0 := hbox.cell k
        rw [cs_at hkF] at hs0
        have hf0 := hbox.froz k
        have hset := hbox.set k (lv F[k])
        rw [cs_set hkF] at hset
        unfold lv at hset
        have hlt := hbox.lt
        have hix := fun W => letters_at F[k] hx W
        unfold lettersB at hix
        generalize F[k] = x at *
        have i1 : (k : Int) < (m : Int) := by omega
        have i0 : (0 : Int) ≤ (k : Int) := by omega
        have HSET := Lib.hid hset; have HBW2 := Lib.hid hbw
        clear hc hset hbw hbox G4 hmk
        go_wp2
        go_roundw
        case rel => exact ⟨k + 1, by omega, by go_num, HSET.out, HBW2.out.setCell (Nat.le_refl _) _⟩
        case measure => simp [intOf]; omega
      · have e : k = m := by omega
        subst e
        rw [← HM.out, cs_all] at hbox
        have hcv2 := HCONV.out _ _ _ hbox
        have HBW2 := Lib.hid (HB3.out.trans (hbw.mono HB3.out.size))
        clear hbox hbw G4 hmk
        go_wp2
        go_ret
        exact ⟨rfl, HBW2.out⟩
end Sl
end Go.Proofs.YtdfdjampodkpgaaDoor
end
