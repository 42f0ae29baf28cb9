/- Frames: what must be in any case; the law that Write and Read answer as the document says. -/
import Derived.Test.YtlpefkbgdbiinaaFrameRead2
import Derived.Test.YtlpefkbgdbiinaaFrameWrite
set_option linter.unusedVariables false
namespace Go.Proofs.Ytlpefkbgdbiinaa
open Go.RowKit
namespace Fr
def RdS (w : World) (v : Value) (xs : List Bs) : Prop := RdE elS w v xs ∧ ∀ s ∈ xs, s.size ≤ maxLen
theorem RdS.siz {w : World} {v : Value} {xs : List Bs} (h : RdS w v xs) : ∀ s ∈ xs, s.size ≤ 9223372036854775807 := fun s hs => by have := h.2 s hs; unfold maxLen at this; omega
def tAB : Bs := ⟨#[97, 98]⟩
def tC : Bs := ⟨#[99]⟩
def txt1 : Bs := ⟨#[0, 2, 97, 98, 0, 0, 0, 1, 99]⟩
def txt2 : Bs := ⟨#[0, 2, 97, 98, 0, 0, 0, 3, 99]⟩
def txt3 : Bs := ⟨#[2, 0]⟩
theorem k_write : writeF [tAB, emptyS, tC] = (txt1, 0) := by
  rw [write_ok _ (by decide) (by decide)]; rfl
theorem k_read2 : rd 64 txt2.data.toList = ([tAB, emptyS], 6) := by kernel_rfl
theorem k_read3 : rd 64 txt3.data.toList = ([], 0) := by kernel_rfl
theorem flatS (xs : List Bs) : xs.flatMap eS = xs.map Value.string := by
  induction xs with
  | nil => rfl
  | cons x xs ih => simp [eS, ih]
theorem litS (xs : List Bs) (w : World) (h : xs.length ≤ maxLen) : RdE elS (w.alloc (.cells (xs.map Value.string).toArray 9)) (.slice (some ⟨w.heap.size, 0, none⟩) xs.length xs.length) xs := by
  have := rd_lit elS xs w 9 (0, 0) w.heap.size rfl h
  rw [← flatS]; exact this
abbrev ReadQ (r : List Bs × Nat) (w : World) (e : Ending) (w' : World) : Prop := ∃ v, e = .returned (.tuple #[v, .int .i64 (r.2 : Int)]) ∧ ROwn elS w' w.heap.size v r.1 ∧ Below w.heap.size w w'
abbrev TrueQ (w : World) (e : Ending) (w' : World) : Prop := e = .returned (.bool true) ∧ Below w.heap.size w w'
set_option maxHeartbeats 2000000 in
theorem begun_any (w : World) : Calls Try.prog 15 #[] w (TrueQ w) := by
  have C1 := fun v => Lib.hid (write_any v [tAB, emptyS, tC])
  simp only [k_write] at C1
  have C2 := Lib.hid (read_any txt2 (by decide))
  rw [k_read2] at C2
  have C3 := Lib.hid (read_any txt3 (by decide))
  rw [k_read3] at C3
  have C4 := fun v u => Lib.hid (same_any v u [tAB, emptyS] [tAB, emptyS])
  have hT : txt1.toList = [0, 2, 97, 98, 0, 0, 0, 1, 99] := by rw [ByteArray.toList_eq]; rfl
  have L1 := Lib.hid (litS [tAB, emptyS, tC] w (by unfold maxLen; simp))
  go_enter Try.func15, Try.ntmps15
  go_wp2_with fail
  refine ((C1 _).out _ L1.out (by decide)).mono ?_
  rintro en w1 ⟨rfl, b1⟩
  have B1 := Lib.hid (bt ((br w).alloc (Nat.le_refl _) _) b1)
  clear b1 L1
  go_wp2_with fail
  refine (C2.out _).mono ?_
  rintro en w2 ⟨v2, rfl, r2, b2⟩
  have B2 := Lib.hid (bt B1.out b2); have R2 := Lib.hid r2.rd
  clear b2 r2
  go_wp2_with fail
  refine (C3.out _).mono ?_
  rintro en w3 ⟨v3, rfl, r3, b3⟩
  have B3 := Lib.hid (bt B2.out b3); have R3 := Lib.hid (R2.out.below b3)
  obtain ⟨a3, c3, rfl, _, _, _⟩ := r3.rd
  clear b3 r3 R2
  have L3 := Lib.hid (litS [tAB, emptyS] w3 (by unfold maxLen; simp))
  have R4 := Lib.hid (R3.out.below ((br w3).alloc (Nat.le_refl _) (.cells #[.string tAB, .string emptyS] 9)))
  have hB := Lib.hid (B3.out.alloc B3.out.size (.cells #[.string tAB, .string emptyS] 9))
  go_wp2_with fail
  refine ((C4 _ _).out _ R4.out L3.out).mono ?_
  rintro en w4 ⟨rfl, b4⟩
  have B4 := Lib.hid (bt hB.out b4)
  clear b4 R4 L3 R3
  go_wp2
  go_ret
  exact ⟨by first | rfl | (simp; done), B4.out⟩
set_option maxHeartbeats 2000000 in
theorem tells_core (v : Value) (xs R : List Bs) (s A : Bs) (e n : Int) (w : World) (h : RdE elS w v xs)
    (C1 : RowKit.Hid (∀ w, RdE elS w v xs → Calls Try.prog 11 #[v] w (TextQ (A, e) w)))
    (C2 : RowKit.Hid (∀ w, Calls Try.prog 12 #[.string s] w fun en w' => ∃ v, en = .returned (.tuple #[v, .int .i64 n]) ∧ ROwn elS w' w.heap.size v R ∧ Below w.heap.size w w'))
    (C3 : RowKit.Hid (∀ w, RdE elS w v xs → Calls Try.prog 13 #[v] w (TextQ (A, e) w)))
    (C4 : RowKit.Hid (∀ w, Calls Try.prog 14 #[.string s, .int .i64 64] w fun en w' => ∃ v, en = .returned (.tuple #[v, .int .i64 n]) ∧ RdE elS w' v R ∧ Below w.heap.size w w'))
    (C5 : RowKit.Hid (∀ v u w, RdE elS w v R → RdE elS w u R → Calls Try.prog 16 #[v, u] w (TrueQ w))) :
    Calls Try.prog 3 #[v, .string s] w (TrueQ w) := by
  have H := Lib.hid h
  clear h
  have CB := Lib.hid begun_any
  have hee : (e == e) = true := by simp
  have hnn : (n == n) = true := by simp
  have hA : (A.toList == A.toList) = true := by simp
  go_enter Try.func3, Try.ntmps3
  go_wp2_with fail
  refine (C1.out _ H.out).mono ?_
  rintro en w1 ⟨rfl, b1⟩
  have B1 := Lib.hid b1
  clear b1
  go_wp2_with fail
  refine (C2.out _).mono ?_
  rintro en w2 ⟨v2, rfl, r2, b2⟩
  have B2 := Lib.hid (bt B1.out b2); have R2 := Lib.hid r2.rd
  clear b2 r2
  go_wp2_with fail
  refine (C3.out _ (H.out.below B2.out)).mono ?_
  rintro en w3 ⟨rfl, b3⟩
  have B3 := Lib.hid (bt B2.out b3); have R3 := Lib.hid (R2.out.below b3)
  clear b3 R2
  go_wp2_with fail
  refine (C4.out _).mono ?_
  rintro en w4 ⟨v4, rfl, r4, b4⟩
  have B4 := Lib.hid (bt B3.out b4); have R4 := Lib.hid r4; have R5 := Lib.hid (R3.out.below b4)
  clear b4 r4 R3
  go_wp2_with fail
  refine (CB.out _).mono ?_
  rintro en w5 ⟨rfl, hb5⟩
  have B5 := Lib.hid (bt B4.out hb5); have R6 := Lib.hid (R4.out.below hb5); have R7 := Lib.hid (R5.out.below hb5)
  clear hb5 R4 R5
  go_wp2_with fail
  refine (C5.out _ _ _ R7.out R6.out).mono ?_
  rintro en w6 ⟨rfl, hb6⟩
  have B6 := Lib.hid (bt B5.out hb6)
  clear hb6
  go_wp2_with fail
  go_ret
  exact ⟨by first | rfl | (simp; done), B6.out⟩
theorem same_self (xs : List Bs) : ∀ v u w, RdE elS w v xs → RdE elS w u xs → Calls Try.prog 16 #[v, u] w (TrueQ w) := fun v u w h1 h2 => by
  have := same_any v u xs xs w h1 h2
  rw [decide_eq_true rfl] at this
  exact this
theorem tells_end (v : Value) (xs : List Bs) (s : Bs) (w : World) (h : RdS w v xs) (hs : s.size ≤ 140737488351232) : Calls Try.prog 3 #[v, .string s] w (TrueQ w) :=
  tells_core v xs (rd 64 s.data.toList).1 s (writeF xs).1 (writeF xs).2 ((rd 64 s.data.toList).2 : Int) w h.1 (Lib.hid (fun w h' => write_any v xs w h' h.siz)) (Lib.hid (read_any s (by omega))) (Lib.hid (fun w h' => textR_any v xs w h' h.siz)) (Lib.hid (fun w => ofR_any 64 (by omega) s (by omega) w)) (Lib.hid (same_self _))
end Fr
end Go.Proofs.Ytlpefkbgdbiinaa
