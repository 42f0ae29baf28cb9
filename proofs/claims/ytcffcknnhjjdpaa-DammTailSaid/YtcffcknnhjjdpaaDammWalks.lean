/- The functions of package damm and their contracts. -/
import Derived.Test.YtcffcknnhjjdpaaRows
import Derived.Test.YtcffcknnhjjdpaaDammPlain
import Derived.WalkKit
import Derived.Lib.Hide
import Derived.Outline
import Derived.Laws.IdiomStrings
namespace Go.Proofs.Ytcffcknnhjjdpaa
open Go.RowKit
namespace Dm

set_option maxHeartbeats 400000 in
theorem by_any (r d : Int) (w : World) (h0 : 0 ≤ r) (h1 : r ≤ 9) (h2 : 0 ≤ d) (h3 : d ≤ 9) :
    Calls Try.prog 16 #[.int .i64 r, .int .i64 d] w fun e w' => e = .returned (.int .i64 (tab r d)) ∧ w = w' := by
  go_enter Try.func16, Try.ntmps16
  go_wp2
  go_ret
  exact ⟨ret_int (tabByte _ _), rfl⟩

def stepF (r d : Int) : Int × Int := if r < 0 ∨ r > 9 ∨ d < 0 ∨ d > 9 then (0, 3) else (tab r d, 0)
def StepQ (r d : Int) (w : World) (e : Ending) (w' : World) : Prop := e = .returned (.tuple #[.int .i64 (stepF r d).1, .int .i64 (stepF r d).2]) ∧ w = w'
set_option maxHeartbeats 400000 in
theorem step_any (r d : Int) (w : World) : Calls Try.prog 12 #[.int .i64 r, .int .i64 d] w (StepQ r d w) := by
  by_cases h : r < 0 ∨ r > 9 ∨ d < 0 ∨ d > 9
  · have hf : stepF r d = (0, 3) := by simp [stepF, h]
    have Hf := Lib.hid hf; clear hf
    go_enter Try.func12, Try.ntmps12
    go_wp2_with fail
    all_goals try omega
    all_goals go_ret2; exact ⟨by rw [Hf.out]; rfl, rfl⟩
  · have hf : stepF r d = (tab r d, 0) := by simp [stepF, h]
    have Hf := Lib.hid hf; clear hf
    have h0 : 0 ≤ r := by omega
    have h1 : r ≤ 9 := by omega
    have h2 : 0 ≤ d := by omega
    have h3 : d ≤ 9 := by omega
    clear h
    go_enter Try.func12, Try.ntmps12
    go_wp2_with (go_at_call 16; refine (by_any r d _ h0 h1 h2 h3).mono ?_; rintro e w' ⟨rfl, rfl⟩)
    go_ret2
    exact ⟨by rw [Hf.out]; rfl, rfl⟩

def LedQ (l : List UInt8) (w : World) (e : Ending) (w' : World) : Prop := e = .returned (.tuple #[.int .i64 (led l).1, .int .i64 (led l).2]) ∧ Below w.heap.size w w'
set_option maxHeartbeats 1000000 in
theorem led_any (s : ByteArray) (w : World) (hs : s.size ≤ maxLen) : Calls Try.prog 15 #[.string s] w (LedQ s.data.toList w) := by
  unfold maxLen at hs
  have hcv := fun w => run_bytes_of_string (P := Try.prog) w 9 40 5 s Try.underlying9 Try.underlying40 Try.underlying5
  go_enter Try.func15, Try.ntmps15
  go_wp2
  go_loop [4, 11] (fun r i => ∃ k : Nat, k ≤ s.size ∧ okD (s.data.toList.take k) ∧ i = .int .i64 k ∧ r = .int .i64 (fold (s.data.toList.take k))) (fun _ i => s.size - (intOf i).toNat)
  case atStart => exact ⟨0, Nat.zero_le _, by simp [okD], rfl, rfl⟩
  case round =>
    obtain ⟨k, hk, hok, rfl, rfl⟩ := hrel
    have hfb := fold_bd _ hok
    by_cases hlt : k < s.size
    · have hcell : (w.alloc (.cells (bytesRow s (grownCap w s.size 0 5)) 5 ((bytesRow s (grownCap w s.size 0 5)).size, (bytesRow s (grownCap w s.size 0 5)).size + 1))).cell? ⟨w.heap.size, k, none⟩ = some (.int .u8 (s.data[k].toNat : Int)) := by
        rw [World.cell?_alloc_mark]; exact bytesRow_at s _ k hlt
      obtain ⟨c, hc⟩ : ∃ c, c = s.data[k] := ⟨_, rfl⟩
      rw [← hc] at hcell
      have hts := take_snoc s.data.toList k (by simpa using hlt)
      have hc2 : s.data.toList[k]'(by simpa using hlt) = c := by rw [hc]; simp
      rw [hc2] at hts
      have HT := Lib.hid hts; clear hts
      have Hok := Lib.hid hok; clear hok
      have Hc := Lib.hid hc2; clear hc2 hc
      have hcb : c.toNat < 256 := c.toNat_lt
      by_cases hd : 48 ≤ c.toNat ∧ c.toNat ≤ 57
      · obtain ⟨hd1, hd2⟩ := hd
        go_wp2_with (go_at_call 16; refine (by_any _ _ _ (by omega) (by omega) (by omega) (by omega)).mono ?_; rintro e w' ⟨rfl, rfl⟩)
        go_round
        case rel => exact ⟨k + 1, by omega, by rw [HT.out]; exact (okD_snoc _ _).2 ⟨Hok.out, hd1, hd2⟩, by go_num, by rw [HT.out, fold_snoc]⟩
        case measure => simp [intOf]; omega
      · have hno : led s.data.toList = (0, 1) := by
          unfold led; rw [if_neg]; intro h
          exact hd (h c (by rw [← Hc.out]; exact List.getElem_mem _))
        have Hno := Lib.hid hno; clear hno
        rcases (show c.toNat < 48 ∨ 57 < c.toNat by omega) with hd1 | hd1
        all_goals
          clear hd
          go_wp2
          go_ret2
          exact ⟨by rw [Hno.out]; rfl, ((Below.refl _ _).alloc (Nat.le_refl _) _).drew⟩
    · have hge : s.size ≤ k := by omega
      clear hlt
      have hall : s.data.toList.take k = s.data.toList := List.take_of_length_le (by simpa using hge)
      rw [hall] at hok
      by_cases hl : 24 < s.size
      · have hno : led s.data.toList = (0, 2) := by
          unfold led; rw [if_pos hok, if_pos (by simpa using hl)]
        have Hno := Lib.hid hno; clear hno hok hall hfb
        go_wp2
        go_ret2
        exact ⟨by rw [Hno.out]; rfl, ((Below.refl _ _).alloc (Nat.le_refl _) _).drew⟩
      · have hno : led s.data.toList = (fold (s.data.toList.take k), 0) := by
          unfold led; rw [if_pos hok, if_neg (by simpa using hl), hall]
        have Hno := Lib.hid hno; clear hno hok hall hfb
        go_wp2
        go_ret2
        exact ⟨by rw [Hno.out]; rfl, ((Below.refl _ _).alloc (Nat.le_refl _) _).drew⟩

def digF (l : List UInt8) : Int := if (led l).2 = 0 then 48 + (led l).1 else 0
theorem led_bd (l : List UInt8) : 0 ≤ (led l).1 ∧ (led l).1 ≤ 9 ∧ ((led l).2 = 0 ∨ (led l).2 = 1 ∨ (led l).2 = 2) ∧ ((led l).2 ≠ 0 → (led l).1 = 0) := by
  unfold led
  by_cases h : okD l
  · have := fold_bd l h
    rw [if_pos h]
    split <;> simp <;> omega
  · rw [if_neg h]; simp
def DigQ (l : List UInt8) (w : World) (e : Ending) (w' : World) : Prop := e = .returned (.tuple #[.int .u8 (digF l), .int .i64 (led l).2]) ∧ Below w.heap.size w w'
set_option maxHeartbeats 400000 in
theorem digit_any (s : ByteArray) (w : World) (hs : s.size ≤ maxLen) : Calls Try.prog 8 #[.string s] w (DigQ s.data.toList w) := by
  have hb := led_bd s.data.toList
  by_cases he : (led s.data.toList).2 = 0
  · have hd : digF s.data.toList = 48 + (led s.data.toList).1 := by simp [digF, he]
    have Hb := Lib.hid hb; clear hb
    have He := Lib.hid he; clear he
    have Hd := Lib.hid hd; clear hd
    go_enter Try.func8, Try.ntmps8
    go_wp2_with fail
    refine (led_any s w hs).mono ?_; rintro e w' ⟨rfl, hbel⟩
    have hb := Hb.out
    obtain ⟨a, ha⟩ : ∃ a, a = (led s.data.toList).1 := ⟨_, rfl⟩
    rw [He.out] ; rw [← ha]
    have h1 : 0 ≤ a := by omega
    have h2 : a ≤ 9 := by omega
    have Ha := Lib.hid ha; clear ha hb
    go_wp2
    go_ret2
    exact ⟨by rw [Hd.out, He.out, ← Ha.out]; rfl, hbel⟩
  · have hd : digF s.data.toList = 0 := by simp [digF, he]
    have hz : (led s.data.toList).1 = 0 := hb.2.2.2 he
    have Hb := Lib.hid hb; clear hb
    have He := Lib.hid he
    have Hd := Lib.hid hd; clear hd
    have Hz := Lib.hid hz; clear hz
    go_enter Try.func8, Try.ntmps8
    go_wp2_with fail
    refine (led_any s w hs).mono ?_; rintro e w' ⟨rfl, hbel⟩
    go_wp2
    go_ret2
    exact ⟨by rw [Hd.out]; rfl, hbel⟩
def isF (l : List UInt8) : Bool := decide ((led l).2 = 0) && decide ((led l).1 = 0)
def IsQ (l : List UInt8) (w : World) (e : Ending) (w' : World) : Prop := e = .returned (.tuple #[.bool (isF l), .int .i64 (led l).2]) ∧ Below w.heap.size w w'
set_option maxHeartbeats 400000 in
theorem is_any (s : ByteArray) (w : World) (hs : s.size ≤ maxLen) : Calls Try.prog 10 #[.string s] w (IsQ s.data.toList w) := by
  have hb := led_bd s.data.toList
  obtain ⟨a, ha⟩ : ∃ a, a = (led s.data.toList).1 := ⟨_, rfl⟩
  obtain ⟨e, he⟩ : ∃ e, e = (led s.data.toList).2 := ⟨_, rfl⟩
  have hf : isF s.data.toList = (decide (e = 0) && decide (a = 0)) := by rw [ha, he]; rfl
  rw [← ha, ← he] at hb
  unfold IsQ
  rw [hf]
  have Ha := Lib.hid ha; have He := Lib.hid he; clear ha he hf
  by_cases h1 : e = 0
  all_goals by_cases h2 : a = 0
  all_goals
    have h1' : (e == 0) = decide (e = 0) := rfl
    have h2' : (a == 0) = decide (a = 0) := rfl
    simp only [h1, h2] at h1' h2'
    have Hb := Lib.hid hb; clear hb
    have H1 := Lib.hid h1; have H2 := Lib.hid h2; clear h1 h2
    go_enter Try.func10, Try.ntmps10
    go_wp2_with fail
    refine (led_any s w hs).mono ?_; rintro en w' ⟨rfl, hbel⟩
    rw [← Ha.out, ← He.out]
    go_wp2
    go_ret2
    exact ⟨by simp [H1.out, H2.out, ← He.out], hbel⟩
end Dm
end Go.Proofs.Ytcffcknnhjjdpaa
