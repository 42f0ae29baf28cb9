/- Journals: the walks. -/
import Derived.Test.YtlpefkbgdbiinaaJournalPlain
import Derived.Test.YtlpefkbgdbiinaaFrameLaws
import Derived.Shelf.Abstract
set_option linter.unusedVariables false
namespace Go.Proofs.Ytlpefkbgdbiinaa
open Go.RowKit
namespace Jr
open Fr
abbrev aL (K T : Bs) : Value := .agg #[.string K, .string T]
abbrev BoolQ (b : Bool) (w : World) (e : Ending) (w' : World) : Prop := e = .returned (.bool b) ∧ Below w.heap.size w w'
abbrev IntQ (n : Int) (w : World) (e : Ending) (w' : World) : Prop := e = .returned (.int .i64 n) ∧ Below w.heap.size w w'
abbrev StrQ (s : Bs) (w : World) (e : Ending) (w' : World) : Prop := e = .returned (.string s) ∧ Below w.heap.size w w'
theorem whole_any (s : Bs) (hs : s.size ≤ 1000000000000000) (w : World) : Calls Try.prog 36 #[.string s] w (BoolQ (wholeB s) w) := by
  have C1 := Lib.hid (read_any s hs)
  have hb : (((rd 64 s.data.toList).2 : Int) == (s.size : Int)) = wholeB s := by
    unfold wholeB; rw [Bool.eq_iff_iff]; simp; omega
  have HB := Lib.hid hb
  clear hb
  generalize (rd 64 s.data.toList).2 = n at *
  go_enter Try.func36, Try.ntmps36
  go_wp2_with fail
  refine (C1.out _).mono ?_
  rintro en w1 ⟨v1, rfl, r1, b1⟩
  clear r1
  go_wp2
  go_ret
  exact ⟨by rw [← HB.out]; rfl, b1⟩
theorem cl_any (s : Bs) (hs : s.size ≤ 1000000000000000) (w : World) : Calls Try.prog 35 #[.string s] w (BoolQ (!wholeB s) w) := by
  have C1 := Lib.hid (whole_any s hs)
  generalize wholeB s = b at *
  go_enter Try.func35, Try.ntmps35
  go_wp2_with fail
  refine (C1.out _).mono ?_
  rintro en w1 ⟨rfl, b1⟩
  go_wp2
  go_ret
  exact ⟨rfl, b1⟩
theorem all_any (K T : Bs) (hs : K.size + T.size ≤ 1000000000000000) (w : World) : Calls Try.prog 33 #[aL K T] w (StrQ (K ++ T) w) := by
  have ct1 := fun w => run_string_add_sum (P := Try.prog) (w := w) K T (by omega)
  obtain ⟨X, hX⟩ : ∃ X, K ++ T = X := ⟨_, rfl⟩
  simp only [hX] at ct1 ⊢
  clear hX
  unfold aL
  go_enter Try.func33, Try.ntmps33
  go_wp2
  go_ret
  exact ⟨rfl, (br _).alloc (Nat.le_refl _) _⟩
set_option maxHeartbeats 1000000 in
theorem idx_any (v : Value) (xs : List Bs) (hz : ∀ s ∈ xs, s.size ≤ 1000000000000000) (w : World) (h : RdE elS w v xs) :
    Calls Try.prog 40 #[v, .func (.func 35) #[] #[]] w (IntQ (findI (fun s => !wholeB s) xs) w) := by
  have hle := h.len_le
  obtain ⟨a, cap, rfl, h1, h2, h3⟩ := h
  have H3 := Lib.hid h3; clear h3
  have HZ := Lib.hid hz; clear hz
  have eg : ∀ args w, (callFunc 35 args).run Try.prog w = .ok (.enter 35 args) w := enters_of Try.func35 (by kernel_rfl) rfl
  obtain ⟨RES, hRES⟩ : ∃ RES : Int, findI (fun s => !wholeB s) xs = RES := ⟨_, rfl⟩
  rw [hRES]
  have HRES := Lib.hid hRES; clear hRES
  go_enter Try.func40, Try.ntmps40
  go_wp2
  go_loopw [8] (fun i wr => ∃ k : Nat, k ≤ xs.length ∧ i = .int .i64 k ∧ (∀ j (hj : j < xs.length), j < k → (!wholeB xs[j]) = false) ∧ Below w.heap.size w wr) (fun i _ => xs.length - (intOf i).toNat)
  case atStart => exact ⟨0, Nat.zero_le _, rfl, fun j hj hk => by omega, br _⟩
  case round =>
    obtain ⟨k, hk, rfl, hall, hbw⟩ := hrel
    by_cases hlt : k < xs.length
    · obtain ⟨g, off, rfl, hbl, hc⟩ := H3.out (by omega)
      have d0 := (hbw.cell (p := ⟨g, off + k, none⟩) hbl).trans (eS_at hc k hlt)
      have i1 : (k : Int) < (xs.length : Int) := by omega
      have i0 : (0 : Int) ≤ (k : Int) := by omega
      have HCL := Lib.hid (cl_any xs[k] (HZ.out _ (List.getElem_mem hlt)))
      have HBW := Lib.hid hbw; have HALL := Lib.hid hall
      by_cases he : (!wholeB xs[k]) = true
      · have hat : findN (fun s => !wholeB s) xs = k := findN_eq _ xs k (by omega) hall (fun _ => he)
        have hR := HRES.out
        unfold findI at hR
        rw [hat, if_neg (by omega)] at hR
        have HR := Lib.hid hR
        rw [he] at HCL
        clear hbw hall hc hR hat he H3 HZ HRES
        generalize xs[k] = t at *
        go_wp2_with fail
        refine (HCL.out _).mono ?_
        rintro en w3 ⟨rfl, hb3⟩
        go_wp2
        go_ret
        exact ⟨by rw [← HR.out]; rfl, HBW.out.trans (hb3.mono HBW.out.size)⟩
      · have he' : (!wholeB xs[k]) = false := by simpa using he
        have hall2 : ∀ j (hj : j < xs.length), j < k + 1 → (!wholeB xs[j]) = false := fun j hj hjk => by
          by_cases e : j = k
          · subst e; exact he'
          · exact hall j hj (by omega)
        have HA2 := Lib.hid hall2
        rw [he'] at HCL
        clear hbw hall hc hall2 he he' H3 HZ
        generalize xs[k] = t at *
        go_wp2_with fail
        refine (HCL.out _).mono ?_
        rintro en w3 ⟨rfl, hb3⟩
        have HB3 := Lib.hid (HBW.out.trans (hb3.mono HBW.out.size))
        clear hb3
        go_wp2
        go_roundw
        case rel => exact ⟨k + 1, by omega, by go_num, HA2.out, HB3.out⟩
        case measure => simp [intOf]; omega
    · have hat : findN (fun s => !wholeB s) xs = xs.length := findN_eq _ xs xs.length (Nat.le_refl _) (fun j hj _ => hall j hj (by omega)) (fun h => absurd h (Nat.lt_irrefl _))
      have hR := HRES.out
      unfold findI at hR
      rw [if_pos hat] at hR
      have HR := Lib.hid hR
      clear hR hat hall H3 HRES HZ
      go_wp2
      go_ret
      exact ⟨by rw [← HR.out]; rfl, hbw⟩
theorem has_any (v : Value) (xs : List Bs) (hz : ∀ s ∈ xs, s.size ≤ 1000000000000000) (w : World) (h : RdE elS w v xs) (b : Bool) (hb : (∀ x ∈ xs, wholeB x = true) ↔ b = false) :
    Calls Try.prog 34 #[v, .func (.func 35) #[] #[]] w (BoolQ b w) := by
  have C1 := Lib.hid (idx_any v xs hz w h)
  have hn := findI_neg (fun s => !wholeB s) xs
  have hd : decide (0 ≤ findI (fun s => !wholeB s) xs) = b := by
    rw [Bool.eq_iff_iff, decide_eq_true_eq]
    constructor
    · intro h0
      by_cases hbf : b = false
      · have := hn.2 (fun x hx => by simp [hb.2 hbf x hx]); omega
      · simpa using hbf
    · intro hbt
      rcases Int.lt_or_le (findI (fun s => !wholeB s) xs) 0 with h' | h'
      · have h4 := hn.1 h'
        have := hb.1 (fun x hx => by simpa using h4 x hx)
        rw [hbt] at this; cases this
      · exact h'
  have HD := Lib.hid hd
  clear hn hd hb h hz
  generalize findI (fun s => !wholeB s) xs = n at *
  go_enter Try.func34, Try.ntmps34
  go_wp2_with fail
  refine C1.out.mono ?_
  rintro en w1 ⟨rfl, b1⟩
  go_wp2
  go_ret
  exact ⟨by rw [← HD.out]; rfl, b1⟩
set_option maxHeartbeats 1000000 in
theorem check_any (K T : Bs) (hs : K.size + T.size ≤ 1000000000000000) (w : World) : Calls Try.prog 26 #[aL K T] w (IntQ (chkJ K T) w) := by
  have C1 := Lib.hid (all_any K T hs)
  have hsx : (K ++ T).size ≤ 1000000000000000 := by rw [ByteArray.size_append]; omega
  have C2 : RowKit.Hid (∀ v w, RdE elS w v [K, K ++ T] → Calls Try.prog 34 #[v, .func (.func 35) #[] #[]] w (BoolQ (!lok K T) w)) := Lib.hid (fun v w h => has_any v [K, K ++ T] (by intro s hs'; simp at hs'; rcases hs' with rfl | rfl; omega; exact hsx) w h _ (by unfold lok; simp))
  have hR : chkJ K T = if lok K T = true then 0 else 1 := rfl
  obtain ⟨X, hX⟩ : ∃ X, K ++ T = X := ⟨_, rfl⟩
  rw [hX] at C1 C2
  rw [hR]
  clear hX hR hsx
  unfold aL
  unfold aL at C1
  rcases hb : lok K T with _ | _
  all_goals
    rw [hb] at C2
    clear hb
    have k0 : (w.alloc (.cells #[.string K, .string T] 34)).cell? ⟨w.heap.size, 0, none⟩ = some (.string K) := by rw [World.cell?_alloc_mark]; rfl
    have k1 : (w.alloc (.cells #[.string K, .string T] 34)).cell? ⟨w.heap.size, 1, none⟩ = some (.string T) := by rw [World.cell?_alloc_mark]; rfl
    have HB0 := Lib.hid ((br w).alloc (Nat.le_refl _) (.cells #[.string K, .string T] 34))
    go_enter Try.func26, Try.ntmps26
    go_wp2_with fail
    go_region_held3 (fun w' => w'.cell? ⟨w.heap.size, 0, none⟩ = some (.string K) ∧ w'.cell? ⟨w.heap.size, 1, none⟩ = some (.string T))
      (first | (have hal := (br w1).alloc (Nat.le_refl _) (.cells #[.string K, .string X] 9); exact ⟨kp b2 (kp hal (kp b1 k0)), kp b2 (kp hal (kp b1 k1))⟩) | (have hal := (br w1).alloc (Nat.le_refl _) (.cells #[.string K, .string X] 9); go_split_ands; exact ⟨kp b2 (kp hal (kp b1 k0)), kp b2 (kp hal (kp b1 k1))⟩) | go_keep | exact ⟨kp b1 k0, kp b1 k1⟩ | (go_split_ands; exact ⟨kp b1 k0, kp b1 k1⟩) | (have hal := (br w1).alloc (Nat.le_refl _) (.cells #[.string K, .string X] 9); exact ⟨kp hal (kp b1 k0), kp hal (kp b1 k1)⟩))
      (first
        | (go_at_call 33; (with_reducible refine (C1.out _).mono ?_); rintro en w1 ⟨rfl, b1⟩)
        | (go_at_call 34; refine (C2.out _ _ (litS [K, X] w1 (by unfold maxLen; simp))).mono ?_; rintro en w2 ⟨rfl, b2⟩))
    go_wp2
    go_ret
    have B1 : Below w.heap.size w w1 := bd HB0.out b1
    exact ⟨by first | rfl | (simp; done), bt (B1.alloc B1.size _) b2⟩
end Jr
end Go.Proofs.Ytlpefkbgdbiinaa
