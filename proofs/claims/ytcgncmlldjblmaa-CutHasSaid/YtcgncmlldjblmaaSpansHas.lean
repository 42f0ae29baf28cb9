/- Sets of days: Has and Size. -/
import Derived.Test.YtcgncmlldjblmaaSpansBoth
set_option linter.unusedSimpArgs false
set_option linter.unusedVariables false
namespace Go.Proofs.Ytcgncmlldjblmaa
open Go.RowKit
namespace Sn
abbrev inS (n : Int) (s : Sp) : Bool := decide (s.1 ≤ n) && decide (n < s.2)
set_option maxHeartbeats 1000000 in
theorem cl_any (s : Sp) (n : Int) (b : Nat) (w : World) (hc : w.cell? ⟨b, 0, none⟩ = some (.int .i64 n)) (hlt : b < w.heap.size) : Calls Try.prog 61 #[aS s, .pointer (some ⟨b, 0, none⟩)] w (BoolQ (inS n s) w) := by
  obtain ⟨p, q⟩ := s
  unfold inS
  simp only
  have hb := (br w).alloc (Nat.le_refl _) (.cells #[.int .i64 p, .int .i64 q] 51)
  have hc2 : (w.alloc (.cells #[.int .i64 p, .int .i64 q] 51)).cell? ⟨b, 0, none⟩ = some (.int .i64 n) := (hb.cell (p := ⟨b, 0, none⟩) hlt).trans hc
  have HB := Lib.hid hb
  clear hb
  by_cases c : p ≤ n
  all_goals
    go_enter Try.func61, Try.ntmps61
    go_wp2
    go_ret
    exact ⟨by simp [c]; try (intros; omega), HB.out⟩
set_option maxRecDepth 100000 in
set_option maxHeartbeats 4000000 in
theorem idx_any (v : Value) (xs : List Sp) (n : Int) (b : Nat) (w : World) (h : RdE elS w v xs) (hcn : w.cell? ⟨b, 0, none⟩ = some (.int .i64 n)) (hlt : b < w.heap.size) :
    Calls Try.prog 70 #[v, .func (.func 61) #[] #[.pointer (some ⟨b, 0, none⟩)]] w (IntQ (findI (inS n) xs) w) := by
  have hle := h.len_le
  obtain ⟨a, cap, rfl, h1, h2, h3⟩ := h
  have H3 := Lib.hid h3; clear h3
  have eg : ∀ args w, (callFunc 61 args).run Try.prog w = .ok (.enter 61 args) w := enters_of Try.func61 (by kernel_rfl) rfl
  obtain ⟨RES, hRES⟩ : ∃ RES : Int, findI (inS n) xs = RES := ⟨_, rfl⟩
  rw [hRES]
  have HRES := Lib.hid hRES; clear hRES
  have HCN := Lib.hid hcn; clear hcn
  go_enter Try.func70, Try.ntmps70
  go_wp2
  go_loopw [8] (fun i wr => ∃ k : Nat, k ≤ xs.length ∧ i = .int .i64 k ∧ (∀ j (hj : j < xs.length), j < k → inS n xs[j] = false) ∧ Below w.heap.size w wr) (fun i _ => xs.length - (intOf i).toNat)
  case atStart => exact ⟨0, Nat.zero_le _, rfl, fun j hj hk => by omega, br _⟩
  case round =>
    obtain ⟨k, hk, rfl, hall, hbw⟩ := hrel
    by_cases hlt2 : k < xs.length
    · obtain ⟨g, off, rfl, hbl, hc⟩ := H3.out (by omega)
      obtain ⟨q0, q1⟩ := eS_at hc k hlt2
      have d0 := (hbw.cell (p := ⟨g, off + k * 2, none⟩) hbl).trans q0
      have d1 := (hbw.cell (p := ⟨g, off + k * 2 + 1, none⟩) hbl).trans q1
      have i1 : (k : Int) < (xs.length : Int) := by omega
      have i0 : (0 : Int) ≤ (k : Int) := by omega
      have HCL := Lib.hid (cl_any xs[k] n b wr ((hbw.cell (p := ⟨b, 0, none⟩) hlt).trans HCN.out) (by have := hbw.size; omega))
      have HBW := Lib.hid hbw; have HALL := Lib.hid hall
      by_cases he : inS n xs[k] = true
      · have hat : findN (inS n) xs = k := findN_eq _ xs k (by omega) hall (fun _ => he)
        have hR := HRES.out
        unfold findI at hR
        rw [hat, if_neg (by omega)] at hR
        have HR := Lib.hid hR
        rw [he] at HCL
        clear hbw hall hc hR hat he H3 HRES q0 q1
        generalize xs[k] = t at *
        obtain ⟨t1, t2⟩ := t
        simp only at d0 d1
        go_wp2_with fail
        refine HCL.out.mono ?_
        rintro en w3 ⟨rfl, hb3⟩
        have HB3 := Lib.hid hb3; clear hb3
        go_wp2
        go_ret
        exact ⟨by rw [← HR.out]; rfl, HBW.out.trans (HB3.out.mono HBW.out.size)⟩
      · have he' : inS n xs[k] = false := by simpa using he
        have hall2 : ∀ j (hj : j < xs.length), j < k + 1 → inS n xs[j] = false := fun j hj hjk => by
          by_cases e : j = k
          · subst e; exact he'
          · exact hall j hj (by omega)
        have HA2 := Lib.hid hall2
        rw [he'] at HCL
        clear hbw hall hc hall2 he he' H3 q0 q1
        generalize xs[k] = t at *
        obtain ⟨t1, t2⟩ := t
        simp only at d0 d1
        go_wp2_with fail
        refine HCL.out.mono ?_
        rintro en w3 ⟨rfl, hb3⟩
        have HB3 := Lib.hid hb3; clear hb3
        go_wp2
        go_roundw
        case rel => exact ⟨k + 1, by omega, by go_num, HA2.out, HBW.out.trans (HB3.out.mono HBW.out.size)⟩
        case measure => simp [intOf]; omega
    · have hat : findN (inS n) xs = xs.length := findN_eq _ xs _ (Nat.le_refl _) (fun j hj _ => hall j hj (by omega)) (fun h => absurd h (by omega))
      have hR := HRES.out
      unfold findI at hR
      rw [if_pos hat] at hR
      have HR := Lib.hid hR
      have HBW := Lib.hid hbw
      clear hbw hall hR hat H3 HRES
      go_wp2
      go_ret
      exact ⟨by rw [← HR.out]; rfl, HBW.out⟩
theorem find_has (n : Int) (l : List Sp) : decide (0 ≤ findI (inS n) l) = has l n := by
  have hn := findI_neg (inS n) l
  rw [Bool.eq_iff_iff, decide_eq_true_eq]
  unfold has
  rw [List.any_eq_true]
  constructor
  · intro h0
    by_cases hh : ∃ x ∈ l, inS n x = true
    · exact hh
    · have := hn.2 (fun x hx => by
        cases hi : inS n x with
        | false => rfl
        | true => exact absurd ⟨x, hx, hi⟩ hh)
      omega
  · rintro ⟨x, hx, hi⟩
    rcases Int.lt_or_le (findI (inS n) l) 0 with h' | h'
    · have h8 := hn.1 h' x hx; have h9 : inS n x = true := hi; rw [h8] at h9; cases h9
    · exact h'
set_option maxHeartbeats 1000000 in
theorem contains_any (v : Value) (xs : List Sp) (n : Int) (b : Nat) (w : World) (h : RdE elS w v xs) (hcn : w.cell? ⟨b, 0, none⟩ = some (.int .i64 n)) (hlt : b < w.heap.size) :
    Calls Try.prog 60 #[v, .func (.func 61) #[] #[.pointer (some ⟨b, 0, none⟩)]] w (BoolQ (has xs n) w) := by
  have C1 := Lib.hid (idx_any v xs n b w h hcn hlt)
  have HD := Lib.hid (find_has n xs)
  clear h hcn
  generalize findI (inS n) xs = r at *
  generalize has xs n = hb at *
  go_enter Try.func60, Try.ntmps60
  go_wp2_with fail
  refine C1.out.mono ?_
  rintro en w1 ⟨rfl, b1⟩
  go_wp2
  go_ret
  exact ⟨by rw [← HD.out]; rfl, b1⟩
def hasB (l : List Sp) (n : Int) : Bool := if chkS l = 0 then has l n else false
set_option maxRecDepth 100000 in
set_option maxHeartbeats 4000000 in
theorem has_fn (v : Value) (l : List Sp) (n : Int) (w : World) (h : RdE elS w v l) : Calls Try.prog 49 #[v, .int .i64 n] w (fun e w' => e = .returned (.tuple #[.bool (hasB l n), .int .i64 (chkS l)]) ∧ Below w.heap.size w w') := by
  have HV := Lib.hid h
  obtain ⟨a, cap, rfl, _, _, _⟩ := h
  have hal := (br w).alloc (Nat.le_refl _) (.cells #[.int .i64 n] 3)
  obtain ⟨wl, hwl⟩ : ∃ wl, w.alloc (.cells #[.int .i64 n] 3) = wl := ⟨_, rfl⟩
  have hbx : Box wl w.heap.size 3 [.int .i64 n] := by rw [← hwl]; exact Box.new w _ _
  rw [hwl] at hal
  have HBX := Lib.hid hbx
  have HAL := Lib.hid hal
  have CK := Lib.hid (check_any _ l wl (HV.out.below hal))
  have CO := Lib.hid (fun w' (h : RdE elS w' (.slice a l.length cap) l) => contains_any _ l n w.heap.size w' h)
  clear hal hbx
  by_cases ck0 : chkS l = 0
  · have hH : hasB l n = has l n := by unfold hasB; rw [if_pos ck0]
    rw [hH, ck0]
    rw [ck0] at CK
    clear hH
    generalize has l n = hb at *
    go_enter Try.func49, Try.ntmps49
    go_wp2_with fail
    refine CK.out.mono ?_
    rintro en w1 ⟨rfl, b1⟩
    have hb1 := bt HAL.out b1
    have HX1 := Lib.hid (HBX.out.next b1)
    have HB1 := Lib.hid hb1
    clear b1 hb1
    have hx := HX1.out.cell 0
    simp only [List.getElem?_cons_zero] at hx
    have HCO := Lib.hid (CO.out w1 (HV.out.below HB1.out) hx HX1.out.lt)
    clear CO
    go_wp2_with fail
    refine HCO.out.mono ?_
    rintro en w2 ⟨rfl, b2⟩
    have HB2 := Lib.hid (bt HB1.out b2)
    clear b2
    go_wp2
    go_ret2
    exact ⟨rfl, HB2.out⟩
  · have hH : hasB l n = false := by unfold hasB; rw [if_neg ck0]
    have hne : (chkS l != 0) = true := by simp [ck0]
    rw [hH]
    generalize chkS l = ce at *
    clear hH ck0
    go_enter Try.func49, Try.ntmps49
    go_wp2_with fail
    refine CK.out.mono ?_
    rintro en w1 ⟨rfl, b1⟩
    have HB1 := Lib.hid (bt HAL.out b1)
    clear b1
    go_wp2
    go_ret2
    exact ⟨rfl, HB1.out⟩
/-- how many days -/
def days : List Sp → Int
  | [] => 0
  | s :: l => (s.2 - s.1) + days l
theorem days_app : ∀ (l l' : List Sp), days (l ++ l') = days l + days l'
  | [], l' => by simp [days]
  | s :: l, l' => by rw [List.cons_append, days, days, days_app l l']; omega
theorem days_bd : ∀ (l : List Sp), (∀ s ∈ l, isN s) → -(2199023255552 * (l.length : Int)) ≤ days l ∧ days l ≤ 2199023255552 * (l.length : Int)
  | [], _ => by simp [days]
  | s :: l, h => by
    have h1 := days_bd l (fun t ht => h t (by simp [ht]))
    have h2 := h s (by simp)
    unfold isN at h2
    rw [days, List.length_cons]
    omega
def sizeN (l : List Sp) : Int := if chkS l = 0 then days l else 0
set_option maxRecDepth 100000 in
set_option maxHeartbeats 4000000 in
theorem size_any (v : Value) (l : List Sp) (w : World) (h : RdE elS w v l) : Calls Try.prog 47 #[v] w (fun e w' => e = .returned (.tuple #[.int .i64 (sizeN l), .int .i64 (chkS l)]) ∧ Below w.heap.size w w') := by
  have HV := Lib.hid h
  obtain ⟨a, cap, rfl, _, _, h3⟩ := h
  have H3 := Lib.hid h3; clear h3
  have CK := Lib.hid (check_any _ l w HV.out)
  by_cases ck0 : chkS l = 0
  · have hH : sizeN l = days l := by unfold sizeN; rw [if_pos ck0]
    obtain ⟨hle, hnn, _⟩ := (chkS_ok l).1 ck0
    rw [hH, ck0]
    rw [ck0] at CK
    have HN := Lib.hid hnn
    obtain ⟨RES, hRES⟩ : ∃ RES, days l = RES := ⟨_, rfl⟩
    rw [hRES]
    have HRES := Lib.hid hRES
    clear hH ck0 hnn hRES
    go_enter Try.func47, Try.ntmps47
    go_wp2_with fail
    refine CK.out.mono ?_
    rintro en w1 ⟨rfl, b1⟩
    have HB1 := Lib.hid b1
    clear b1
    go_wp2
    go_loopw [5, 15] (fun x i wr => ∃ k : Nat, k ≤ l.length ∧ i = .int .i64 k ∧ x = .int .i64 (days (l.take k)) ∧ Below w.heap.size w wr) (fun _ i _ => l.length - (intOf i).toNat)
    case atStart => exact ⟨0, Nat.zero_le _, rfl, rfl, HB1.out⟩
    case round =>
      obtain ⟨k, hk, rfl, rfl, hbw⟩ := hrel
      by_cases hlt : k < l.length
      · obtain ⟨g, off, rfl, hbl, hc⟩ := H3.out (by omega)
        obtain ⟨q0, q1⟩ := eS_at hc k hlt
        have d0 := (hbw.cell (p := ⟨g, off + k * 2, none⟩) hbl).trans q0
        have d1 := (hbw.cell (p := ⟨g, off + k * 2 + 1, none⟩) hbl).trans q1
        have i1 : (k : Int) < (l.length : Int) := by omega
        have i0 : (0 : Int) ≤ (k : Int) := by omega
        have hs : days (l.take (k + 1)) = days (l.take k) + (l[k].2 - l[k].1) := by
          rw [List.take_succ_eq_append_getElem hlt, days_app]; simp [days]
        have hbd := days_bd (l.take k) (fun s hs => HN.out s (List.mem_of_mem_take hs))
        rw [List.length_take, Nat.min_eq_left (by omega)] at hbd
        have hn1 := HN.out l[k] (List.getElem_mem hlt)
        unfold isN at hn1
        have HSS := Lib.hid hs
        have HBW := Lib.hid hbw
        clear hc q0 q1 hs H3 hbw
        generalize days (l.take k) = dk at *
        generalize l[k] = s at *
        obtain ⟨p, q⟩ := s
        simp only at d0 d1 hn1
        obtain ⟨n1, n2, n3, n4⟩ := hn1
        obtain ⟨m1, m2⟩ := hbd
        have hw1 : IntKind.i64.wrap (q - p) = q - p := IntWalk.i64_in _ (by omega)
        have hw2 : IntKind.i64.wrap (dk + (q - p)) = dk + (q - p) := IntWalk.i64_in _ (by omega)
        go_wp2
        go_roundw
        case rel => exact ⟨k + 1, by omega, by go_num, by rw [HSS.out], HBW.out.alloc HBW.out.size _⟩
        case measure => simp [intOf]; omega
      · have ek : k = l.length := by omega
        subst ek
        rw [List.take_length, HRES.out]
        have HBW := Lib.hid hbw
        clear hbw
        go_wp2
        go_ret2
        exact ⟨rfl, HBW.out⟩
  · have hH : sizeN l = 0 := by unfold sizeN; rw [if_neg ck0]
    have hne : (chkS l != 0) = true := by simp [ck0]
    rw [hH]
    generalize chkS l = ce at *
    clear hH ck0
    go_enter Try.func47, Try.ntmps47
    go_wp2_with fail
    refine CK.out.mono ?_
    rintro en w1 ⟨rfl, b1⟩
    have HB1 := Lib.hid b1
    clear b1
    go_wp2
    go_ret2
    exact ⟨rfl, HB1.out⟩
end Sn
end Go.Proofs.Ytcgncmlldjblmaa
