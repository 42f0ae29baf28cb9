/- The document's functions on frames. -/
import Derived.Test.YtlpefkbgdbiinaaFramePlain2
import Derived.Test.YtlpefkbgdbiinaaStrs
import Derived.Deep.LoopGhost
import Derived.IntWalk
set_option linter.unusedVariables false
namespace Go.Proofs.Ytlpefkbgdbiinaa
open Go.RowKit
namespace Fr
theorem str_eq {a b : Bs} (h : a = b) : (a.toList == b.toList) = true := by rw [h]; simp
theorem str_ne {a b : Bs} (h : a ≠ b) : (a.toList == b.toList) = false := by
  rw [← Bool.not_eq_true, beq_iff_eq]
  intro e
  rw [ByteArray.toList_eq, ByteArray.toList_eq] at e
  exact h (ba_ext e)
set_option maxHeartbeats 2000000 in
theorem same_any (v u : Value) (xs ys : List Bs) (w : World) (h : RdE elS w v xs) (h' : RdE elS w u ys) : Calls Try.prog 16 #[v, u] w fun e w' => e = .returned (.bool (decide (xs = ys))) ∧ Below w.heap.size w w' := by
  have hle := h.len_le
  have hle' := h'.len_le
  obtain ⟨a, cap, rfl, h1, h2, h3⟩ := h
  obtain ⟨a', cap', rfl, h1', h2', h3'⟩ := h'
  have H3 := Lib.hid h3; clear h3
  have H3' := Lib.hid h3'; clear h3'
  by_cases hl : xs.length = ys.length
  · obtain ⟨RES, hRES⟩ : ∃ RES, decide (xs = ys) = RES := ⟨_, rfl⟩
    rw [hRES]
    have HRES := Lib.hid hRES; clear hRES
    have hlb : ((xs.length : Int) != (ys.length : Int)) = false := by simp [hl]
    have HL := Lib.hid hl
    clear hl
    go_enter Try.func16, Try.ntmps16
    go_wp2
    go_loopw [5] (fun i wr => ∃ k : Nat, k ≤ xs.length ∧ i = .int .i64 k ∧ (∀ j (hj : j < xs.length), j < k → xs[j]? = ys[j]?) ∧ Below w.heap.size w wr) (fun i _ => xs.length - (intOf i).toNat)
    case atStart => exact ⟨0, Nat.zero_le _, rfl, fun j hj hk => by omega, br _⟩
    case round =>
      obtain ⟨k, hk, rfl, hall, hbw⟩ := hrel
      by_cases hlt : k < xs.length
      · have hl := HL.out
        have hlt2 : k < ys.length := by omega
        obtain ⟨g, off, rfl, hbl, hc⟩ := H3.out (by omega)
        obtain ⟨g', off', rfl, hbl', hc'⟩ := H3'.out (by omega)
        have q0 := eS_at hc k hlt
        have p0 := eS_at hc' k hlt2
        have d0 := (hbw.cell (p := ⟨g, off + k, none⟩) hbl).trans q0
        have e0 := (hbw.cell (p := ⟨g', off' + k, none⟩) hbl').trans p0
        have i1 : (k : Int) < (xs.length : Int) := by omega
        have i2 : (k : Int) < (ys.length : Int) := by omega
        have i0 : (0 : Int) ≤ (k : Int) := by omega
        have HBW := Lib.hid hbw; have HALL := Lib.hid hall
        clear hbw hall hc hc' q0 p0 hl H3 H3'
        by_cases he : xs[k] = ys[k]
        · have hstep : ∀ j (hj : j < xs.length), j < k + 1 → xs[j]? = ys[j]? := fun j hj hjk => by
            by_cases e : j = k
            · subst e; rw [List.getElem?_eq_getElem hlt, List.getElem?_eq_getElem hlt2, he]
            · exact HALL.out j hj (by omega)
          have HS := Lib.hid hstep
          have hn1 := str_eq he
          clear hstep he
          generalize xs[k] = x1 at *; generalize ys[k] = y1 at *
          go_wp2_with fail
          try go_quiet (fail)
          go_wp2
          go_roundw
          case rel => exact ⟨k + 1, by omega, by go_num, HS.out, by first | exact HBW.out | exact bn HBW.out _⟩
          case measure => simp [intOf]; omega
        · have hne : decide (xs = ys) = false := decide_eq_false (fun e => he (by subst e; rfl))
          have hR := HRES.out
          rw [hne] at hR
          have HR := Lib.hid hR
          have hn1 := str_ne he
          clear he hne hR
          generalize xs[k] = x1 at *; generalize ys[k] = y1 at *
          go_wp2_with fail
          try go_quiet (fail)
          go_wp2
          go_ret
          exact ⟨by rw [← HR.out]; rfl, by first | exact HBW.out | exact bn HBW.out _⟩
      · have hxy : decide (xs = ys) = true := decide_eq_true (List.ext_getElem? fun j => by
          rcases Nat.lt_or_ge j xs.length with hj | hj
          · exact hall j hj (by omega)
          · rw [List.getElem?_eq_none hj, List.getElem?_eq_none (by have := HL.out; omega)])
        have hR := HRES.out
        rw [hxy] at hR
        have HR := Lib.hid hR
        clear hxy hR hall H3 H3'
        go_wp2
        go_ret
        exact ⟨by rw [← HR.out]; rfl, hbw⟩
  · have hlb : ((xs.length : Int) != (ys.length : Int)) = true := by simp; omega
    have hR : decide (xs = ys) = false := decide_eq_false (fun e => hl (by subst e; rfl))
    rw [hR]
    clear hl hR
    go_enter Try.func16, Try.ntmps16
    go_wp2
    go_ret
    exact ⟨rfl, br _⟩
theorem one_any (n : Int) (w : World) (h0 : 0 ≤ n) (h1 : n ≤ 255) : Calls Try.prog 39 #[.int .i64 n] w fun e w' => e = .returned (.string (oneB n)) ∧ Below w.heap.size w w' := by
  have w8 : IntKind.u8.wrap n = n := by rw [IntKind.wrap_u8]; omega
  have hcv : (convert 48 9 (.slice (some ⟨w.heap.size, 0, none⟩) 1 1)).run Try.prog (w.alloc (.cells #[.int .u8 n] 5)) = .ok (.string (oneB n)) (w.alloc (.cells #[.int .u8 n] 5)) := by
    refine run_convert_bytes_back _ 48 9 5 ⟨w.heap.size, 0, none⟩ 1 [UInt8.ofNat n.toNat] Try.underlying48 Try.underlying5 Try.underlying9 (fun j hj => ?_)
    have hj1 : j = 0 := by simpa using hj
    subst hj1
    have ha : (⟨w.heap.size, 0, none⟩ : Addr).add 0 = ⟨w.heap.size, 0, none⟩ := by unfold Addr.add; split <;> simp_all
    rw [ha, World.cell?_alloc_mark]
    have : ((UInt8.ofNat n.toNat).toNat : Int) = n := by
      have : (UInt8.ofNat n.toNat).toNat = n.toNat % 256 := by simp
      rw [this]; omega
    simp only [List.getElem_cons_zero]
    rw [this]; rfl
  have HO := Lib.hid (rfl : oneB n = oneB n)
  go_enter Try.func39, Try.ntmps39
  go_wp2_with fail
  go_ret
  exact ⟨rfl, by first | exact (br _).alloc (Nat.le_refl _) _ | exact bn ((br _).alloc (Nat.le_refl _) _) _⟩
set_option maxHeartbeats 2000000 in
theorem big_any (N K : Nat) (hN : N ≤ 4611686018427387904) (hK : K ≤ 8) (w : World) : Calls Try.prog 31 #[.int .i64 N, .int .i64 K] w fun e w' => e = .returned (.string (mk (bigL N K))) ∧ Below w.heap.size w w' := by
  have hz : mk (bigL N 0) = ⟨#[]⟩ := rfl
  have HZ := Lib.hid hz
  have h0 : N = N / 256 ^ 0 := by simp
  have H0 := Lib.hid h0
  clear hz h0
  go_enter Try.func31, Try.ntmps31
  go_wp2
  go_loopw [0, 5, 6] (fun n s i wr => ∃ k : Nat, k ≤ K ∧ i = .int .i64 k ∧ n = .int .i64 ((N / 256 ^ k : Nat) : Int) ∧ s = .string (mk (bigL N k)) ∧ Below w.heap.size w wr) (fun _ _ i _ => K - (intOf i).toNat)
  case atStart => exact ⟨0, by omega, rfl, by rw [← H0.out], by rw [HZ.out], br w⟩
  case round =>
    obtain ⟨k, hk, rfl, rfl, rfl, hbw⟩ := hrel
    by_cases hlt : k < K
    · have P := Lib.hid (mk_big N k)
      have b1 : N / 256 ^ k ≤ 4611686018427387904 := Nat.le_trans (Nat.div_le_self _ _) hN
      have s2 := big_div N k
      obtain ⟨x', hx'⟩ : ∃ x', N / 256 ^ (k + 1) = x' := ⟨_, rfl⟩
      rw [hx'] at s2
      have HX' := Lib.hid hx'
      have ps : (mk (bigL N k)).size ≤ 8 := by rw [mk_size, bigL_len]; omega
      generalize N / 256 ^ k = x at *
      obtain ⟨y, hy⟩ : ∃ y, x % 256 = y := ⟨_, rfl⟩
      rw [hy] at P
      have b2 : y < 256 := by omega
      have hon := Lib.hid (fun w => one_any (y : Int) w (by omega) (by omega))
      have d1 : (x : Int).tdiv 256 = (x' : Int) := by rw [Int.tdiv_eq_ediv_of_nonneg (by omega)]; omega
      have d1' : (x : Int) / 256 = (x' : Int) := by omega
      have m1 : (x : Int).tmod 256 = (y : Int) := by rw [Int.tmod_eq_emod_of_nonneg (by omega)]; omega
      have m1' : (x : Int) % 256 = (y : Int) := by omega
      have hw : IntKind.i64.wrap (y : Int) = (y : Int) := IntWalk.i64_in _ (by omega)
      generalize hPk : mk (bigL N k) = Pk at *
      have os : (oneB (y : Int)).size = 1 := rfl
      generalize oneB (y : Int) = On at *
      clear s2 hx' hy
      have HBW := Lib.hid hbw
      go_wp2_with fail
      refine (hon.out _).mono ?_
      rintro en w1 ⟨rfl, hb1⟩
      have HB1 := Lib.hid (HBW.out.trans (hb1.mono HBW.out.size))
      clear hb1 hbw
      go_wp2
      go_roundw
      case rel => exact ⟨k + 1, by omega, by go_num, by rw [HX'.out], by rw [P.out], HB1.out⟩
      case measure => simp [intOf]; omega
    · obtain rfl : k = K := by omega
      go_wp2
      go_ret
      exact ⟨rfl, by first | exact hbw | exact bn hbw _⟩
set_option maxHeartbeats 2000000 in
theorem num_any (s : Bs) (hs : s.size ≤ 7) (w : World) : Calls Try.prog 32 #[.string s] w fun e w' => e = .returned (.int .i64 (numL s.data.toList : Nat)) ∧ Below w.heap.size w w' := by
  go_enter Try.func32, Try.ntmps32
  go_wp2
  go_loopw [3, 4] (fun n i wr => ∃ k : Nat, k ≤ s.size ∧ i = .int .i64 k ∧ n = .int .i64 ((numL (s.data.toList.take k) : Nat) : Int) ∧ Below w.heap.size w wr) (fun _ i _ => s.size - (intOf i).toNat)
  case atStart => exact ⟨0, by omega, rfl, rfl, br w⟩
  case round =>
    obtain ⟨k, hk, rfl, rfl, hbw⟩ := hrel
    by_cases hlt : k < s.size
    · have e1 : numL (s.data.toList.take (k + 1)) = numL (s.data.toList.take k) * 256 + s[k].toNat := by rw [take_snoc s k hlt, numL_snoc]
      have b1 := numL_lt (s.data.toList.take k)
      have b2 : 256 ^ (s.data.toList.take k).length ≤ 256 ^ 6 := Nat.pow_le_pow_right (by omega) (by rw [List.length_take]; omega)
      have b3 : numL (s.data.toList.take k) < 281474976710656 := by omega
      have E1 := Lib.hid e1
      clear e1 b1 b2
      generalize numL (s.data.toList.take k) = x at *
      have HBW := Lib.hid hbw
      have i1 : (k : Int) < (s.size : Int) := by omega
      clear hbw
      have bb := s[k].toNat_lt
      go_wp2
      go_roundw
      case rel => exact ⟨k + 1, by omega, by go_num, by rw [E1.out]; first | rfl | go_num, by first | exact HBW.out | exact bn HBW.out _⟩
      case measure => simp [intOf]; omega
    · obtain rfl : k = s.size := by omega
      have e : s.data.toList.take s.size = s.data.toList := List.take_of_length_le (Nat.le_refl _)
      rw [e]
      go_wp2
      go_ret
      exact ⟨rfl, by first | exact hbw | exact bn hbw _⟩
end Fr
end Go.Proofs.Ytlpefkbgdbiinaa
