/- The document's sealing: eight bytes of a number, the least one first. -/
import Derived.Test.YtmeoeihfgmmgmaaRingTells
import Derived.Test.YtmeoeihfgmmgmaaTagRef5
set_option linter.unusedVariables false
namespace Go.Proofs.Ytmeoeihfgmmgmaa
open Go.RowKit
namespace Rg
open Tg
theorem one_any (n : Int) (w : World) (h0 : 0 ≤ n) (h1 : n ≤ 255) : Calls Try.prog 30 #[.int .i64 n] w fun e w' => e = .returned (.string (oneB n)) ∧ Below w.heap.size w w' := by
  have w8 : IntKind.u8.wrap n = n := by rw [IntKind.wrap_u8]; omega
  have hcv : (convert 51 9 (.slice (some ⟨w.heap.size, 0, none⟩) 1 1)).run Try.prog (w.alloc (.cells #[.int .u8 n] 5)) = .ok (.string (oneB n)) (w.alloc (.cells #[.int .u8 n] 5)) := by
    refine run_convert_bytes_back _ 51 9 5 ⟨w.heap.size, 0, none⟩ 1 [UInt8.ofNat n.toNat] Try.underlying51 Try.underlying5 Try.underlying9 (fun j hj => ?_)
    have hj1 : j = 0 := by simpa using hj
    subst hj1
    have ha : (⟨w.heap.size, 0, none⟩ : Addr).add 0 = ⟨w.heap.size, 0, none⟩ := by unfold Addr.add; split <;> simp_all
    rw [ha, World.cell?_alloc_mark]
    have : ((UInt8.ofNat n.toNat).toNat : Int) = n := by
      have : (UInt8.ofNat n.toNat).toNat = n.toNat % 256 := by simp
      rw [this]; omega
    simp only [List.getElem_cons_zero]
    rw [this]; rfl
  have HO := Lib.hid (rfl : oneB n = oneB n)
  go_enter Try.func30, Try.ntmps30
  go_wp2_with fail
  go_ret
  exact ⟨rfl, by first | exact (br _).alloc (Nat.le_refl _) _ | exact bn ((br _).alloc (Nat.le_refl _) _) _⟩
/-- what is left of a number behind k bytes -/
def qk (N : W64) (k : Nat) : Nat := N.toNat / 2 ^ (8 * k)
theorem qk_lt (N : W64) (k : Nat) : qk N k ≤ 18446744073709551615 := by
  have h1 : qk N k ≤ N.toNat := Nat.div_le_self _ _
  have h2 := N.isLt
  omega
theorem qk_mod (N : W64) (k : Nat) : qk N k % 256 = byteOf N k := rfl
theorem qk_div (N : W64) (k : Nat) : qk N k / 256 = qk N (k + 1) := by
  unfold qk
  rw [Nat.div_div_eq_div_mul, Nat.mul_add, Nat.pow_add]
def pre8 (N : W64) (k : Nat) : ByteArray := ⟨((leL N).take k).toArray⟩
theorem pre8_succ (N : W64) (k : Nat) (h : k < 8) : pre8 N (k + 1) = pre8 N k ++ oneB (byteOf N k : Int) := by
  apply ba_ext
  unfold pre8 oneB
  have hl : k < (leL N).length := by rw [leL_len]; exact h
  rw [ByteArray.data_append, Array.toList_append, List.take_succ_eq_append_getElem hl]
  simp only
  congr 1
  have := leL_at N k hl
  have hb := byteOf_lt N k
  have e : (leL N)[k] = UInt8.ofNat (byteOf N k) := by
    match k, h with
    | 0, _ => rfl
    | 1, _ => rfl
    | 2, _ => rfl
    | 3, _ => rfl
    | 4, _ => rfl
    | 5, _ => rfl
    | 6, _ => rfl
    | 7, _ => rfl
  rw [e]; simp
theorem pre8_size (N : W64) (k : Nat) : (pre8 N k).size ≤ 8 := by
  have h1 : (pre8 N k).size = ((leL N).take k).length := by unfold pre8; rfl
  have h2 : ((leL N).take k).length ≤ 8 := by rw [List.length_take, leL_len]; omega
  omega
theorem one_len (n : Int) : (oneB n).size = 1 := rfl
set_option maxHeartbeats 2000000 in
theorem least_any (N : W64) (w : World) : Calls Try.prog 31 #[.int .u64 (wi N)] w fun e w' => e = .returned (.string ⟨(leL N).toArray⟩) ∧ Below w.heap.size w w' := by
  have hN : wi N = (qk N 0 : Int) := by unfold wi qk; simp
  have hz : pre8 N 0 = ⟨#[]⟩ := rfl
  have HZ := Lib.hid hz
  have h8 : pre8 N 8 = ⟨(leL N).toArray⟩ := by unfold pre8; rw [List.take_of_length_le (by rw [leL_len]; omega)]
  have H8 := Lib.hid h8
  rw [hN]
  clear hz h8 hN
  go_enter Try.func31, Try.ntmps31
  go_wp2
  go_loopw [0, 3, 4] (fun n s i wr => ∃ k : Nat, k ≤ 8 ∧ i = .int .i64 k ∧ n = .int .u64 (qk N k : Int) ∧ s = .string (pre8 N k) ∧ Below w.heap.size w wr) (fun _ _ i _ => 8 - (intOf i).toNat)
  case atStart => exact ⟨0, by omega, rfl, rfl, by rw [HZ.out], br w⟩
  case round =>
    obtain ⟨k, hk, rfl, rfl, rfl, hbw⟩ := hrel
    by_cases hlt : k < 8
    · have s1 := qk_mod N k
      have s2 := qk_div N k
      have b1 := qk_lt N k
      have b2 := byteOf_lt N k
      have P := Lib.hid (pre8_succ N k hlt)
      have ps := pre8_size N k
      have hon := Lib.hid (fun w => one_any (byteOf N k) w (by omega) (by omega))
      obtain ⟨x', hx'⟩ : ∃ x', qk N (k + 1) = x' := ⟨_, rfl⟩
      rw [hx'] at s2
      have HX' := Lib.hid hx'
      generalize qk N k = x at *
      generalize byteOf N k = y at *
      have d1 : (x : Int).tdiv 256 = (x' : Int) := by rw [Int.tdiv_eq_ediv_of_nonneg (by omega)]; omega
      have d1' : (x : Int) / 256 = (x' : Int) := by omega
      have m1 : (x : Int).tmod 256 = (y : Int) := by rw [Int.tmod_eq_emod_of_nonneg (by omega)]; omega
      have m1' : (x : Int) % 256 = (y : Int) := by omega
      have hw : IntKind.i64.wrap (y : Int) = (y : Int) := IntWalk.i64_in _ (by omega)
      generalize hPk : pre8 N k = Pk at *
      have os := one_len (y : Int)
      generalize oneB (y : Int) = On at *
      clear s1 s2 hx'
      have HBW := Lib.hid hbw
      go_wp2_with fail
      refine (hon.out _).mono ?_
      rintro en w1 ⟨rfl, hb1⟩
      have HB1 := Lib.hid (HBW.out.trans (hb1.mono HBW.out.size))
      clear hb1 hbw
      go_wp2
      go_roundw
      case rel => exact ⟨k + 1, by omega, by go_num, by rw [HX'.out], by rw [P.out], HB1.out⟩
      case measure => simp [intOf]; omega
    · obtain rfl : k = 8 := by omega
      go_wp2
      go_ret
      exact ⟨by rw [← H8.out]; rfl, by first | exact hbw | exact bn hbw _⟩
theorem tag_x (a b : W64) (s : ByteArray) (w : World) (hs : s.size ≤ 140737488351232) : Calls Try.prog 32 #[.agg #[.int .u64 (wi a), .int .u64 (wi b)], .string s] w fun e w' => e = .returned (.int .u64 (wi (tagF a b s.data.toList))) ∧ Below w.heap.size w w' := tagOf_any a b s w hs
set_option maxHeartbeats 2000000 in
theorem sealedBy_any (no : Int) (a b : W64) (s : ByteArray) (w : World) (h0 : 0 ≤ no) (h1 : no ≤ 255) (hs : s.size ≤ 1000) : Calls Try.prog 26 #[.agg #[.int .i64 no, .int .u64 (wi a), .int .u64 (wi b)], .string s] w fun e w' => e = .returned (.string (sealed (no, a, b) s)) ∧ Below w.heap.size w w' := by
  have C1 := Lib.hid (fun w => one_any no w h0 h1)
  have ho := one_len no
  have HF : RowKit.Hid (sealed (no, a, b) s = (oneB no ++ s) ++ ⟨(leL (tagF a b (oneB no ++ s).data.toList)).toArray⟩) := rfl
  generalize oneB no = On at *
  have hsz : (On ++ s).size ≤ 1001 := by rw [ByteArray.size_append]; omega
  obtain ⟨TS, hTS⟩ : ∃ TS : ByteArray, On ++ s = TS := ⟨_, rfl⟩
  rw [hTS] at HF hsz
  have HTS := Lib.hid hTS
  have C2 := Lib.hid (fun w => tag_x a b TS w (by omega))
  obtain ⟨T, hT⟩ : ∃ T : W64, tagF a b TS.data.toList = T := ⟨_, rfl⟩
  simp only [hT] at C2
  rw [hT] at HF
  have C3 := Lib.hid (least_any T)
  have hLE : (⟨(leL T).toArray⟩ : ByteArray).size = 8 := rfl
  generalize (⟨(leL T).toArray⟩ : ByteArray) = LE at *
  clear hT
  go_enter Try.func26, Try.ntmps26
  go_wp2_with fail
  refine (C1.out _).mono ?_
  rintro en w1 ⟨rfl, b1⟩
  have B1 := Lib.hid (bt ((br w).alloc (Nat.le_refl _) _) b1)
  have k0 : w1.cell? ⟨w.heap.size, 0, none⟩ = some (.int .i64 no) := boxc (bx b1) 0
  have k1 : w1.cell? ⟨w.heap.size, 1, none⟩ = some (.int .u64 (wi a)) := boxc (bx b1) 1
  have k2 : w1.cell? ⟨w.heap.size, 2, none⟩ = some (.int .u64 (wi b)) := boxc (bx b1) 2
  clear b1
  go_wp2_with fail
  refine (C2.out _).mono ?_
  rintro en w2 ⟨rfl, b2⟩
  have B2 := Lib.hid (bt B1.out b2)
  clear b2 k0 k1 k2
  go_wp2_with fail
  refine (C3.out _).mono ?_
  rintro en w3 ⟨rfl, b3⟩
  have B3 := Lib.hid (bt B2.out b3)
  clear b3
  go_wp2
  go_ret
  exact ⟨by rw [HF.out]; rfl, B3.out⟩
theorem body_split (t : ByteArray) (h9 : 9 ≤ t.size) : oneB (firstB t) ++ t.extract 1 (t.size - 8) = bodyOf t ∧ (bodyOf t).extract 1 (t.size - 8) = t.extract 1 (t.size - 8) := by
  have hl1 : t.data.toList.length = t.size := rfl
  have hd : (bodyOf t).data.toList = t.data.toList.take (t.size - 8) := by
    unfold bodyOf; simp [List.extract_eq_take_drop]
  obtain ⟨c, l, hcl⟩ : ∃ c l, t.data.toList = c :: l := by
    cases h : t.data.toList with
    | nil => rw [h] at hl1; simp at hl1; omega
    | cons c l => exact ⟨c, l, rfl⟩
  obtain ⟨m, hm8⟩ : ∃ m, t.size - 8 = m + 1 := ⟨t.size - 9, by omega⟩
  have hf : firstB t = (c.toNat : Int) := by unfold firstB; rw [hcl]; rfl
  have ho : (oneB (firstB t)).data.toList = [c] := by
    unfold oneB; rw [hf]; simp
  have hx : (t.extract 1 (t.size - 8)).data.toList = l.take m := by
    rw [hm8]; simp only [ByteArray.data_extract, Array.toList_extract, List.extract_eq_take_drop, hcl]
    simp
  constructor
  · apply ba_ext
    rw [ByteArray.data_append, Array.toList_append, ho, hx, hd, hcl, hm8]
    rfl
  · apply ba_ext
    rw [hx, hm8]
    simp only [ByteArray.data_extract, Array.toList_extract, List.extract_eq_take_drop, hd, hcl, hm8]
    simp [List.take_take]
set_option maxHeartbeats 2000000 in
theorem sealOf_any (v : Value) (xs : List Ep) (s : ByteArray) (hss : s.size ≤ 9223372036854775807) (w : World) (h : Rd 3 eE w v xs) : Calls Try.prog 18 #[v, .string s] w (SealQ (sealF xs s) w) := by
  have H := Lib.hid h
  have HCK := Lib.hid (checkR_any v xs)
  obtain ⟨ad, cap, rfl, h1, h2, h3⟩ := h
  have H3 := Lib.hid h3; clear h3
  rcases seal_cases xs s with ⟨hc, hF⟩ | ⟨hc, hn, hF⟩ | ⟨n, hn, hc, hs, hF⟩ | ⟨n, hn, hc, hs, hF⟩
  · have HF := Lib.hid hF; have hb : (chk xs != 0) = true := by simp [hc]
    generalize chk xs = C at *
    clear hF
    go_enter Try.func18, Try.ntmps18
    go_wp2_with fail
    refine (HCK.out _ H.out).mono ?_
    rintro en w1 ⟨rfl, hb1⟩
    go_wp2
    go_ret2
    exact ⟨by rw [HF.out]; rfl, hb1⟩
  · have HF := Lib.hid hF
    have hb : ((xs.length : Int) == 0) = true := by simp [hn]
    rw [hc] at HCK
    clear hF hc hn
    go_enter Try.func18, Try.ntmps18
    go_wp2_with fail
    refine (HCK.out _ H.out).mono ?_
    rintro en w1 ⟨rfl, hb1⟩
    go_wp2
    go_ret2
    exact ⟨by rw [HF.out]; rfl, hb1⟩
  · have HF := Lib.hid hF
    have hb : ((xs.length : Int) == 0) = false := by rw [beq_eq_false_iff_ne]; omega
    have hs' : (111 : Int) < (s.size : Int) := by omega
    rw [hc] at HCK
    clear hF hc hn
    go_enter Try.func18, Try.ntmps18
    go_wp2_with fail
    refine (HCK.out _ H.out).mono ?_
    rintro en w1 ⟨rfl, hb1⟩
    go_wp2
    go_ret2
    exact ⟨by rw [HF.out]; rfl, hb1⟩
  · have hb : ((xs.length : Int) == 0) = false := by rw [beq_eq_false_iff_ne]; omega
    have hs' : ¬ (111 : Int) < (s.size : Int) := by omega
    obtain ⟨hl8, hr, _⟩ := chk_spec hc
    have hno := hr _ (List.getElem_mem (l := xs) (n := n) (by omega))
    have hi : (xs.length : Int) - 1 = (n : Int) := by omega
    have hn0 : (0 : Int) ≤ (n : Int) := by omega
    have hn1 : (n : Int) < (xs.length : Int) := by omega
    have hwn : IntKind.i64.wrap (n : Int) = (n : Int) := by rw [IntKind.wrap_i64]; omega
    have hw1 : IntKind.i64.wrap ((xs.length : Int) - 1) = (n : Int) := by rw [hi]; exact hwn
    rw [hc] at HCK
    obtain ⟨g, off, rfl, hbl, hcc⟩ := H3.out (by omega)
    have q := eE_at hcc n (by omega)
    obtain ⟨nn, ka, kb, hx⟩ : ∃ a b c, xs[n]'(by omega) = (a, b, c) := ⟨_, _, _, rfl⟩
    rw [hx] at q hno hF
    simp only at hno q
    have HF := Lib.hid hF
    have C2 := Lib.hid (fun w => sealedBy_any nn ka kb s w (by omega) (by omega) (by omega))
    generalize sealed (nn, ka, kb) s = T at *
    clear hF hc hcc hx
    obtain ⟨q0, q1, q2⟩ := q
    have HN := Lib.hid hn; clear hn
    go_enter Try.func18, Try.ntmps18
    go_wp2_with fail
    refine (HCK.out _ H.out).mono ?_
    rintro en w1 ⟨rfl, hb1⟩
    have c0 := (hb1.cell (p := ⟨g, off + n * 3, none⟩) hbl).trans q0
    have c1 := (hb1.cell (p := ⟨g, off + n * 3 + 1, none⟩) hbl).trans q1
    have c2 := (hb1.cell (p := ⟨g, off + n * 3 + 2, none⟩) hbl).trans q2
    have HB1 := Lib.hid hb1
    clear hb1 q0 q1 q2
    go_wp2_with fail
    refine (C2.out _).mono ?_
    rintro en w2 ⟨rfl, hb2⟩
    go_wp2
    go_ret2
    exact ⟨by rw [HF.out]; rfl, bt HB1.out hb2⟩
set_option maxHeartbeats 2000000 in
theorem openOf_any (v : Value) (xs : List Ep) (t : ByteArray) (hss : t.size ≤ 9223372036854775807) (w : World) (h : Rd 3 eE w v xs) : Calls Try.prog 19 #[v, .string t] w (OpenQ (openF xs t) w) := by
  have H := Lib.hid h
  have HCK := Lib.hid (checkR_any v xs)
  rcases open_cases xs t with ⟨hc, hF⟩ | ⟨hc, h9, hF⟩ | ⟨hc, h9, hF⟩ | ⟨hc, h9, h120, ha, hF⟩ | ⟨hlt, hc, h9, h120, hm, hF⟩ | ⟨hlt, hc, h9, h120, hm, hF⟩
  · have HF := Lib.hid hF; have hb : (chk xs != 0) = true := by simp [hc]
    generalize chk xs = C at *
    clear hF
    go_enter Try.func19, Try.ntmps19
    go_wp2_with fail
    refine (HCK.out _ H.out).mono ?_
    rintro en w1 ⟨rfl, hb1⟩
    go_wp2
    go_ret3
    exact ⟨by rw [HF.out]; rfl, hb1⟩
  · have HF := Lib.hid hF
    have hs' : (t.size : Int) < 9 := by omega
    rw [hc] at HCK
    clear hF hc
    go_enter Try.func19, Try.ntmps19
    go_wp2_with fail
    refine (HCK.out _ H.out).mono ?_
    rintro en w1 ⟨rfl, hb1⟩
    go_wp2
    go_ret3
    exact ⟨by rw [HF.out]; rfl, hb1⟩
  · have HF := Lib.hid hF
    have hs' : ¬ (t.size : Int) < 9 := by omega
    have hs2 : (120 : Int) < (t.size : Int) := by omega
    rw [hc] at HCK
    clear hF hc
    go_enter Try.func19, Try.ntmps19
    go_wp2_with fail
    refine (HCK.out _ H.out).mono ?_
    rintro en w1 ⟨rfl, hb1⟩
    go_wp2
    go_ret3
    exact ⟨by rw [HF.out]; rfl, hb1⟩
  · have HF := Lib.hid hF
    have hs' : ¬ (t.size : Int) < 9 := by omega
    have hs2 : ¬ (120 : Int) < (t.size : Int) := by omega
    have hk : keyF (firstB t) xs = ((0, 0), false) := by unfold keyF; rw [ha, List.getElem?_eq_none (Nat.le_refl _)]
    have hK := key_any v xs (firstB t)
    rw [hk] at hK
    unfold KeyQ aKey at hK
    rw [hc] at HCK
    have HK := Lib.hid hK
    have hz : 0 < t.size := by omega
    have e0 : IntKind.i64.wrap ((t[0]'hz).toNat : Int) = firstB t := first_at t hz
    generalize firstB t = no at *
    clear hF hc ha hK hk
    go_enter Try.func19, Try.ntmps19
    go_wp2_with fail
    refine (HCK.out _ H.out).mono ?_
    rintro en w1 ⟨rfl, hb1⟩
    go_wp2_with fail
    refine (HK.out _ (H.out.below hb1)).mono ?_
    rintro en w2 ⟨rfl, hb2⟩
    go_wp2
    go_ret3
    exact ⟨by rw [HF.out]; rfl, by first | exact bt hb1 hb2 | exact (bt hb1 hb2).alloc (bt hb1 hb2).size _⟩
  all_goals
    have hs' : ¬ (t.size : Int) < 9 := by omega
    have hs2 : ¬ (120 : Int) < (t.size : Int) := by omega
    obtain ⟨_, hr, _⟩ := chk_spec hc
    have hat := (atN_spec (firstB t) xs).2 hlt
    have hrx := hr _ (List.getElem_mem hlt)
    rw [hat] at hrx
    obtain ⟨sp1, sp2⟩ := body_split t h9
    have hk : keyF (firstB t) xs = (xs[atN (firstB t) xs].2, true) := by unfold keyF; rw [List.getElem?_eq_getElem hlt]
    generalize xs[atN (firstB t) xs] = x at *
    obtain ⟨xn, ka, kb⟩ := x
    simp only at hat hm hk
    subst hat
    have hK := key_any v xs (firstB t)
    rw [hk] at hK
    unfold KeyQ aKey at hK
    rw [hc] at HCK
    have HK := Lib.hid hK
    have hz : 0 < t.size := by omega
    have e0 : IntKind.i64.wrap ((t[0]'hz).toNat : Int) = firstB t := first_at t hz
    have hes : (t.extract 1 (t.size - 8)).size ≤ 1000 := by simp; omega
    have hsl : sealed (firstB t, ka, kb) (t.extract 1 (t.size - 8)) = markB ka kb (bodyOf t) := by unfold sealed; simp only; rw [sp1]
    have hC2 := fun w => sealedBy_any (firstB t) ka kb (t.extract 1 (t.size - 8)) w (by omega) (by omega) hes
    simp only [hsl] at hC2
    have HC2 := Lib.hid hC2
    try rw [sp2] at hF
    have HF := Lib.hid hF
    generalize firstB t = no at *
    have hw8 : IntKind.i64.wrap ((t.size : Int) - 8) = ((t.size - 8 : Nat) : Int) := by rw [IntKind.wrap_i64]; omega
    have q1 : (1 : Int) ≤ ((t.size - 8 : Nat) : Int) := by omega
    have q2 : ((t.size - 8 : Nat) : Int) ≤ (t.size : Int) := by omega
    clear hF hc hK hk hC2 hsl sp1 sp2 hes hr
  · rw [hm] at HC2
    clear hm
    simp only at HK
    go_enter Try.func19, Try.ntmps19
    go_wp2_with fail
    refine (HCK.out _ H.out).mono ?_
    rintro en w1 ⟨rfl, hb1⟩
    go_wp2_with fail
    refine (HK.out _ (H.out.below hb1)).mono ?_
    rintro en w2 ⟨rfl, hb2⟩
    have HB2 := Lib.hid (bt hb1 hb2)
    clear hb1 hb2
    go_wp2_with fail
    refine (HC2.out _).mono ?_
    rintro en w3 ⟨rfl, hb3⟩
    have HB3 := Lib.hid (bt (HB2.out.alloc HB2.out.size _) hb3)
    clear hb3
    go_wp2_with fail
    go_ret3
    exact ⟨by rw [HF.out]; rfl, HB3.out⟩
  · obtain ⟨M, hM⟩ : ∃ M, markB ka kb (bodyOf t) = M := ⟨_, rfl⟩
    rw [hM] at HC2 hm
    have hq : (M.toList == t.toList) = false := str_ne hm
    clear hm hM
    simp only at HK
    go_enter Try.func19, Try.ntmps19
    go_wp2_with fail
    refine (HCK.out _ H.out).mono ?_
    rintro en w1 ⟨rfl, hb1⟩
    go_wp2_with fail
    refine (HK.out _ (H.out.below hb1)).mono ?_
    rintro en w2 ⟨rfl, hb2⟩
    have HB2 := Lib.hid (bt hb1 hb2)
    clear hb1 hb2
    go_wp2_with fail
    refine (HC2.out _).mono ?_
    rintro en w3 ⟨rfl, hb3⟩
    have HB3 := Lib.hid (bt (HB2.out.alloc HB2.out.size _) hb3)
    clear hb3
    go_wp2_with fail
    go_ret3
    exact ⟨by rw [HF.out]; rfl, HB3.out⟩
end Rg
end Go.Proofs.Ytmeoeihfgmmgmaa
