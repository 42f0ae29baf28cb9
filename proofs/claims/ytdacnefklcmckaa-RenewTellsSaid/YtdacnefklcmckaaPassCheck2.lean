/- Passes: pass.Check as a whole. (gen_pass.py) -/
import Derived.Test.YtdacnefklcmckaaPassCheck
set_option linter.unusedSimpArgs false
set_option linter.unusedVariables false
namespace Go.Proofs.Ytdacnefklcmckaa
open Go.RowKit
namespace Pa
open Dt Sn
set_option maxRecDepth 100000 in
set_option maxHeartbeats 4000000 in
theorem check_8 (id born a b ser : Int) (d : Value) (l : List Sp) (w : World) (h : RdE elS w d l) (g0 : 1 ≤ id) (g1 : id ≤ 999999) (g2 : isD born = true) (g3 : zn a = true) (g4 : zn b = true) (g5 : a ≤ b) (g6 : 1 ≤ ser) (g7 : ser ≤ 999) : Calls Try.prog 17 #[aP ⟨id, born, a, b, ser⟩ d] w (IntQ (passE ⟨id, born, a, b, ser⟩ l) w) := by
  have hok : ok5 ⟨id, born, a, b, ser⟩ := ⟨g0, g1, g2, g3, g4, g5, g6, g7⟩
  have hq := Sn.check_any d l
  have hle := h.len_le
  have HV := Lib.hid h
  obtain ⟨x, cap, rfl, h1, h2, h3⟩ := h
  have H3 := Lib.hid h3; clear h3
  have HA := Lib.hid ((br w).alloc (Nat.le_refl _) (.cells #[.int .i64 id, .int .i64 born, .int .i64 a, .int .i64 b, .int .i64 ser, .slice x l.length cap] 24))
  have HX := Lib.hid (Box.new w 24 [.int .i64 id, .int .i64 born, .int .i64 a, .int .i64 b, .int .i64 ser, .slice x l.length cap])
  have cHI := g2
  have HI := Lib.hid (fun w => is_any born w)
  rw [cHI] at HI
  clear g2 cHI
  have cHZA := g3
  have HZA := Lib.hid (fun w => zone_any a w)
  rw [cHZA] at HZA
  clear g3 cHZA
  have cHZB := g4
  have HZB := Lib.hid (fun w => zone_any b w)
  rw [cHZB] at HZB
  clear g4 cHZB
  have CK := Lib.hid (fun w' (hb : Below w.heap.size w w') => hq w' (HV.out.below hb))
  clear hq
  by_cases c : chkS l = 0
  · rw [c] at CK
    by_cases c0 : 0 < l.length
    · have hE := inS3_ends ((chkS_ok l).1 c).2.2 c0
      have hF := passE_last hok c
      obtain ⟨bl, off, rfl, hbl, hc⟩ := H3.out c0
      obtain ⟨d0, _⟩ := eS_at hc 0 c0
      obtain ⟨_, d1⟩ := eS_at hc (l.length - 1) (by omega)
      try simp only [Nat.zero_mul, Nat.add_zero] at d0
      have D0 := Lib.hid d0; have D1 := Lib.hid d1
      have HBL := Lib.hid hbl
      obtain ⟨P, hP⟩ : ∃ P, l[0].1 = P := ⟨_, rfl⟩
      obtain ⟨Q, hQ⟩ : ∃ Q, (l[l.length - 1]'(by omega)).2 = Q := ⟨_, rfl⟩
      rw [hP] at D0 hE
      rw [hQ] at D1 hE
      obtain ⟨n, hn⟩ : ∃ n, l.length - 1 = n := ⟨_, rfl⟩
      rw [hn] at D1
      have hn2 : (l.length : Int) - 1 = (n : Int) := by omega
      have i1 : (n : Int) < (l.length : Int) := by omega
      have i2 : (0 : Int) < (l.length : Int) := by omega
      have i0 : (0 : Int) ≤ (n : Int) := by omega
      clear hc d0 d1 hP hQ hn c hok H3 HV hbl
      by_cases p1 : P < 1
      · rw [if_neg (fun x => by have := hE.1 x; omega)] at hF
        rw [hF]
        clear hE hF
        go_enter Try.func17, Try.ntmps17
        go_wp2_with (first | (go_at_call 26; (with_reducible refine (HI.out _).mono ?_); rintro en w2 ⟨rfl, rfl⟩) | (go_at_call 38; (with_reducible refine (HZA.out _).mono ?_); rintro en w3 ⟨rfl, rfl⟩) | (go_at_call 38; (with_reducible refine (HZB.out _).mono ?_); rintro en w4 ⟨rfl, rfl⟩))
        refine (CK.out _ (by first | exact HA.out | exact bn HA.out _)).mono ?_
        rintro en w5 ⟨rfl, b5⟩
        have HB5 := Lib.hid (bt HA.out b5)
        have hx5 := HX.out.next b5
        have k5 := hx5.cell 5
        simp only [List.getElem?_cons_zero, List.getElem?_cons_succ] at k5
        have d0 := (HB5.out.cell (p := ⟨bl, off, none⟩) HBL.out).trans D0.out
        have d1 := (HB5.out.cell (p := ⟨bl, off + n * 2 + 1, none⟩) HBL.out).trans D1.out
        clear hx5 b5
        go_wp2
        go_ret
        exact ⟨rfl, HB5.out⟩
      · by_cases p2 : 3652059 < Q
        · rw [if_neg (fun x => by have := hE.1 x; omega)] at hF
          rw [hF]
          clear hE hF
          go_enter Try.func17, Try.ntmps17
          go_wp2_with (first | (go_at_call 26; (with_reducible refine (HI.out _).mono ?_); rintro en w2 ⟨rfl, rfl⟩) | (go_at_call 38; (with_reducible refine (HZA.out _).mono ?_); rintro en w3 ⟨rfl, rfl⟩) | (go_at_call 38; (with_reducible refine (HZB.out _).mono ?_); rintro en w4 ⟨rfl, rfl⟩))
          refine (CK.out _ (by first | exact HA.out | exact bn HA.out _)).mono ?_
          rintro en w5 ⟨rfl, b5⟩
          have HB5 := Lib.hid (bt HA.out b5)
          have hx5 := HX.out.next b5
          have k5 := hx5.cell 5
          simp only [List.getElem?_cons_zero, List.getElem?_cons_succ] at k5
          have d0 := (HB5.out.cell (p := ⟨bl, off, none⟩) HBL.out).trans D0.out
          have d1 := (HB5.out.cell (p := ⟨bl, off + n * 2 + 1, none⟩) HBL.out).trans D1.out
          clear hx5 b5
          go_wp2
          go_ret
          exact ⟨rfl, HB5.out⟩
        · rw [if_pos (hE.2 (by omega))] at hF
          rw [hF]
          clear hE hF
          go_enter Try.func17, Try.ntmps17
          go_wp2_with (first | (go_at_call 26; (with_reducible refine (HI.out _).mono ?_); rintro en w2 ⟨rfl, rfl⟩) | (go_at_call 38; (with_reducible refine (HZA.out _).mono ?_); rintro en w3 ⟨rfl, rfl⟩) | (go_at_call 38; (with_reducible refine (HZB.out _).mono ?_); rintro en w4 ⟨rfl, rfl⟩))
          refine (CK.out _ (by first | exact HA.out | exact bn HA.out _)).mono ?_
          rintro en w5 ⟨rfl, b5⟩
          have HB5 := Lib.hid (bt HA.out b5)
          have hx5 := HX.out.next b5
          have k5 := hx5.cell 5
          simp only [List.getElem?_cons_zero, List.getElem?_cons_succ] at k5
          have d0 := (HB5.out.cell (p := ⟨bl, off, none⟩) HBL.out).trans D0.out
          have d1 := (HB5.out.cell (p := ⟨bl, off + n * 2 + 1, none⟩) HBL.out).trans D1.out
          clear hx5 b5
          go_wp2
          go_ret
          exact ⟨rfl, HB5.out⟩
    · have hl : l = [] := List.eq_nil_of_length_eq_zero (by omega)
      subst hl
      rw [passE_nil hok]
      have hq' : ¬ (0 : Int) < (([] : List Sp).length : Int) := by simp
      clear c H3 HV c0 h1 h2
      go_enter Try.func17, Try.ntmps17
      go_wp2_with (first | (go_at_call 26; (with_reducible refine (HI.out _).mono ?_); rintro en w2 ⟨rfl, rfl⟩) | (go_at_call 38; (with_reducible refine (HZA.out _).mono ?_); rintro en w3 ⟨rfl, rfl⟩) | (go_at_call 38; (with_reducible refine (HZB.out _).mono ?_); rintro en w4 ⟨rfl, rfl⟩))
      refine (CK.out _ (by first | exact HA.out | exact bn HA.out _)).mono ?_
      rintro en w5 ⟨rfl, b5⟩
      have HB5 := Lib.hid (bt HA.out b5)
      have hx5 := HX.out.next b5
      have k5 := hx5.cell 5
      simp only [List.getElem?_cons_zero, List.getElem?_cons_succ] at k5
      clear hx5 b5
      go_wp2
      go_ret
      exact ⟨rfl, HB5.out⟩
  · rw [passE_spans hok c]
    have hz : (chkS l == 0) = false := by simp [c]
    generalize chkS l = E at *
    clear H3 HV hok
    go_enter Try.func17, Try.ntmps17
    go_wp2_with (first | (go_at_call 26; (with_reducible refine (HI.out _).mono ?_); rintro en w2 ⟨rfl, rfl⟩) | (go_at_call 38; (with_reducible refine (HZA.out _).mono ?_); rintro en w3 ⟨rfl, rfl⟩) | (go_at_call 38; (with_reducible refine (HZB.out _).mono ?_); rintro en w4 ⟨rfl, rfl⟩))
    refine (CK.out _ (by first | exact HA.out | exact bn HA.out _)).mono ?_
    rintro en w5 ⟨rfl, b5⟩
    have HB5 := Lib.hid (bt HA.out b5)
    go_wp2
    go_ret
    exact ⟨rfl, HB5.out⟩
theorem check_any (p : Ps) (d : Value) (l : List Sp) (w : World) (h : RdE elS w d l) : Calls Try.prog 17 #[aP p d] w (IntQ (passE p l) w) := by
  obtain ⟨id, born, a, b, ser⟩ := p
  have bad : ¬ ok5 ⟨id, born, a, b, ser⟩ → passE ⟨id, born, a, b, ser⟩ l = 3 := passE_bad
  by_cases g0 : 1 ≤ id
  case neg => rw [bad (fun x => by have := x.1; simp only at this; omega)]; exact check_0 id born a b ser d l w h (by omega)
  by_cases g1 : id ≤ 999999
  case neg => rw [bad (fun x => by have := x.2.1; simp only at this; omega)]; exact check_1 id born a b ser d l w h g0 (by omega)
  cases g2 : isD born with
  | false => rw [bad (fun x => by have := x.2.2.1; simp only at this; rw [g2] at this; cases this)]; exact check_2 id born a b ser d l w h g0 g1 g2
  | true =>
  cases g3 : zn a with
  | false => rw [bad (fun x => by have := x.2.2.2.1; simp only at this; rw [g3] at this; cases this)]; exact check_3 id born a b ser d l w h g0 g1 g2 g3
  | true =>
  cases g4 : zn b with
  | false => rw [bad (fun x => by have := x.2.2.2.2.1; simp only at this; rw [g4] at this; cases this)]; exact check_4 id born a b ser d l w h g0 g1 g2 g3 g4
  | true =>
  by_cases g5 : a ≤ b
  case neg => rw [bad (fun x => by have := x.2.2.2.2.2.1; simp only at this; omega)]; exact check_5 id born a b ser d l w h g0 g1 g2 g3 g4 (by omega)
  by_cases g6 : 1 ≤ ser
  case neg => rw [bad (fun x => by have := x.2.2.2.2.2.2.1; simp only at this; omega)]; exact check_6 id born a b ser d l w h g0 g1 g2 g3 g4 g5 (by omega)
  by_cases g7 : ser ≤ 999
  case neg => rw [bad (fun x => by have := x.2.2.2.2.2.2.2; simp only at this; omega)]; exact check_7 id born a b ser d l w h g0 g1 g2 g3 g4 g5 g6 (by omega)
  exact check_8 id born a b ser d l w h g0 g1 g2 g3 g4 g5 g6 g7
end Pa
end Go.Proofs.Ytdacnefklcmckaa
