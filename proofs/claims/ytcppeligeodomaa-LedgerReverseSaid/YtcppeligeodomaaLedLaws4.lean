/- Ledgers: a posting and its reverse. -/
import Derived.Test.YtcppeligeodomaaLedLaws3
import Derived.Test.YtcppeligeodomaaLedPlain3
set_option linter.unusedVariables false
namespace Go.Proofs.Ytcppeligeodomaa
open Go.RowKit
theorem rd_mid {α : Type} {k : Nat} {enc : α → List Value} {w : World} {b off n cap : Nat} {xs : List α} (h : Rd k enc w (.slice (some ⟨b, off, none⟩) n cap) xs) (i : Nat) (hi : i < xs.length) (hk : 0 < k) : Rd k enc w (.slice (some ⟨b, off + i * k, none⟩) 1 (cap - i)) [xs[i]] := by
  obtain ⟨a', cap', e, h1, h2, h3⟩ := h
  injection e with e1 e2 e3
  subst e1 e2 e3
  refine ⟨_, _, rfl, by simp; omega, by omega, fun _ => ?_⟩
  obtain ⟨b', off', e, hb, hc⟩ := h3 (by omega)
  injection e with e
  injection e with e1 e2
  subst e1 e2
  refine ⟨b, off + i * k, rfl, hb, fun j hj q u hu => ?_⟩
  have : j = 0 := by simpa using hj
  subst this
  have := hc i hi q u (by simpa using hu)
  rw [Nat.zero_mul, Nat.zero_add, Nat.add_assoc]
  exact this
namespace Ld
open Pn
set_option maxHeartbeats 4000000 in
theorem reverse_walk (v : Value) (ps : List Po) (id nw o ac : Int) (w : World) (h : RdL w v ps) : Calls Try.prog 13 #[v, .int .i64 id, .int .i64 nw, .int .i64 o, .int .i64 ac] w (BoolQ true w) := by
  have CB := Lib.hid (fun w => begun_any w)
  have HL := Lib.hid h
  by_cases c1 : (rev (pgs ps) id nw).2 ≠ 0
  · have hz := rev_err _ _ _ c1
    have C1 := Lib.hid (rev_is v ps id nw w h ([], (rev (pgs ps) id nw).2) (by rw [← hz]))
    have hn : ((rev (pgs ps) id nw).2 != 0) = true := by simpa using c1
    clear c1 hz h
    generalize (rev (pgs ps) id nw).2 = ec at *
    go_enter Try.func13, Try.ntmps13
    go_wp2_with fail
    refine C1.out.mono ?_
    rintro en w1 ⟨v1, q1, rfl, L1, P1, b1⟩
    obtain ⟨a1, c1, rfl⟩ := L1.shape 0 (by rw [P1]; rfl)
    clear L1 P1
    go_wp2_with fail
    refine (CB.out _).mono ?_
    rintro en w2 ⟨rfl, b2⟩
    go_wp2
    go_ret
    exact ⟨rfl, bt b1 b2⟩
  have c1' : (rev (pgs ps) id nw).2 = 0 := Classical.byContradiction c1
  obtain ⟨hcl, q, hq, -⟩ := rev_ok _ _ _ c1'
  obtain ⟨hca, hbl⟩ := rev_bal ac _ _ _ c1' q hq
  have htw := rev_twice ac _ _ _ o c1'
  obtain ⟨A, hA⟩ : ∃ A, (rev (pgs ps) id nw).1 = A := ⟨_, rfl⟩
  have hre : rev (pgs ps) id nw = (A, 0) := by rw [← hA, ← c1']
  rw [hA] at hca hbl htw
  have C1 := Lib.hid (rev_is v ps id nw w h (A, 0) hre)
  have HALEN : RowKit.Hid ((A.length = ps.length ∧ bal ac A = bal ac (pgs ps)) ∨ (A.length = ps.length + 1 ∧ bal ac A = bal ac (pgs ps) - one ac q.2)) := Lib.hid (by
    rcases hbl with ⟨e1, e2⟩ | ⟨e1, e2, -⟩
    · left; rw [List.length_map] at e1; exact ⟨e1, by rw [e2]⟩
    · right; rw [List.length_map] at e1; exact ⟨e1, e2⟩)
  have CBO := Lib.hid (fun w' (h1 : RdL w' v ps) => balance_is v ps ac w' h1 (if ac < 1 ∨ 5 < ac then (0, 7) else (bal ac (pgs ps), 0)) (balance_ok _ _ hcl))
  have CBL := Lib.hid (fun v1 q1 w' (h1 : RdL w' v1 q1) (h2 : pgs q1 = A) => balance_is v1 q1 ac w' h1 (if ac < 1 ∨ 5 < ac then (0, 7) else (bal ac A, 0)) (by rw [h2]; exact balance_ok _ _ hca))
  have hb1 := bal_bound ac _ hcl
  have hb2 := bal_bound ac _ hca
  by_cases hac : ac < 1 ∨ 5 < ac
  · rw [if_pos hac] at CBL CBO
    clear hac c1 c1' hcl hq hca hbl htw hA hre hb1 hb2 h
    go_enter Try.func13, Try.ntmps13
    go_wp2_with fail
    refine C1.out.mono ?_
    rintro en w1 ⟨v1, q1, rfl, L1, P1, b1⟩
    have L1 := Lib.hid L1; have P1 := Lib.hid P1; have E1 := Lib.hid b1
    clear b1
    go_wp2_with fail
    refine (CB.out _).mono ?_
    rintro en w2 ⟨rfl, b2⟩
    have L1 := Lib.hid (L1.out.next b2); have E2 := Lib.hid (bt E1.out b2)
    clear b2
    go_wp2_with fail
    refine (CBO.out _ (HL.out.next E2.out)).mono ?_
    rintro en w3 ⟨rfl, b3⟩
    have L1 := Lib.hid (L1.out.next b3); have E3 := Lib.hid (bt E2.out b3)
    clear b3
    go_wp2_with fail
    refine (CBL.out _ q1 _ L1.out P1.out).mono ?_
    rintro en w4 ⟨rfl, b4⟩
    have E4 := Lib.hid (bt E3.out b4)
    clear b4
    go_wp2
    go_ret
    exact ⟨rfl, E4.out⟩
  have a1 : 1 ≤ ac := by omega
  have a2 : ac ≤ 5 := by omega
  rw [if_neg hac] at CBL CBO
  have hfi := find_at id ps
  rw [hq] at hfi
  rcases hfi with ⟨-, e⟩ | ⟨n, hn, -, e, e3⟩
  · cases e
  injection e with e
  have hq2 : q.2 = ps[n].ls := by rw [e]
  rw [hq2] at HALEN
  have HU : RowKit.Hid (∀ (k : Nat) (hk : k < ps.length), ps[k].id = id → k = n) := Lib.hid (fun k hk he => uniq (pgs ps) hcl k n (by simpa using hk) (by simpa using hn) (by rw [List.getElem_map, List.getElem_map]; show ps[k].id = ps[n].id; rw [he, e3]))
  have hokn := ((chk_ok _).1 hcl).2.1 ps[n].pg (List.mem_map.2 ⟨ps[n], List.getElem_mem hn, rfl⟩)
  have hob := one_le ac ps[n].ls (fun l hl => (hokn.ln l hl).2.2.1)
  have hob6 := hokn.six
  simp only at hob6
  have CR : RowKit.Hid (∀ v1 w', RdL w' v1 [ps[n]] → Calls Try.prog 32 #[v1, .int .i64 ac] w' (IntQ (one ac ps[n].ls) w')) := Lib.hid (fun v1 w' h1 => balR_is v1 _ ac w' h1 ⟨by simp, fun p hp => by
    have : p = ps[n] := by simpa using hp
    subst this
    exact ⟨hokn.six, fun l hl => (hokn.ln l hl).2.2.1⟩⟩ _ (by simp [bal]))
  have hob2 : -6597069766656 ≤ one ac ps[n].ls ∧ one ac ps[n].ls ≤ 6597069766656 := by omega
  obtain ⟨S, es, hS⟩ : ∃ S es, rev A nw o = (S, es) := ⟨_, _, rfl⟩
  rw [hS] at htw
  simp only [List.length_map, pgs] at htw
  have C5 := Lib.hid (fun v1 q1 w' (h1 : RdL w' v1 q1) (h2 : pgs q1 = A) => rev_is v1 q1 nw o w' h1 (S, es) (by rw [h2]; exact hS))
  have C6 : RowKit.Hid (∀ v1 q1 w', RdL w' v1 q1 → pgs q1 = S → es = 0 → S.length = ps.length + 2 → Calls Try.prog 27 #[v1, .int .i64 ac] w' fun e w'' => e = .returned (.tuple #[.int .i64 (bal ac (pgs ps)), .int .i64 0]) ∧ Below w'.heap.size w' w'') := Lib.hid (fun v1 q1 w' h1 h2 h3 h4 => by
    obtain ⟨t1, t2⟩ := htw h3 h4
    exact balance_is v1 q1 ac w' h1 (bal ac (pgs ps), 0) (by rw [h2, balance_ok _ _ t1, if_neg hac, t2]))
  have hle := h.rd.len_le
  have hlen : ps.length ≤ 100 := by have := ((chk_ok _).1 hcl).1; simpa using this
  obtain ⟨a, cap, rfl, g1, g2, g3⟩ := h.rd
  have G3 := Lib.hid g3
  clear hac c1 c1' hcl hq hca hbl htw hA hre h e hq2 hokn hob hob6 hS g3
  obtain ⟨BL, hBL⟩ : ∃ x, bal ac (pgs ps) = x := ⟨_, rfl⟩
  obtain ⟨BA, hBA⟩ : ∃ x, bal ac A = x := ⟨_, rfl⟩
  obtain ⟨O, hO⟩ : ∃ x, one ac ps[n].ls = x := ⟨_, rfl⟩
  rw [hBL] at CBO HALEN hb1 C6
  rw [hBA] at CBL HALEN hb2
  rw [hO] at HALEN CR hob2
  clear hBL hBA hO
  go_enter Try.func13, Try.ntmps13
  go_wp2_with fail
  refine C1.out.mono ?_
  rintro en w1 ⟨v1, q1, rfl, L1, P1, b1⟩
  obtain ⟨a1', c1', rfl⟩ := L1.shape A.length (by rw [P1])
  have L1 := Lib.hid L1; have P1 := Lib.hid P1; have E1 := Lib.hid b1
  clear b1
  go_wp2_with fail
  refine (CB.out _).mono ?_
  rintro en w2 ⟨rfl, b2⟩
  have L1 := Lib.hid (L1.out.next b2); have E2 := Lib.hid (bt E1.out b2)
  clear b2
  go_wp2_with fail
  refine (CBO.out _ (HL.out.next E2.out)).mono ?_
  rintro en w3 ⟨rfl, b3⟩
  have L1 := Lib.hid (L1.out.next b3); have E3 := Lib.hid (bt E2.out b3)
  clear b3
  go_wp2_with fail
  refine (CBL.out _ q1 _ L1.out P1.out).mono ?_
  rintro en w4 ⟨rfl, b4⟩
  have L1 := Lib.hid (L1.out.next b4); have E4 := Lib.hid (bt E3.out b4)
  clear b4
  go_wp2
  go_loopw [17, 18] (fun s i wr => ∃ k : Nat, k ≤ ps.length ∧ i = .int .i64 k ∧ s = .int .i64 (if n < k then O else 0) ∧ Below w4.heap.size w4 wr) (fun _ i _ => ps.length - (intOf i).toNat)
  case atStart => exact ⟨0, Nat.zero_le _, rfl, by rw [if_neg (by omega)], br _⟩
  case round =>
    obtain ⟨k, hk, rfl, rfl, hbw⟩ := hrel
    have HBW := Lib.hid hbw
    by_cases hlt : k < ps.length
    · have hb5 := bt E4.out hbw
      obtain ⟨g, off, rfl, hbl, hcc⟩ := G3.out (by omega)
      obtain ⟨q0, q1'⟩ := eP_at hcc k hlt
      have d0 := (hb5.cell (p := ⟨g, off + k * 2, none⟩) hbl).trans q0
      have i1 : (k : Int) < (ps.length : Int) := by omega
      have i0 : (0 : Int) ≤ (k : Int) := by omega
      have i2 : (k : Int) + 1 ≤ (cap : Int) := by omega
      have i3 : (k : Int) ≤ (k : Int) + 1 := by omega
      have hw : IntKind.i64.wrap ((k : Int) + 1) = (k : Int) + 1 := IntWalk.i64_in _ (by omega)
      have HB5 := Lib.hid hb5
      by_cases he : ps[k].id = id
      · have hkn := HU.out k hlt he
        subst hkn
        have hbt : (ps[k].id == id) = true := by simp [he]
        have hml := rd_mid (HL.out.rd.below hb5) k hlt (by decide)
        have HM : RowKit.Hid (RdL wr (.slice (some ⟨g, off + k * 2, none⟩) 1 (cap - k)) [ps[k]]) := Lib.hid ⟨hml, fun p hp => by
          have : p = ps[k] := by simpa using hp
          subst this
          exact (HL.out.ln _ (List.getElem_mem hlt)).below hb5⟩
        have hO1 : (if k < k then O else 0) = 0 := if_neg (by omega)
        have HO2 : RowKit.Hid ((if k < k + 1 then O else 0) = O) := Lib.hid (if_pos (by omega))
        rw [hO1]
        clear hcc q0 q1' G3 hml hb5 hbw hO1 he
        generalize ps[k].id = t at *
        go_wp2_with fail
        refine (CR.out _ _ HM.out).mono ?_
        rintro en w6 ⟨rfl, b6⟩
        have E6 := Lib.hid (bt HBW.out b6)
        clear b6
        go_wp2
        go_roundw
        case rel => exact ⟨k + 1, by omega, by go_num, by rw [HO2.out], E6.out⟩
        case measure => simp [intOf]; omega
      · have hbt : (ps[k].id == id) = false := by simp [he]
        have hne : k ≠ n := fun e => he (by subst e; exact e3)
        have HO2 : RowKit.Hid ((if n < k + 1 then O else 0) = (if n < k then O else 0)) := Lib.hid (by
          by_cases h' : n < k
          · rw [if_pos h', if_pos (by omega)]
          · rw [if_neg h', if_neg (by omega)])
        clear hcc q0 q1' G3 hb5 hbw he
        generalize ps[k].id = t at *
        generalize (if n < k then O else 0) = O2 at *
        go_wp2
        go_roundw
        case rel => exact ⟨k + 1, by omega, by go_num, by rw [HO2.out], HBW.out⟩
        case measure => simp [intOf]; omega
    · have e : k = ps.length := by omega
      subst e
      rw [if_pos hn]
      have E5 := Lib.hid (bt E4.out hbw)
      have L1 := Lib.hid (L1.out.next hbw)
      have HC5 := Lib.hid (C5.out _ q1 _ L1.out P1.out)
      have hw0 : IntKind.i64.wrap ((ps.length : Int) + 1) = (ps.length : Int) + 1 := IntWalk.i64_in _ (by omega)
      have hw2 : IntKind.i64.wrap ((ps.length : Int) + 2) = (ps.length : Int) + 2 := IntWalk.i64_in _ (by omega)
      have hw3 : IntKind.i64.wrap (BL - O) = BL - O := IntWalk.i64_in _ (by omega)
      rcases HALEN.out with ⟨hl, hb⟩ | ⟨hl, hb⟩
      · have hx1 : ((ps.length : Int) == (ps.length : Int) + 1) = false := by simp; omega
        subst hb
        rw [hl] at HC5
        clear hbw G3 hb1 hb2 hob2 HALEN C5
        go_wp2_with fail
        refine HC5.out.mono ?_
        rintro en w6 ⟨v2, q2, rfl, L2, P2, b6⟩
        have E6 := Lib.hid (bt E5.out b6)
        clear b6
        by_cases hes : es = 0
        · by_cases hsl : S.length = ps.length + 2
          · have HC6 := Lib.hid (C6.out _ q2 _ L2 P2 hes hsl)
            obtain ⟨a7, c7, rfl⟩ := L2.shape (ps.length + 2) (by rw [P2, hsl])
            clear L2 P2 hsl
            subst hes
            go_wp2_with fail
            refine HC6.out.mono ?_
            rintro en w7 ⟨rfl, b7⟩
            go_wp2
            go_ret
            exact ⟨by first | rfl | (simp; done), bt E6.out b7⟩
          · obtain ⟨a7, c7, rfl⟩ := L2.shape S.length (by rw [P2])
            have hsb : ((S.length : Int) != (ps.length : Int) + 2) = true := by simp; omega
            clear L2 P2 C6
            subst hes
            go_wp2
            go_ret
            exact ⟨by first | rfl | (simp; done), E6.out⟩
        · obtain ⟨a7, c7, rfl⟩ := L2.shape S.length (by rw [P2])
          have hsb : (es != 0) = true := by simpa using hes
          clear L2 P2 C6 hes
          go_wp2
          go_ret
          exact ⟨by first | rfl | (simp; done), E6.out⟩
      · have hx1 : (((ps.length + 1 : Nat) : Int) == (ps.length : Int)) = false := by simp; omega
        subst hb
        rw [hl] at HC5
        clear hbw G3 hb1 hb2 hob2 HALEN C5
        go_wp2_with fail
        refine HC5.out.mono ?_
        rintro en w6 ⟨v2, q2, rfl, L2, P2, b6⟩
        have E6 := Lib.hid (bt E5.out b6)
        clear b6
        by_cases hes : es = 0
        · by_cases hsl : S.length = ps.length + 2
          · have HC6 := Lib.hid (C6.out _ q2 _ L2 P2 hes hsl)
            obtain ⟨a7, c7, rfl⟩ := L2.shape (ps.length + 2) (by rw [P2, hsl])
            clear L2 P2 hsl
            subst hes
            go_wp2_with fail
            refine HC6.out.mono ?_
            rintro en w7 ⟨rfl, b7⟩
            go_wp2
            go_ret
            exact ⟨by first | rfl | (simp; done), bt E6.out b7⟩
          · obtain ⟨a7, c7, rfl⟩ := L2.shape S.length (by rw [P2])
            have hsb : ((S.length : Int) != (ps.length : Int) + 2) = true := by simp; omega
            clear L2 P2 C6
            subst hes
            go_wp2
            go_ret
            exact ⟨by first | rfl | (simp; done), E6.out⟩
        · obtain ⟨a7, c7, rfl⟩ := L2.shape S.length (by rw [P2])
          have hsb : (es != 0) = true := by simpa using hes
          clear L2 P2 C6 hes
          go_wp2
          go_ret
          exact ⟨by first | rfl | (simp; done), E6.out⟩
end Ld
end Go.Proofs.Ytcppeligeodomaa
