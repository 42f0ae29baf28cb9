/- What is shared out: the document's Hamilton. (gen_share.py) -/
import Derived.Test.YtblbhkcnmkcdfaaShareH
set_option linter.unusedSimpArgs false
set_option linter.unusedVariables false
namespace Go.Proofs.Ytblbhkcnmkcdfaa
open Go.RowKit
namespace Sh
open Stb
def cntB (t : Int) (ws : List Int) (S : Int) (i k : Nat) : Int := sumN k (fun k => if bef t ws S k i then 1 else 0)
theorem cntB_bd (t : Int) (ws : List Int) (S : Int) (i : Nat) : ∀ k, 0 ≤ cntB t ws S i k ∧ cntB t ws S i k ≤ k
  | 0 => by simp [cntB, sumN]
  | k + 1 => by
    have := cntB_bd t ws S i k
    have e : cntB t ws S i (k + 1) = cntB t ws S i k + if bef t ws S k i then 1 else 0 := rfl
    rw [e]; split <;> omega
set_option maxRecDepth 100000 in
set_option maxHeartbeats 4000000 in
theorem hamOf_bad (v : Value) (t : Int) (ws : List Int) (w : World) (h : RdE elZ w v ws) (he : allE t ws ≠ 0) : Calls Try.prog 14 #[.int .i64 t, v] w (PairZ (hamR t ws) (allE t ws) w) := by
  have hr : hamR t ws = [] := by unfold hamR; rw [if_neg he]
  rw [hr]
  have HA := Lib.hid (weights_any v t ws w h)
  have hne : (allE t ws != 0) = true := by simp [he]
  obtain ⟨a, cap, rfl, _, _, _⟩ := h
  generalize allE t ws = er at *
  generalize allS t ws = es at *
  clear hr he
  have HOW : RowKit.Hid (ROwn elZ w w.heap.size (.slice none 0 0) []) := Lib.hid (ROwn.nil _ _)
  have HBR := Lib.hid (br w)
  go_enter Try.func14, Try.ntmps14
  go_wp2_with fail
  refine HA.out.mono ?_
  rintro en w1 ⟨rfl, rfl⟩
  go_wp2
  go_ret2
  exact ⟨_, rfl, HOW.out, HBR.out⟩
set_option maxRecDepth 100000 in
set_option maxHeartbeats 8000000 in
theorem hamOf_good (v : Value) (t : Int) (ws : List Int) (w : World) (h : RdE elZ w v ws) (he : allE t ws = 0) : Calls Try.prog 14 #[.int .i64 t, v] w (PairZ (hamR t ws) (allE t ws) w) := by
  obtain ⟨q1, q2, q3, q4, q5, q6⟩ := allE_ok he
  have hn0 := len_pos he
  have HA := Lib.hid (weights_any v t ws w h)
  rw [q6] at HA
  have HQ := Lib.hid (fun i => quo_bd he i); have HPR := Lib.hid (fun i => prod_bd he i); have HLB := Lib.hid (left_bd he); have HRB := Lib.hid (fun i => rem_bd he i)
  have HZ32 := Lib.hid (sumW_bd (ws := ws) (k := ws.length) (fun i _ => wv_ok q4 i)).2
  have HEND : RowKit.Hid (hamR t ws = lst ws.length (hamP t ws (sumW ws ws.length) ws.length (leftH t ws (sumW ws ws.length) ws.length))) := Lib.hid (by unfold hamR hamL; rw [if_pos he]; rfl)
  obtain ⟨a, cap, rfl, _, _, h3⟩ := h
  obtain ⟨gw, ow, rfl, hgl, hc⟩ := h3 hn0
  have HCW : RowKit.Hid (∀ i, i < ws.length → w.cell? ⟨gw, ow + i, none⟩ = some (.int .i64 (wv ws i))) := Lib.hid (fun i hi => by rw [wv_at hi]; exact eI_at hc i hi)
  generalize hamR t ws = R at *
  rw [he] at HA ⊢
  obtain ⟨S, hS⟩ : ∃ S, sumW ws ws.length = S := ⟨_, rfl⟩
  rw [hS] at HA HQ HLB HZ32 HRB HEND q5
  clear hS he q6 h3 hc q4
  have HS3 : RowKit.Hid (S ≤ 3200000) := Lib.hid (by have := HZ32.out; omega)
  have hS3 := HS3.out
  have HBR := Lib.hid (br w)
  have HL0 : RowKit.Hid (leftH t ws S 0 = t) := Lib.hid (by simp [leftH, sumN])
  go_enter Try.func14, Try.ntmps14
  go_wp2_with fail
  refine HA.out.mono ?_
  rintro en w1 ⟨rfl, rfl⟩
  go_wp2
  go_loopw [8, 9] (fun s8 s9 wr => ∃ k : Nat, k ≤ ws.length ∧ s9 = .int .i64 k ∧ s8 = .int .i64 (leftH t ws S k) ∧ w = wr) (fun _ s9 _ => ws.length - (intOf s9).toNat)
  case atStart => exact ⟨0, Nat.zero_le _, rfl, by rw [HL0.out], rfl⟩
  case round =>
    obtain ⟨k, hk, rfl, rfl, rfl⟩ := hrel
    by_cases hlt : k < ws.length
    · have d0 := HCW.out k hlt
      have hpr := HPR.out k; have hqu := HQ.out k; have hlb := HLB.out k (by omega)
      have HLS : RowKit.Hid (leftH t ws S (k + 1) = leftH t ws S k - quo t ws S k) := Lib.hid (by unfold leftH; simp only [sumN]; omega)
      have HQQ : RowKit.Hid (quo t ws S k = t * wv ws k / S) := Lib.hid rfl
      obtain ⟨x, hx⟩ : ∃ x, wv ws k = x := ⟨_, rfl⟩
      rw [hx] at d0 hpr HQQ
      clear hx
      obtain ⟨p, hp⟩ : ∃ p, t * x = p := ⟨_, rfl⟩
      rw [hp] at hpr HQQ
      obtain ⟨q, hq⟩ : ∃ q, quo t ws S k = q := ⟨_, rfl⟩
      rw [hq] at HQQ hqu HLS
      have hpq : p / S = q := HQQ.out.symm
      clear hq HQQ
      obtain ⟨l, hl⟩ : ∃ l, leftH t ws S k = l := ⟨_, rfl⟩
      rw [hl] at hlb HLS ⊢
      clear hl
      have i1 : (k : Int) < (ws.length : Int) := by omega
      have i0 : (0 : Int) ≤ (k : Int) := by omega
      obtain ⟨p0, p1⟩ := hpr; obtain ⟨r0, r1⟩ := hqu; obtain ⟨l0, l1⟩ := hlb
      go_wp2
      go_roundw
      case rel => exact ⟨k + 1, by omega, by go_num, by rw [HLS.out], by first | rfl | trivial⟩
      case measure => simp [intOf]; omega
    · have ek : k = ws.length := by omega
      subst ek
      obtain ⟨LF, hLF⟩ : ∃ LF, leftH t ws S ws.length = LF := ⟨_, rfl⟩
      rw [hLF] at HEND ⊢
      have hlf := HLB.out _ (Nat.le_refl _)
      rw [hLF] at hlf
      clear hLF HL0
      have HLF := Lib.hid hlf
      clear hlf
      go_wp2
      go_loopw [10, 11] (fun s10 s11 wr => ∃ i : Nat, i ≤ ws.length ∧ s11 = .int .i64 i ∧ ROwn elZ wr w.heap.size s10 (lst i (hamP t ws S ws.length LF)) ∧ Below w.heap.size w wr) (fun _ s11 _ => ws.length - (intOf s11).toNat)
      case atStart => exact ⟨0, Nat.zero_le _, rfl, ROwn.nil _ _, HBR.out⟩
      case round =>
        obtain ⟨i, hi, rfl, hown, hbw⟩ := hrel
        have HOWN := Lib.hid hown; have HBW := Lib.hid hbw
        by_cases hlt2 : i < ws.length
        · have d0 := (hbw.cell (p := ⟨gw, ow + i, none⟩) hgl).trans (HCW.out i hlt2)
          have hpr := HPR.out i; have hqu := HQ.out i; have hrb := HRB.out i
          have HQQ : RowKit.Hid (quo t ws S i = t * wv ws i / S) := Lib.hid rfl
          have HRR : RowKit.Hid (rem t ws S i = t * wv ws i % S) := Lib.hid rfl
          have HHP : RowKit.Hid (hamP t ws S ws.length LF i = quo t ws S i + if cntB t ws S i ws.length < LF then 1 else 0) := Lib.hid rfl
          have HC0 : RowKit.Hid (cntB t ws S i 0 = 0) := Lib.hid rfl
          have HCS : RowKit.Hid (∀ k, cntB t ws S i (k + 1) = cntB t ws S i k + if (rem t ws S i < rem t ws S k ∨ (rem t ws S k = rem t ws S i ∧ (k : Int) < (i : Int))) then 1 else 0) := Lib.hid (fun k => rfl)
          have HCB := Lib.hid (cntB_bd t ws S i)
          have HLI : RowKit.Hid ((lst i (hamP t ws S ws.length LF)).length = i) := Lib.hid (lst_len _ _)
          have HLI2 : RowKit.Hid (lst (i + 1) (hamP t ws S ws.length LF) = lst i (hamP t ws S ws.length LF) ++ [hamP t ws S ws.length LF i]) := Lib.hid (lst_succ i _)
          obtain ⟨x, hx⟩ : ∃ x, wv ws i = x := ⟨_, rfl⟩
          rw [hx] at d0 hpr HQQ HRR
          clear hx hown hbw
          obtain ⟨p, hp⟩ : ∃ p, t * x = p := ⟨_, rfl⟩
          rw [hp] at hpr HQQ HRR
          obtain ⟨q, hq⟩ : ∃ q, quo t ws S i = q := ⟨_, rfl⟩
          rw [hq] at HQQ hqu HHP
          obtain ⟨mine, hm⟩ : ∃ mine, rem t ws S i = mine := ⟨_, rfl⟩
          rw [hm] at HRR hrb HCS
          have hpq : p / S = q := HQQ.out.symm
          have hpm : p % S = mine := HRR.out.symm
          obtain ⟨p0, p1⟩ := hpr; obtain ⟨r0, r1⟩ := hqu; obtain ⟨m0, m1⟩ := hrb
          clear hq hm HQQ HRR
          have i1 : (i : Int) < (ws.length : Int) := by omega
          have i0 : (0 : Int) ≤ (i : Int) := by omega
          obtain ⟨wb, rfl⟩ : ∃ wb, wb = wr := ⟨_, rfl⟩
          go_wp2
          go_loopw [12, 14] (fun s12 s14 wy => ∃ k : Nat, k ≤ ws.length ∧ s14 = .int .i64 k ∧ s12 = .int .i64 (cntB t ws S i k) ∧ wb = wy) (fun _ s14 _ => ws.length - (intOf s14).toNat)
          case atStart => exact ⟨0, Nat.zero_le _, rfl, by rw [HC0.out], rfl⟩
          case round =>
            obtain ⟨k, hk2, rfl, rfl, rfl⟩ := hrel
            have hcb := HCB.out k
            by_cases hlt3 : k < ws.length
            · have d1 := (HBW.out.cell (p := ⟨gw, ow + k, none⟩) hgl).trans (HCW.out k hlt3)
              have hpr2 := HPR.out k; have hrb2 := HRB.out k
              have HRR : RowKit.Hid (rem t ws S k = t * wv ws k % S) := Lib.hid rfl
              have HCK := Lib.hid (HCS.out k)
              obtain ⟨y, hy⟩ : ∃ y, wv ws k = y := ⟨_, rfl⟩
              rw [hy] at d1 hpr2 HRR
              clear hy d0
              obtain ⟨u, hu⟩ : ∃ u, t * y = u := ⟨_, rfl⟩
              rw [hu] at hpr2 HRR
              obtain ⟨other, ho⟩ : ∃ other, rem t ws S k = other := ⟨_, rfl⟩
              rw [ho] at HRR hrb2 HCK
              have huo : u % S = other := HRR.out.symm
              clear ho HRR
              obtain ⟨cn, hcn⟩ : ∃ cn, cntB t ws S i k = cn := ⟨_, rfl⟩
              rw [hcn] at hcb HCK ⊢
              clear hcn
              obtain ⟨u0, u1⟩ := hpr2; obtain ⟨o0, o1⟩ := hrb2; obtain ⟨b0, b1⟩ := hcb
              have j1 : (k : Int) < (ws.length : Int) := by omega
              have j0 : (0 : Int) ≤ (k : Int) := by omega
              have j2 : (k : Int) ≤ 32 := by omega
              rcases Int.lt_trichotomy other mine with cc | cc | cc
              · have e := HCK.out
                rw [if_neg (by omega)] at e
                have HCE := Lib.hid e
                have g1 : ¬ other > mine := by omega
                have g2 : (other == mine) = false := beq_eq_false_iff_ne.2 (by omega)
                clear e HCK
                go_wp2
                go_roundw
                case rel => exact ⟨k + 1, by omega, by go_num, by rw [HCE.out]; simp, by first | rfl | trivial⟩
                case measure => simp [intOf]; omega
              · by_cases ck : k < i
                · have e := HCK.out
                  rw [if_pos (.inr ⟨cc, by omega⟩)] at e
                  have HCE := Lib.hid e
                  have g1 : ¬ other > mine := by omega
                  have g2 : (other == mine) = true := beq_iff_eq.2 cc
                  have g3 : (k : Int) < (i : Int) := by omega
                  clear e HCK cc
                  go_wp2
                  go_roundw
                  case rel => exact ⟨k + 1, by omega, by go_num, by rw [HCE.out], by first | rfl | trivial⟩
                  case measure => simp [intOf]; omega
                · have e := HCK.out
                  rw [if_neg (by omega)] at e
                  have HCE := Lib.hid e
                  have g1 : ¬ other > mine := by omega
                  have g2 : (other == mine) = true := beq_iff_eq.2 cc
                  have g3 : ¬ (k : Int) < (i : Int) := by omega
                  clear e HCK cc
                  go_wp2
                  go_roundw
                  case rel => exact ⟨k + 1, by omega, by go_num, by rw [HCE.out]; simp, by first | rfl | trivial⟩
                  case measure => simp [intOf]; omega
              · have e := HCK.out
                rw [if_pos (.inl cc)] at e
                have HCE := Lib.hid e
                have g1 : other > mine := by omega
                clear e HCK
                go_wp2
                go_roundw
                case rel => exact ⟨k + 1, by omega, by go_num, by rw [HCE.out], by first | rfl | trivial⟩
                case measure => simp [intOf]; omega
            · have ek : k = ws.length := by omega
              subst ek
              obtain ⟨cn, hcn⟩ : ∃ cn, cntB t ws S i ws.length = cn := ⟨_, rfl⟩
              rw [hcn] at HHP ⊢
              clear hcn hcb HCB HCS HC0
              by_cases cl : cn < LF
              · have e := HHP.out
                rw [if_pos cl] at e
                rw [e] at HLI2
                clear e HHP
                go_wp2_with (at_builtin; refine appE elZ rfl (.tmp 99) (.tmp 101) rfl w.heap.size _ (lst i (hamP t ws S ws.length LF)) rfl (HOWN.out.next ((br _).alloc (Nat.le_refl _) _)) _ [q + 1] rfl (rd_lit elZ [q + 1] _ _ _ _ rfl (by simp [maxLen])) (by rw [HLI.out]; show i + 1 ≤ _; unfold maxLen; omega) (by rw [HLI.out]; show (i + 1) * 8 ≤ _; omega) (by have := HBW.out.size; simp; omega) ?_; intro v9 w9 ho9 hb9 hf9; have HO9 := Lib.hid ho9; have HB9 := Lib.hid ((HBW.out.alloc HBW.out.size _).trans hb9); clear ho9 hb9 hf9)
                go_roundw
                case rel => exact ⟨i + 1, by omega, by go_num, by rw [HLI2.out]; exact HO9.out, HB9.out⟩
                case measure => simp [intOf]; omega
              · have e := HHP.out
                rw [if_neg cl, Int.add_zero] at e
                rw [e] at HLI2
                clear e HHP
                go_wp2_with (at_builtin; refine appE elZ rfl (.tmp 99) (.tmp 101) rfl w.heap.size _ (lst i (hamP t ws S ws.length LF)) rfl (HOWN.out.next ((br _).alloc (Nat.le_refl _) _)) _ [q] rfl (rd_lit elZ [q] _ _ _ _ rfl (by simp [maxLen])) (by rw [HLI.out]; show i + 1 ≤ _; unfold maxLen; omega) (by rw [HLI.out]; show (i + 1) * 8 ≤ _; omega) (by have := HBW.out.size; simp; omega) ?_; intro v9 w9 ho9 hb9 hf9; have HO9 := Lib.hid ho9; have HB9 := Lib.hid ((HBW.out.alloc HBW.out.size _).trans hb9); clear ho9 hb9 hf9)
                go_roundw
                case rel => exact ⟨i + 1, by omega, by go_num, by rw [HLI2.out]; exact HO9.out, HB9.out⟩
                case measure => simp [intOf]; omega
        · have ek : i = ws.length := by omega
          subst ek
          rw [← HEND.out] at hown
          have HOF := Lib.hid hown
          clear hown hbw
          go_wp2
          go_ret2
          exact ⟨_, rfl, HOF.out, HBW.out⟩
theorem ham_any (v : Value) (t : Int) (ws : List Int) (w : World) (h : RdE elZ w v ws) : Calls Try.prog 11 #[.int .i64 t, v] w (PairZ (hamR t ws) (allE t ws) w) := by
  by_cases he : allE t ws = 0
  · exact ham_good v t ws w h he
  · exact ham_bad v t ws w h he
theorem hamOf_any (v : Value) (t : Int) (ws : List Int) (w : World) (h : RdE elZ w v ws) : Calls Try.prog 14 #[.int .i64 t, v] w (PairZ (hamR t ws) (allE t ws) w) := by
  by_cases he : allE t ws = 0
  · exact hamOf_good v t ws w h he
  · exact hamOf_bad v t ws w h he
end Sh
end Go.Proofs.Ytblbhkcnmkcdfaa
