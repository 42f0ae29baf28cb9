/- Gate: what must be in any case. (gen_gate11.py) -/
import Derived.Test.YtdfdjampodkpgaaDoorGatePlain
import Derived.Test.YtdfdjampodkpgaaDoorJRingR
import Derived.Test.YtdfdjampodkpgaaDoorPassBegunW
import Derived.Deep.RegionHeld3
set_option linter.unusedSimpArgs false
set_option linter.unusedVariables false
namespace Go.Proofs.YtdfdjampodkpgaaDoor
open Go.RowKit
namespace Gt
open Sn Pa Rg Tg
set_option maxRecDepth 100000 in
set_option maxHeartbeats 500000 in
theorem sameT_yes (t : Tk) (d d' : Value) (l : List Sp) (w : World) (h : RdE elS w d l) (h' : RdE elS w d' l) : Calls Tryd.prog 14 #[aT t d, aT t d'] w (BoolQ true w) := by
  have C1 := Lib.hid (fun w' (hb : Below w.heap.size w w') => sameS_any d d' l l w' (h.below hb) (h'.below hb))
  unfold SameSQ at C1
  simp only [decide_true] at C1
  obtain ⟨id, a, b, ser⟩ := t
  obtain ⟨x, cap, rfl, _, _, _⟩ := h
  obtain ⟨x', cap', rfl, _, _, _⟩ := h'
  have HA := Lib.hid (((br w).alloc (Nat.le_refl _) (.cells #[.int .i64 id, .int .i64 a, .int .i64 b, .int .i64 ser, .slice x l.length cap] 30)).alloc (by simp) (.cells #[.int .i64 id, .int .i64 a, .int .i64 b, .int .i64 ser, .slice x' l.length cap'] 30))
  have e1 : (id == id) = true := by simp
  have e3 : (a == a) = true := by simp
  have e4 : (b == b) = true := by simp
  have e5 : (ser == ser) = true := by simp
  go_enter Tryd.func14, Tryd.ntmps14
  go_wp2_with (first | (go_at_call 38; (with_reducible refine (C1.out _ (by first | exact HA.out | exact bn HA.out _)).mono ?_); rintro en w3 ⟨rfl, b3⟩))
  go_ret
  exact ⟨rfl, bt HA.out b3⟩
theorem wr_yes {eps : List Ep} {p : Ps} {l : List Sp} (hc : chk eps = 0) (hn : eps ≠ []) (hp : passE p l = 0) (hl : l.length ≤ 17) : (wrF eps p l).2 = 0 := by
  have hb := bodyS_size p l
  unfold wrF
  rw [if_neg (by simpa using hp), if_neg (by omega)]
  have h2 : (sealF eps (bodyS p l)).2 = 0 := by
    rcases seal_cases eps (bodyS p l) with ⟨h, _⟩ | ⟨_, h, _⟩ | ⟨_, _, _, h, _⟩ | ⟨_, _, _, _, e⟩
    · exact absurd hc h
    · exact absurd (List.eq_nil_of_length_eq_zero h) hn
    · omega
    · rw [e]
  rw [if_neg (by rw [h2]; simp)]
abbrev P7 : Ps := ⟨7, 690000, 1, 3, 1⟩
abbrev Q7 : Ps := ⟨7, 690000, 1, 3, 2⟩
abbrev S7 : List Sp := [(700000, 700007)]
def T7 : ByteArray := (wrF [K1, K2] P7 S7).1
theorem p7 : passE P7 S7 = 0 := by kernel_rfl
theorem q7 : passE Q7 S7 = 0 := by kernel_rfl
theorem w7 : wrF [K1, K2] P7 S7 = (T7, 0) := by
  have h := wr_yes (eps := [K1, K2]) k_chk (by simp) p7 (by decide)
  unfold T7
  rw [← h]
theorem t7 : T7 = rawS (sealed K2 (bodyS P7 S7)) := by
  obtain ⟨_, _, _, n, hn, e⟩ := wr_ok (eps := [K1, K2]) (p := P7) (l := S7) (by rw [w7])
  have : n = 1 := by simpa using hn.symm
  subst this
  exact e
theorem r7 : rdF [K1, K2] T7 = ((tkOf P7, S7), 0) := by
  have := rd_wr (eps := [K1, K2]) (p := P7) (l := S7) (by rw [w7])
  rw [w7] at this
  exact this
theorem r7' : rdF [K1] T7 = ((tk0, []), 5) := by
  rw [t7]; exact rd_lost (by decide) (by decide) K2 (by decide) (by decide)
theorem a7 (x : Px) (hx : x.p = P7) (hl : x.l = S7) : admF [K1, K2] [x] T7 700003 2 = 0 ∧ admF [K1, K2] [x] T7 700007 2 = 3 ∧ admF [K1] [x] T7 700003 2 = 5 := by
  obtain ⟨p, a, cap, l⟩ := x
  simp only at hx hl
  subst hx hl
  have hp : pasE (pls [⟨P7, a, cap, S7⟩]) = 0 := by
    show (if passE P7 S7 ≠ 0 then passE P7 S7 else if hasI (7 : Int) [] = true then 6 else 0) = 0
    rw [p7]; rfl
  unfold admF rawG
  rw [hp, r7, r7']
  refine ⟨?_, ?_, ?_⟩
  · rfl
  · rfl
  · rfl
theorem a7q (x : Px) (hx : x.p = Q7) (hl : x.l = S7) : admF [K1, K2] [x] T7 700003 2 = 4 := by
  obtain ⟨p, a, cap, l⟩ := x
  simp only at hx hl
  subst hx hl
  have hp : pasE (pls [⟨Q7, a, cap, S7⟩]) = 0 := by
    show (if passE Q7 S7 ≠ 0 then passE Q7 S7 else if hasI (7 : Int) [] = true then 6 else 0) = 0
    rw [q7]; rfl
  unfold admF rawG
  rw [hp, r7]
  rfl
theorem a7n : admF [K1, K2] [] T7 700003 2 = 5 := by
  unfold admF rawG
  rw [r7]
  rfl

theorem rdX_lit (x : Px) (w : World) (h : RdD w x) : RdX (w.alloc (.cells #[.int .i64 x.p.id, .int .i64 x.p.born, .int .i64 x.p.a, .int .i64 x.p.b, .int .i64 x.p.ser, x.v] 25)) (.slice (some ⟨w.heap.size, 0, none⟩) 1 1) [x] :=
  ⟨rd_lit elX [x] w 25 (0, 0) w.heap.size rfl (by simp [maxLen]), fun y hy => by
    rw [List.mem_singleton] at hy; subst hy; exact h.below ((br w).alloc (Nat.le_refl _) _)⟩
theorem ad1 (x : Px) (hx : x.p = P7) (hl : x.l = S7) (v u : Value) (W : World) (hv : Rd 3 Rg.eE W v [K1, K2]) (hu : RdX W u [x]) (hT : Sl.Tab W) : Calls Tryd.prog 15 #[v, u, .string T7, .int .i64 700003, .int .i64 2] W (IntQ 0 W) := by
  have h := admit_any v u [K1, K2] [x] T7 700003 2 (Nat.le_trans (wr_size _ _ _) (by decide)) W hv hu hT
  rw [(a7 x hx hl).1] at h; exact h
theorem ad2 (x : Px) (hx : x.p = P7) (hl : x.l = S7) (v u : Value) (W : World) (hv : Rd 3 Rg.eE W v [K1, K2]) (hu : RdX W u [x]) (hT : Sl.Tab W) : Calls Tryd.prog 15 #[v, u, .string T7, .int .i64 700007, .int .i64 2] W (IntQ 3 W) := by
  have h := admit_any v u [K1, K2] [x] T7 700007 2 (Nat.le_trans (wr_size _ _ _) (by decide)) W hv hu hT
  rw [(a7 x hx hl).2.1] at h; exact h
theorem ad3 (x : Px) (hx : x.p = Q7) (hl : x.l = S7) (v u : Value) (W : World) (hv : Rd 3 Rg.eE W v [K1, K2]) (hu : RdX W u [x]) (hT : Sl.Tab W) : Calls Tryd.prog 15 #[v, u, .string T7, .int .i64 700003, .int .i64 2] W (IntQ 4 W) := by
  have h := admit_any v u [K1, K2] [x] T7 700003 2 (Nat.le_trans (wr_size _ _ _) (by decide)) W hv hu hT
  rw [a7q x hx hl] at h; exact h
theorem ad4 (v : Value) (W : World) (hv : Rd 3 Rg.eE W v [K1, K2]) (hT : Sl.Tab W) : Calls Tryd.prog 15 #[v, .slice none 0 0, .string T7, .int .i64 700003, .int .i64 2] W (IntQ 5 W) := by
  have h := admit_any v (.slice none 0 0) [K1, K2] [] T7 700003 2 (Nat.le_trans (wr_size _ _ _) (by decide)) W hv (RdX.nil W) hT
  rw [a7n] at h; exact h
theorem ad5 (x : Px) (hx : x.p = P7) (hl : x.l = S7) (v u : Value) (W : World) (hv : Rd 3 Rg.eE W v [K1]) (hu : RdX W u [x]) (hT : Sl.Tab W) : Calls Tryd.prog 15 #[v, u, .string T7, .int .i64 700003, .int .i64 2] W (IntQ 5 W) := by
  have h := admit_any v u [K1] [x] T7 700003 2 (Nat.le_trans (wr_size _ _ _) (by decide)) W hv hu hT
  rw [(a7 x hx hl).2.2] at h; exact h
theorem wr7 (v d : Value) (W : World) (hv : Rd 3 Rg.eE W v [K1, K2]) (hd : RdE elS W d S7) : Calls Tryd.prog 9 #[v, aP P7 d] W (SealQ (T7, 0) W) := by
  have h := write_any v [K1, K2] P7 d S7 W hv hd
  rw [w7] at h; exact h
theorem rd7 (v : Value) (W : World) (hv : Rd 3 Rg.eE W v [K1, K2]) (hT : Sl.Tab W) : Calls Tryd.prog 10 #[v, .string T7] W (RdQ ((tkOf P7, S7), 0) W) := by
  have h := read_any v [K1, K2] T7 (Nat.le_trans (wr_size _ _ _) (by decide)) W hv hT
  rw [r7] at h; exact h
theorem rp7 (d : Value) (W : World) (hd : RdE elS W d S7) : Calls Tryd.prog 21 #[aP P7 d] W (fun e w' => ∃ v, e = .returned (.tuple #[aP Q7 v, .int .i64 0]) ∧ RdE elS w' v S7 ∧ Below W.heap.size W w') := by
  have h := replace_any P7 d S7 W hd
  have hz : repE P7 S7 = 0 := by kernel_rfl
  rw [hz, if_pos rfl, if_pos rfl] at h
  exact h.mono (fun e w' ⟨v, h1, h2, _, h3⟩ => ⟨v, h1, h2, h3⟩)
theorem fld5 (id born a b ser : Int) (d : Value) (hd : d.oneCell' = true) (w : World) : (Instr.field 25 (.agg #[.int .i64 id, .int .i64 born, .int .i64 a, .int .i64 b, .int .i64 ser, d]) 5).run Tryd.prog w = .ok d w := by
  cases d <;> first | (simp at hd; done) | kernel_rfl
set_option maxRecDepth 100000 in
set_option maxHeartbeats 16000000 in
theorem begun_any (w : World) (hT : Sl.Tab w) : Calls Tryd.prog 13 #[] w (BoolQ true w) := by
  have HT := Lib.hid hT; clear hT
  have KY := Lib.hid Rg.keys_any
  have KW := Lib.hid Pa.wren_any
  have C1 := Lib.hid wr7; have C2 := Lib.hid rd7; have C3 := Lib.hid rp7
  have A1 := Lib.hid ad1; have A2 := Lib.hid ad2; have A3 := Lib.hid ad3; have A4 := Lib.hid ad4; have A5 := Lib.hid ad5
  have ST := Lib.hid (sameT_yes ⟨7, 1, 3, 1⟩)
  unfold SealQ at C1
  go_enter Tryd.func13, Tryd.ntmps13
  go_wp2_with fail
  refine (KY.out _).mono ?_
  rintro en1 w1 ⟨v1, rfl, hr1, b1⟩
  go_wp2_with fail
  refine (KW.out _).mono ?_
  rintro en2 w2 ⟨v2, rfl, hr2, b2⟩
  have hr1 := Rd.below hr1 b2
  have HB2 := Lib.hid (bt b1 b2); clear b1 b2
  have H1 := Lib.hid hr1; have H2 := Lib.hid hr2; clear hr1 hr2
  go_wp2_with fail
  refine (C1.out _ _ _ H1.out H2.out).mono ?_
  rintro en3 w3 ⟨rfl, b3⟩
  have HB3 := Lib.hid (bt HB2.out b3); clear b3 H1 H2 HB2
  go_wp2_with fail
  refine (KY.out _).mono ?_
  rintro en4 w4 ⟨v4, rfl, hr4, b4⟩
  have HB4 := Lib.hid (bt HB3.out b4); have H4 := Lib.hid hr4; clear b4 hr4 HB3
  go_wp2_with fail
  refine (C2.out _ _ H4.out (HT.out.below HB4.out)).mono ?_
  rintro en5 w5 ⟨d5, rfl, hr5, _, b5⟩
  simp only at hr5
  have HB5 := Lib.hid (bt HB4.out b5); have H5 := Lib.hid hr5; clear b5 H4 HB4
  obtain ⟨x5, c5, rfl, _, _, _⟩ := hr5
  have hk := Box.new w5 30 [.int .i64 7, .int .i64 1, .int .i64 3, .int .i64 1, .slice x5 1 c5]
  have ha := (br w5).alloc (Nat.le_refl _) (.cells #[.int .i64 7, .int .i64 1, .int .i64 3, .int .i64 1, .slice x5 1 c5] 30)
  have HBa := Lib.hid (bt HB5.out ha); have H5a := Lib.hid (H5.out.below ha); have HKa := Lib.hid hk
  clear hk ha H5 HB5
  go_wp2_with fail
  refine (KW.out _).mono ?_
  rintro en6 w6 ⟨v6, rfl, hr6, b6⟩
  have HB6 := Lib.hid (bt HBa.out b6); have H6 := Lib.hid hr6; have H56 := Lib.hid (H5a.out.below b6); have HK6 := Lib.hid (HKa.out.next b6)
  clear hr6 b6 HBa H5a HKa
  go_wp2_with fail
  refine (C3.out _ _ H6.out).mono ?_
  rintro en7 w7 ⟨d7, rfl, hr7, b7⟩
  have HB7 := Lib.hid (bt HB6.out b7); have H7 := Lib.hid hr7; have H57 := Lib.hid (H56.out.below b7); have HK7 := Lib.hid (HK6.out.next b7)
  clear b7 HB6 H6 H56 HK6
  obtain ⟨x7, c7, rfl, _, _, _⟩ := hr7
  have hq := Box.new w7 25 [.int .i64 7, .int .i64 690000, .int .i64 1, .int .i64 3, .int .i64 2, .slice x7 1 c7]
  have ha := (br w7).alloc (Nat.le_refl _) (.cells #[.int .i64 7, .int .i64 690000, .int .i64 1, .int .i64 3, .int .i64 2, .slice x7 1 c7] 25)
  have HB8 := Lib.hid (bt HB7.out ha); have H78 := Lib.hid (H7.out.below ha); have H58 := Lib.hid (H57.out.below ha); have hk := HK7.out.next ha
  clear ha HB7 H7 H57 HK7 C1 C2 C3
  have k0 := hk.cell 0; have k1 := hk.cell 1; have k2 := hk.cell 2; have k3 := hk.cell 3; have k4 := hk.cell 4
  have q0 := hq.cell 0; have q1 := hq.cell 1; have q2 := hq.cell 2; have q3 := hq.cell 3; have q4 := hq.cell 4; have q5 := hq.cell 5
  simp only [List.getElem?_cons_zero, List.getElem?_cons_succ] at k0 k1 k2 k3 k4 q0 q1 q2 q3 q4 q5
  go_wp2_with fail
  generalize hW8 : w7.alloc (.cells #[.int .i64 7, .int .i64 690000, .int .i64 1, .int .i64 3, .int .i64 2, .slice x7 1 c7] 25) = w8 at *
  clear hW8 hk hq
  have fl := fun x c w => fld5 7 690000 1 3 1 (.slice x 1 c) rfl w
  have HB0 := Lib.hid (bn HB8.out 1); have H50 := Lib.hid (rdE_dr (E := elS) H58.out); have H70 := Lib.hid (rdE_dr (E := elS) H78.out)
  go_region_held3 (fun w' => w'.cell? ⟨w5.heap.size, 0, none⟩ = some (.int .i64 7) ∧ w'.cell? ⟨w5.heap.size, 1, none⟩ = some (.int .i64 1) ∧ w'.cell? ⟨w5.heap.size, 2, none⟩ = some (.int .i64 3) ∧ w'.cell? ⟨w5.heap.size, 3, none⟩ = some (.int .i64 1) ∧ w'.cell? ⟨w5.heap.size, 4, none⟩ = some (.slice x5 1 c5) ∧ w'.cell? ⟨w7.heap.size, 0, none⟩ = some (.int .i64 7) ∧ w'.cell? ⟨w7.heap.size, 1, none⟩ = some (.int .i64 690000) ∧ w'.cell? ⟨w7.heap.size, 2, none⟩ = some (.int .i64 1) ∧ w'.cell? ⟨w7.heap.size, 3, none⟩ = some (.int .i64 3) ∧ w'.cell? ⟨w7.heap.size, 4, none⟩ = some (.int .i64 2) ∧ w'.cell? ⟨w7.heap.size, 5, none⟩ = some (.slice x7 1 c7))
    (first | (go_split_ands; (repeat' apply And.intro) <;> first | (with_reducible assumption) | (refine kp bX ?_; with_reducible assumption) | (refine kp ((br _).alloc (Nat.le_refl _) _) ?_; with_reducible assumption)) | go_keep | fail)
    (first
      | (go_at_call 15; refine (A5.out ⟨P7, xw14, cw14, S7⟩ rfl rfl _ _ _ ?_ ?_ ?_).mono ?_; exact Rd.below HK14.out ((br _).alloc (Nat.le_refl _) _); exact rdX_lit ⟨P7, xw14, cw14, S7⟩ _ HW14.out; exact HT.out.below (HB_14.out.alloc HB_14.out.size _); rintro en15 W15 ⟨rfl, bX⟩; have HB_15 := Lib.hid (bt (HB_14.out.alloc HB_14.out.size _) bX))
      | (go_at_call 37; refine (KW.out _).mono ?_; rintro en14 W14 ⟨vw14, rfl, hw14, bX⟩; have HW14 := Lib.hid hw14; obtain ⟨xw14, cw14, rfl, _, _, _⟩ := hw14; have HB_14 := Lib.hid (bt HB_13.out bX); have HK14 := Lib.hid (Rd.below HK13.out bX))
      | (go_at_call 36; refine (KY.out _).mono ?_; rintro en13 W13 ⟨vk13, rfl, hk13, bX⟩; have HB_13 := Lib.hid (bt HB_12.out bX); obtain ⟨xk, ck, rfl, hkc, hkm, _⟩ := id hk13; have HK13 := Lib.hid (rd_pre hk13 1 (by simp)); have i2 : (1 : Int) ≤ (ck : Int) := by (simp at hkc; omega))
      | (go_at_call 15; refine (A4.out _ _ HK11.out (HT.out.below HB_11.out)).mono ?_; rintro en12 W12 ⟨rfl, bX⟩; have HB_12 := Lib.hid (bt HB_11.out bX))
      | (go_at_call 36; refine (KY.out _).mono ?_; rintro en11 W11 ⟨vk11, rfl, hk11, bX⟩; have HK11 := Lib.hid hk11; have HB_11 := Lib.hid (bt HB_10.out bX))
      | (go_at_call 15; have _g := HL9; refine (A3.out ⟨Q7, x7, c7, S7⟩ rfl rfl _ _ _ ?_ ?_ ?_).mono ?_; exact HK9.out; exact HL9.out; exact HT.out.below HB_9.out; rintro en10 W10 ⟨rfl, bX⟩; have HB_10 := Lib.hid (bt HB_9.out bX))
      | (go_at_call 15; have _g := H79; refine (A3.out ⟨Q7, x7, c7, S7⟩ rfl rfl _ _ _ ?_ ?_ ?_).mono ?_; exact Rd.below HK9.out ((br _).alloc (Nat.le_refl _) _); exact rdX_lit ⟨Q7, x7, c7, S7⟩ _ H79.out; exact HT.out.below (HB_9.out.alloc HB_9.out.size _); rintro en10 W10 ⟨rfl, bX⟩; have HB_10 := Lib.hid (bt (HB_9.out.alloc HB_9.out.size _) bX))
      | (go_at_call 36; have _g := HB_8; refine (KY.out _).mono ?_; rintro en9 W9 ⟨vk9, rfl, hk9, bX⟩; have HK9 := Lib.hid hk9; (with_reducible have HB_9 := Lib.hid (bt HB_8.out bX)); have H79 := Lib.hid (H7_8.out.below bX))
      | (go_at_call 36; have _g := HB_8; refine (KY.out _).mono ?_; rintro en9 W9 ⟨vk9, rfl, hk9, bX⟩; have HK9 := Lib.hid hk9; have HB_9 := Lib.hid (bt (HB_8.out.alloc HB_8.out.size _) bX); have HL9 := Lib.hid ((rdX_lit ⟨Q7, x7, c7, S7⟩ _ H7_8.out).next bX))
      | (go_at_call 15; refine (A2.out ⟨P7, xw7, cw7, S7⟩ rfl rfl _ _ _ ?_ ?_ ?_).mono ?_; exact Rd.below HK67.out ((br _).alloc (Nat.le_refl _) _); exact rdX_lit ⟨P7, xw7, cw7, S7⟩ _ HW7.out; exact HT.out.below (HB_7.out.alloc HB_7.out.size _); rintro en8 W8 ⟨rfl, bX⟩; have HB_8 := Lib.hid (bt (HB_7.out.alloc HB_7.out.size _) bX); have H7_8 := Lib.hid ((H77.out.below ((br _).alloc (Nat.le_refl _) _)).below bX))
      | (go_at_call 37; refine (KW.out _).mono ?_; rintro en7 W7 ⟨vw7, rfl, hw7, bX⟩; have HW7 := Lib.hid hw7; obtain ⟨xw7, cw7, rfl, _, _, _⟩ := hw7; have HB_7 := Lib.hid (bt HB_6.out bX); have H77 := Lib.hid (H76.out.below bX); have HK67 := Lib.hid (Rd.below HK6.out bX))
      | (go_at_call 36; refine (KY.out _).mono ?_; rintro en6 W6 ⟨vk6, rfl, hk6, bX⟩; have HK6 := Lib.hid hk6; have HB_6 := Lib.hid (bt HB_5.out bX); have H76 := Lib.hid (H75.out.below bX))
      | (go_at_call 15; refine (A1.out ⟨P7, xw4, cw4, S7⟩ rfl rfl _ _ _ ?_ ?_ ?_).mono ?_; exact Rd.below HK34.out ((br _).alloc (Nat.le_refl _) _); exact rdX_lit ⟨P7, xw4, cw4, S7⟩ _ HW4.out; exact HT.out.below (HB_4.out.alloc HB_4.out.size _); rintro en5 W5 ⟨rfl, bX⟩; have HB_5 := Lib.hid (bt (HB_4.out.alloc HB_4.out.size _) bX); have H75 := Lib.hid ((H74.out.below ((br _).alloc (Nat.le_refl _) _)).below bX))
      | (go_at_call 37; refine (KW.out _).mono ?_; rintro en4 W4 ⟨vw4, rfl, hw4, bX⟩; have HW4 := Lib.hid hw4; obtain ⟨xw4, cw4, rfl, _, _, _⟩ := hw4; have HB_4 := Lib.hid (bt HB_3.out bX); have H74 := Lib.hid (H73.out.below bX); have HK34 := Lib.hid (Rd.below HK3.out bX))
      | (go_at_call 36; refine (KY.out _).mono ?_; rintro en3 W3 ⟨vk3, rfl, hk3, bX⟩; have HK3 := Lib.hid hk3; have HB_3 := Lib.hid (bt HB_2.out bX); have H73 := Lib.hid (H72.out.below bX))
      | (go_at_call 14; refine (ST.out _ _ _ _ H51.out HW1.out).mono ?_; rintro en2 W2 ⟨rfl, bX⟩; have HB_2 := Lib.hid (bt HB_1.out bX); have H72 := Lib.hid (H71.out.below bX))
      | (go_at_call 37; refine (KW.out _).mono ?_; rintro en1 W1 ⟨vw1, rfl, hw1, bX⟩; have HW1 := Lib.hid hw1; obtain ⟨xw1, cw1, rfl, _, _, _⟩ := hw1; have HB_1 := Lib.hid (bt HB0.out bX); have H51 := Lib.hid (H50.out.below bX); have H71 := Lib.hid (H70.out.below bX))
      | fail)
  all_goals
    go_wp2
    go_ret
    exact ⟨by first | rfl | (simp; done), HB_15.out⟩
end Gt
end Go.Proofs.YtdfdjampodkpgaaDoor
