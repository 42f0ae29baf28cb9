/- Sets of days: the document's set. (gen_spans4.py) -/
import Derived.Test.YtcgncmlldjblmaaSpansRef3
set_option linter.unusedSimpArgs false
set_option linter.unusedVariables false
namespace Go.Proofs.Ytcgncmlldjblmaa
open Go.RowKit
namespace Sn
theorem hasDay_q (v : Value) (l : List Sp) (n : Int) (w : World) (h : RdE elS w v l) : Calls Try.prog 40 #[v, .int .i64 n] w (fun e w' => e = .returned (.bool (has l n)) ∧ w = w') :=
  (hasDay_any v l n w h).mono fun _ _ ⟨a, b⟩ => ⟨a, b.symm⟩
theorem lastTo_get (out : List Sp) (m : Nat) (h : out.length = m + 1) : lastTo out = some (out[m]'(by omega)).2 := by
  unfold lastTo
  have e : out.length - 1 = m := by omega
  rw [List.getLast?_eq_getElem?, e, List.getElem?_eq_getElem (by omega)]; rfl
theorem byW_at (W : Int → Bool) (E : List Int) (k : Nat) (h : k + 1 < E.length) (out : List Sp) : byW W (E.drop k) out = byW W (E.drop (k + 1)) (byStep W out (E[k]'(by omega)) E[k + 1]) := by
  rw [List.drop_eq_getElem_cons (by omega : k < E.length), List.drop_eq_getElem_cons h]; rfl
theorem byW_end (W : Int → Bool) (E : List Int) (k : Nat) (h : E.length ≤ k + 1) (out : List Sp) : byW W (E.drop k) out = out := by
  by_cases c : k < E.length
  · rw [List.drop_eq_getElem_cons c, List.drop_eq_nil_of_le h]; rfl
  · rw [List.drop_eq_nil_of_le (by omega)]; rfl
theorem byStep_no (W : Int → Bool) (out : List Sp) (x y : Int) (h : W x = false) : byStep W out x y = out := by unfold byStep; rw [h]; rfl
theorem byStep_set (W : Int → Bool) (out : List Sp) (x y : Int) (h : W x = true) (hl : lastTo out = some x) : byStep W out x y = setTo out y := by unfold byStep; rw [h, if_pos rfl, if_pos hl]
theorem byStep_app (W : Int → Bool) (out : List Sp) (x y : Int) (h : W x = true) (hl : ¬ lastTo out = some x) : byStep W out x y = out ++ [(x, y)] := by unfold byStep; rw [h, if_pos rfl, if_neg hl]
set_option maxRecDepth 100000 in
set_option maxHeartbeats 16000000 in
theorem by0_any (va vb : Value) (a b : List Sp) (w : World) (ha : RdE elS w va a) (hb : RdE elS w vb b) (hla : a.length ≤ 64) (hlb : b.length ≤ 64) : Calls Try.prog 55 #[va, vb, .int .i64 0] w fun e w' => ∃ u, e = .returned u ∧ ROwn elS w' w.heap.size u (byL 0 a b) ∧ Below w.heap.size w w' := by
  have HA := Lib.hid ha; have HB := Lib.hid hb
  obtain ⟨aa, ca, rfl, _, _, _⟩ := ha
  obtain ⟨ab, cb, rfl, _, _, _⟩ := hb
  have EN := Lib.hid (fun v w' h => ends_any v (a ++ b) w' h (by rw [List.length_append]; omega))
  have HD1 := Lib.hid (fun n w' h => hasDay_q (.slice aa a.length ca) a n w' h)
  have HD2 := Lib.hid (fun n w' h => hasDay_q (.slice ab b.length cb) b n w' h)
  obtain ⟨RES, hRES⟩ : ∃ RES, byL 0 a b = RES := ⟨_, rfl⟩
  rw [hRES]
  unfold byL at hRES
  have hX := ends_len (a ++ b)
  rw [List.length_append] at hX
  generalize hE : endsL (a ++ b) = E at *
  have HRES := Lib.hid hRES
  have hx2 : E.length ≤ 256 := by omega
  clear hE hRES hX
  go_enter Try.func55, Try.ntmps55
  go_wp2_with (first
    | (at_builtin; refine appE elS rfl (.tmp 14) (.tmp 15) rfl w.heap.size _ [] rfl (ROwn.lit0 w w.heap.size w.heap.size rfl (Nat.le_refl _)) _ a rfl (HA.out.below ((br w).alloc (Nat.le_refl _) _)) (by show 0 + a.length ≤ _; unfold maxLen; omega) (by show (0 + a.length) * 16 ≤ _; omega) (by simp) ?_; intro v5 w5 ho5 hb5 hf5; have HO5 := Lib.hid ho5; have HB5 := Lib.hid (((br w).alloc (Nat.le_refl _) (.cells #[] 51)).trans hb5); clear ho5 hb5 hf5)
    | (at_builtin; refine appE elS rfl (.tmp 16) (.tmp 17) rfl w.heap.size _ ([] ++ a) rfl HO5.out _ b rfl (HB.out.below HB5.out) (by show a.length + b.length ≤ _; unfold maxLen; omega) (by show (a.length + b.length) * 16 ≤ _; omega) HB5.out.size ?_; intro v6 w6 ho6 hb6 hf6; have HO6 := Lib.hid ho6; have HB6 := Lib.hid (HB5.out.trans hb6); clear ho6 hb6 hf6))
  refine (EN.out _ _ HO6.out.rd).mono ?_
  rintro en w1 ⟨v1, rfl, ho1, hb1⟩
  have HBW1 := Lib.hid (HB6.out.trans (hb1.mono HB6.out.size))
  obtain ⟨aE, cE, hv1⟩ := own_shape ho1
  subst hv1
  obtain ⟨_, _, _, _, _, g3⟩ := id ho1.rd
  have HOE := Lib.hid ho1
  have HA1 := Lib.hid (HA.out.below HBW1.out); have HB1 := Lib.hid (HB.out.below HBW1.out)
  clear ho1 hb1 HO5 HB5 HO6 HB6 EN HA HB g3
  go_wp2
  go_loopw [8, 9] (fun o i wr => ∃ (k : Nat) (out : List Sp), k ≤ E.length ∧ i = .int .i64 k ∧ ROwn elS wr w1.heap.size o out ∧ out.length ≤ k ∧ RES = byW (fun n => opB 0 (has a n) (has b n)) (E.drop k) out ∧ Below w1.heap.size w1 wr) (fun _ i _ => E.length - (intOf i).toNat)
  case atStart => exact ⟨0, [], Nat.zero_le _, rfl, ROwn.nil _ _, Nat.le_refl _, HRES.out.symm, br _⟩
  case round =>
    obtain ⟨k, out, hk, rfl, hown, hol, hch, hbw⟩ := hrel
    have HBW := Lib.hid hbw; have HOWN := Lib.hid hown
    by_cases hlt : k + 1 < E.length
    · obtain ⟨ge, ce, hue, hgeb⟩ := own_some HOE.out (by omega)
      injection hue with e1 _ e3
      subst e1 e3
      have hcell : ∀ j (hj : j < E.length), w1.cell? ⟨ge, j, none⟩ = some (.int .i64 E[j]) := fun j hj => by
        obtain ⟨a9, c9, e9, k1, k2, k3⟩ := HOE.out.rd
        obtain ⟨b9, o9, e10, k4, k5⟩ := k3 (by omega)
        injection e9 with e11 _ _
        rw [e10] at e11
        injection e11 with e11
        injection e11 with e12 e13
        subst e12 e13
        have := eI_at k5 j hj
        rw [Nat.zero_add] at this
        exact this
      have hgl : ge < w1.heap.size := World.block_lt_of_cell? w1 _ (hcell 0 (by omega))
      have d0 := (hbw.cell (p := ⟨ge, k, none⟩) hgl).trans (hcell k (by omega))
      have d1 := (hbw.cell (p := ⟨ge, k + 1, none⟩) hgl).trans (hcell (k + 1) hlt)
      rw [byW_at _ E k hlt] at hch
      have i0 : (0 : Int) ≤ (k : Int) := by omega
      have i1 : (k : Int) < (E.length : Int) := by omega
      have i2 : (k : Int) + 1 < (E.length : Int) := by omega
      have i3 : (0 : Int) ≤ (k : Int) + 1 := by omega
      have HC0 := Lib.hid (hcell k (by omega)); have HC1 := Lib.hid (hcell (k + 1) hlt)
      have HAR := Lib.hid (HA1.out.below hbw); have HBR := Lib.hid (HB1.out.below hbw)
      clear hcell hown hbw HOE HA1 HB1 HRES
      generalize E[k] = x0 at *
      generalize E[k + 1] = y0 at *
      have HDA := Lib.hid (fun n => HD1.out x0 (wr.drewN n) (HAR.out.below (bn (br wr) n)))
      have HDB := Lib.hid (fun n => HD2.out x0 (wr.drewN n) (HBR.out.below (bn (br wr) n)))
      clear HD1 HD2 HAR HBR
      have hWd : (fun n => opB 0 (has a n) (has b n)) x0 = opB 0 (has a x0) (has b x0) := rfl
      cases hx : has a x0 <;> rw [hx] at HDA hWd
      · cases hy : has b x0 <;> rw [hy] at HDB hWd
        · have hW : (fun n => opB 0 (has a n) (has b n)) x0 = false := by rw [hWd]; rfl
          clear hWd hx hy
          have HCH : RowKit.Hid (RES = byW (fun n => opB 0 (has a n) (has b n)) (E.drop (k + 1)) out) := Lib.hid (by rw [hch, byStep_no _ _ _ _ hW])
          clear hch hW
          go_wp2_with fail
          go_quiet (first | (go_at_call 40; with_reducible exact qz (HDA.out _)) | (go_at_call 40; with_reducible exact qz (HDB.out _)) | fail)
          go_wp2
          go_roundw
          case rel => exact ⟨k + 1, _, by omega, by go_num, HOWN.out.next (bn (br wr) _), by omega, HCH.out, bn HBW.out _⟩
          case measure => simp [intOf]; omega
        · have hW : (fun n => opB 0 (has a n) (has b n)) x0 = true := by rw [hWd]; rfl
          clear hWd hx hy
          go_wp2_with fail
          go_quiet (first | (go_at_call 40; with_reducible exact qz (HDA.out _)) | (go_at_call 40; with_reducible exact qz (HDB.out _)) | fail)
          have ho2 := HOWN.out.next (bn (br wr) nq)
          have hl2 : Below w1.heap.size w1 (wr.drewN nq) := bn HBW.out nq
          obtain ⟨W2, hW2⟩ : ∃ W2, wr.drewN nq = W2 := ⟨_, rfl⟩
          rw [hW2] at ho2 hl2 ⊢
          have HO2 := Lib.hid ho2; have HL2 := Lib.hid hl2
          clear hW2 ho2 hl2 d0 d1
          have d0 := (HL2.out.cell (p := ⟨ge, k, none⟩) hgl).trans HC0.out
          have d1 := (HL2.out.cell (p := ⟨ge, k + 1, none⟩) hgl).trans HC1.out
          rcases Nat.eq_zero_or_pos out.length with hz | hpos
          · have hout : out = [] := List.eq_nil_of_length_eq_zero hz
            subst hout
            have HCH : RowKit.Hid (RES = byW (fun n => opB 0 (has a n) (has b n)) (E.drop (k + 1)) ([] ++ [(x0, y0)])) := Lib.hid (by rw [hch, byStep_app _ _ _ _ hW (by simp [lastTo])])
            obtain ⟨au, cu, hu9⟩ := own_shape HO2.out
            subst hu9
            have hlz : ([] : List Sp).length = 0 := rfl
            rw [hlz]
            clear hch hW
            go_wp2_with fail
            go_quiet (fail)
            have ho3 := HO2.out.next (bn (br W2) nq)
            have hl3 : Below w1.heap.size w1 (W2.drewN nq) := bn HL2.out nq
            obtain ⟨W3, hW3⟩ : ∃ W3, W2.drewN nq = W3 := ⟨_, rfl⟩
            rw [hW3] at ho3 hl3 ⊢
            have HO3 := Lib.hid ho3; have HL3 := Lib.hid hl3
            clear hW3 ho3 hl3 d0 d1
            have d0 := (HL3.out.cell (p := ⟨ge, k, none⟩) hgl).trans HC0.out
            have d1 := (HL3.out.cell (p := ⟨ge, k + 1, none⟩) hgl).trans HC1.out
            go_wp2_with fail
            have hwk : IntKind.i64.wrap ((k : Int) + 1) = (k : Int) + 1 := IntWalk.i64_in _ (by omega)
            have e0 : W3.drew.cell? ⟨ge, k, none⟩ = some (.int .i64 x0) := d0
            have e1 : W3.drew.cell? ⟨ge, k + 1, none⟩ = some (.int .i64 y0) := d1
            have HO3d : RowKit.Hid (ROwn elS W3.drew w1.heap.size (.slice au 0 cu) []) := Lib.hid (HO3.out.next (bn (br W3) 1))
            have HL3d : RowKit.Hid (Below w1.heap.size w1 W3.drew) := Lib.hid (bn HL3.out 1)
            have h3z : w1.heap.size ≤ W3.drew.heap.size := HL3d.out.size
            go_region_held3 (fun w' => w'.cell? ⟨ge, k, none⟩ = some (.int .i64 x0) ∧ w'.cell? ⟨ge, k + 1, none⟩ = some (.int .i64 y0))
              (first | exact ⟨f0, f1⟩ | (go_split_ands; exact ⟨f0, f1⟩) | go_keep | fail)
              (first
                | ((refine stepE_app elS (by rfl) (.tmp 97) (.tmp 108) (by rfl) w1.heap.size _ [] (by rfl) (HO3d.out.next ((br W3.drew).alloc (Nat.le_refl _) _)) _ [(x0, y0)] (by rfl) (rd_lit elS [(x0, y0)] W3.drew _ _ W3.drew.heap.size rfl (by simp [maxLen])) (by show 0 + 1 ≤ _; unfold maxLen; omega) (by show (0 + 1) * 16 ≤ _; omega) (by simp; exact Nat.le_succ_of_le h3z) ?_); intro v5 w5 ho5 hb5 hf5; have hb9 : Below w1.heap.size w1 w5 := (HL3d.out.alloc h3z _).trans hb5; have f0 := (hb9.cell (p := ⟨ge, k, none⟩) hgl).trans HC0.out; have f1 := (hb9.cell (p := ⟨ge, k + 1, none⟩) hgl).trans HC1.out)
                | fail)
            go_wp2
            go_roundw
            case rel => exact ⟨k + 1, _, by omega, by go_num, ho5, by show 0 + 1 ≤ _; omega, HCH.out, hb9⟩
            case measure => simp [intOf]; omega
          · obtain ⟨m, hm⟩ : ∃ m, out.length = m + 1 := ⟨out.length - 1, by omega⟩
            obtain ⟨gg, cc, hu, hgb⟩ := own_some HO2.out hpos
            subst hu
            have hlast := lastTo_get out m hm
            have hcel : W2.cell? ⟨gg, m * 2 + 1, none⟩ = some (.int .i64 (out[m]'(by omega)).2) := by
              obtain ⟨a9, c9, e9, k1, k2, k3⟩ := HO2.out.rd
              obtain ⟨b9, o9, e10, k4, k5⟩ := k3 hpos
              injection e9 with e11 _ _
              rw [e10] at e11
              injection e11 with e11
              injection e11 with e12 e13
              subst e12 e13
              have := (eS_at k5 m (by omega)).2
              rw [Nat.zero_add] at this
              exact this
            have hfz := HO2.out.frozenAt (m * 2 + 1)
            have im0 : (0 : Int) ≤ (m : Int) := by omega
            have im1 : (m : Int) < (m : Int) + 1 := by omega
            have imp : (0 : Int) < (m : Int) + 1 := by omega
            generalize hz2 : (out[m]'(by omega)).2 = z at *
            clear hz2
            by_cases hzx : z = x0
            · have HCH : RowKit.Hid (RES = byW (fun n => opB 0 (has a n) (has b n)) (E.drop (k + 1)) (setTo out y0)) := Lib.hid (by rw [hch, byStep_set _ _ _ _ hW (by rw [hlast, hzx])])
              have hnn : (z == x0) = true := by simp [hzx]
              have HOS : RowKit.Hid (∀ W, ROwn elS W w1.heap.size (.slice (some ⟨gg, 0, none⟩) out.length cc) out → ROwn elS (W.setCell ⟨gg, m * 2 + 1, none⟩ (.int .i64 y0)) w1.heap.size (.slice (some ⟨gg, 0, none⟩) (m + 1) cc) (setTo out y0)) := Lib.hid (fun W h => by
                have := (own_setTo h (by omega) y0).1
                rw [hm, Nat.add_sub_cancel] at this
                exact this)
              have HL5 : RowKit.Hid ((setTo out y0).length ≤ k + 1) := Lib.hid (by rw [setTo_len]; omega)
              clear hch hW hlast
              rw [hm]
              go_wp2_with fail
              go_quiet (fail)
              go_wp2
              go_roundw
              case rel => exact ⟨k + 1, _, by omega, by go_num, HOS.out _ (HO2.out.next (bn (br W2) _)), HL5.out, HCH.out, (bn HL2.out _).setCell (p := ⟨gg, m * 2 + 1, none⟩) hgb _⟩
              case measure => simp [intOf]; omega
            · have HCH : RowKit.Hid (RES = byW (fun n => opB 0 (has a n) (has b n)) (E.drop (k + 1)) (out ++ [(x0, y0)])) := Lib.hid (by rw [hch, byStep_app _ _ _ _ hW (by rw [hlast]; intro h9; injection h9 with h9; exact hzx h9)])
              have hnn : (z == x0) = false := by simp [hzx]
              clear hch hW hlast
              rw [hm]
              go_wp2_with fail
              go_quiet (fail)
              rw [hm] at HO2
              have ho3 := HO2.out.next (bn (br W2) nq)
              have hl3 : Below w1.heap.size w1 (W2.drewN nq) := bn HL2.out nq
              obtain ⟨W3, hW3⟩ : ∃ W3, W2.drewN nq = W3 := ⟨_, rfl⟩
              rw [hW3] at ho3 hl3 ⊢
              have HO3 := Lib.hid ho3; have HL3 := Lib.hid hl3
              clear hW3 ho3 hl3 d0 d1
              have d0 := (HL3.out.cell (p := ⟨ge, k, none⟩) hgl).trans HC0.out
              have d1 := (HL3.out.cell (p := ⟨ge, k + 1, none⟩) hgl).trans HC1.out
              go_wp2_with fail
              have hwk : IntKind.i64.wrap ((k : Int) + 1) = (k : Int) + 1 := IntWalk.i64_in _ (by omega)
              have e0 : W3.drew.cell? ⟨ge, k, none⟩ = some (.int .i64 x0) := d0
              have e1 : W3.drew.cell? ⟨ge, k + 1, none⟩ = some (.int .i64 y0) := d1
              have HO3d : RowKit.Hid (ROwn elS W3.drew w1.heap.size (.slice (some ⟨gg, 0, none⟩) (m + 1) cc) out) := Lib.hid (HO3.out.next (bn (br W3) 1))
              have HL3d : RowKit.Hid (Below w1.heap.size w1 W3.drew) := Lib.hid (bn HL3.out 1)
              have h3z : w1.heap.size ≤ W3.drew.heap.size := HL3d.out.size
              go_region_held3 (fun w' => w'.cell? ⟨ge, k, none⟩ = some (.int .i64 x0) ∧ w'.cell? ⟨ge, k + 1, none⟩ = some (.int .i64 y0))
                (first | exact ⟨f0, f1⟩ | (go_split_ands; exact ⟨f0, f1⟩) | go_keep | fail)
                (first
                  | ((refine stepE_app elS (by rfl) (.tmp 97) (.tmp 108) (by rfl) w1.heap.size _ out (by rfl) (HO3d.out.next ((br W3.drew).alloc (Nat.le_refl _) _)) _ [(x0, y0)] (by rfl) (rd_lit elS [(x0, y0)] W3.drew _ _ W3.drew.heap.size rfl (by simp [maxLen])) (by show out.length + 1 ≤ _; unfold maxLen; omega) (by show (out.length + 1) * 16 ≤ _; omega) (by simp; exact Nat.le_succ_of_le h3z) ?_); intro v5 w5 ho5 hb5 hf5; have hb9 : Below w1.heap.size w1 w5 := (HL3d.out.alloc h3z _).trans hb5; have f0 := (hb9.cell (p := ⟨ge, k, none⟩) hgl).trans HC0.out; have f1 := (hb9.cell (p := ⟨ge, k + 1, none⟩) hgl).trans HC1.out)
                  | fail)
              go_wp2
              go_roundw
              case rel => exact ⟨k + 1, _, by omega, by go_num, ho5, by rw [List.length_append]; show out.length + 1 ≤ _; omega, HCH.out, hb9⟩
              case measure => simp [intOf]; omega
      · have hW : (fun n => opB 0 (has a n) (has b n)) x0 = true := by rw [hWd]; cases has b x0 <;> rfl
        clear hWd hx
        generalize has b x0 = hby at *
        go_wp2_with fail
        go_quiet (first | (go_at_call 40; with_reducible exact qz (HDA.out _)) | (go_at_call 40; with_reducible exact qz (HDB.out _)) | fail)
        have ho2 := HOWN.out.next (bn (br wr) nq)
        have hl2 : Below w1.heap.size w1 (wr.drewN nq) := bn HBW.out nq
        obtain ⟨W2, hW2⟩ : ∃ W2, wr.drewN nq = W2 := ⟨_, rfl⟩
        rw [hW2] at ho2 hl2 ⊢
        have HO2 := Lib.hid ho2; have HL2 := Lib.hid hl2
        clear hW2 ho2 hl2 d0 d1
        have d0 := (HL2.out.cell (p := ⟨ge, k, none⟩) hgl).trans HC0.out
        have d1 := (HL2.out.cell (p := ⟨ge, k + 1, none⟩) hgl).trans HC1.out
        rcases Nat.eq_zero_or_pos out.length with hz | hpos
        · have hout : out = [] := List.eq_nil_of_length_eq_zero hz
          subst hout
          have HCH : RowKit.Hid (RES = byW (fun n => opB 0 (has a n) (has b n)) (E.drop (k + 1)) ([] ++ [(x0, y0)])) := Lib.hid (by rw [hch, byStep_app _ _ _ _ hW (by simp [lastTo])])
          obtain ⟨au, cu, hu9⟩ := own_shape HO2.out
          subst hu9
          have hlz : ([] : List Sp).length = 0 := rfl
          rw [hlz]
          clear hch hW
          go_wp2_with fail
          go_quiet (fail)
          have ho3 := HO2.out.next (bn (br W2) nq)
          have hl3 : Below w1.heap.size w1 (W2.drewN nq) := bn HL2.out nq
          obtain ⟨W3, hW3⟩ : ∃ W3, W2.drewN nq = W3 := ⟨_, rfl⟩
          rw [hW3] at ho3 hl3 ⊢
          have HO3 := Lib.hid ho3; have HL3 := Lib.hid hl3
          clear hW3 ho3 hl3 d0 d1
          have d0 := (HL3.out.cell (p := ⟨ge, k, none⟩) hgl).trans HC0.out
          have d1 := (HL3.out.cell (p := ⟨ge, k + 1, none⟩) hgl).trans HC1.out
          go_wp2_with fail
          have hwk : IntKind.i64.wrap ((k : Int) + 1) = (k : Int) + 1 := IntWalk.i64_in _ (by omega)
          have e0 : W3.drew.cell? ⟨ge, k, none⟩ = some (.int .i64 x0) := d0
          have e1 : W3.drew.cell? ⟨ge, k + 1, none⟩ = some (.int .i64 y0) := d1
          have HO3d : RowKit.Hid (ROwn elS W3.drew w1.heap.size (.slice au 0 cu) []) := Lib.hid (HO3.out.next (bn (br W3) 1))
          have HL3d : RowKit.Hid (Below w1.heap.size w1 W3.drew) := Lib.hid (bn HL3.out 1)
          have h3z : w1.heap.size ≤ W3.drew.heap.size := HL3d.out.size
          go_region_held3 (fun w' => w'.cell? ⟨ge, k, none⟩ = some (.int .i64 x0) ∧ w'.cell? ⟨ge, k + 1, none⟩ = some (.int .i64 y0))
            (first | exact ⟨f0, f1⟩ | (go_split_ands; exact ⟨f0, f1⟩) | go_keep | fail)
            (first
              | ((refine stepE_app elS (by rfl) (.tmp 97) (.tmp 108) (by rfl) w1.heap.size _ [] (by rfl) (HO3d.out.next ((br W3.drew).alloc (Nat.le_refl _) _)) _ [(x0, y0)] (by rfl) (rd_lit elS [(x0, y0)] W3.drew _ _ W3.drew.heap.size rfl (by simp [maxLen])) (by show 0 + 1 ≤ _; unfold maxLen; omega) (by show (0 + 1) * 16 ≤ _; omega) (by simp; exact Nat.le_succ_of_le h3z) ?_); intro v5 w5 ho5 hb5 hf5; have hb9 : Below w1.heap.size w1 w5 := (HL3d.out.alloc h3z _).trans hb5; have f0 := (hb9.cell (p := ⟨ge, k, none⟩) hgl).trans HC0.out; have f1 := (hb9.cell (p := ⟨ge, k + 1, none⟩) hgl).trans HC1.out)
              | fail)
          go_wp2
          go_roundw
          case rel => exact ⟨k + 1, _, by omega, by go_num, ho5, by show 0 + 1 ≤ _; omega, HCH.out, hb9⟩
          case measure => simp [intOf]; omega
        · obtain ⟨m, hm⟩ : ∃ m, out.length = m + 1 := ⟨out.length - 1, by omega⟩
          obtain ⟨gg, cc, hu, hgb⟩ := own_some HO2.out hpos
          subst hu
          have hlast := lastTo_get out m hm
          have hcel : W2.cell? ⟨gg, m * 2 + 1, none⟩ = some (.int .i64 (out[m]'(by omega)).2) := by
            obtain ⟨a9, c9, e9, k1, k2, k3⟩ := HO2.out.rd
            obtain ⟨b9, o9, e10, k4, k5⟩ := k3 hpos
            injection e9 with e11 _ _
            rw [e10] at e11
            injection e11 with e11
            injection e11 with e12 e13
            subst e12 e13
            have := (eS_at k5 m (by omega)).2
            rw [Nat.zero_add] at this
            exact this
          have hfz := HO2.out.frozenAt (m * 2 + 1)
          have im0 : (0 : Int) ≤ (m : Int) := by omega
          have im1 : (m : Int) < (m : Int) + 1 := by omega
          have imp : (0 : Int) < (m : Int) + 1 := by omega
          generalize hz2 : (out[m]'(by omega)).2 = z at *
          clear hz2
          by_cases hzx : z = x0
          · have HCH : RowKit.Hid (RES = byW (fun n => opB 0 (has a n) (has b n)) (E.drop (k + 1)) (setTo out y0)) := Lib.hid (by rw [hch, byStep_set _ _ _ _ hW (by rw [hlast, hzx])])
            have hnn : (z == x0) = true := by simp [hzx]
            have HOS : RowKit.Hid (∀ W, ROwn elS W w1.heap.size (.slice (some ⟨gg, 0, none⟩) out.length cc) out → ROwn elS (W.setCell ⟨gg, m * 2 + 1, none⟩ (.int .i64 y0)) w1.heap.size (.slice (some ⟨gg, 0, none⟩) (m + 1) cc) (setTo out y0)) := Lib.hid (fun W h => by
              have := (own_setTo h (by omega) y0).1
              rw [hm, Nat.add_sub_cancel] at this
              exact this)
            have HL5 : RowKit.Hid ((setTo out y0).length ≤ k + 1) := Lib.hid (by rw [setTo_len]; omega)
            clear hch hW hlast
            rw [hm]
            go_wp2_with fail
            go_quiet (fail)
            go_wp2
            go_roundw
            case rel => exact ⟨k + 1, _, by omega, by go_num, HOS.out _ (HO2.out.next (bn (br W2) _)), HL5.out, HCH.out, (bn HL2.out _).setCell (p := ⟨gg, m * 2 + 1, none⟩) hgb _⟩
            case measure => simp [intOf]; omega
          · have HCH : RowKit.Hid (RES = byW (fun n => opB 0 (has a n) (has b n)) (E.drop (k + 1)) (out ++ [(x0, y0)])) := Lib.hid (by rw [hch, byStep_app _ _ _ _ hW (by rw [hlast]; intro h9; injection h9 with h9; exact hzx h9)])
            have hnn : (z == x0) = false := by simp [hzx]
            clear hch hW hlast
            rw [hm]
            go_wp2_with fail
            go_quiet (fail)
            rw [hm] at HO2
            have ho3 := HO2.out.next (bn (br W2) nq)
            have hl3 : Below w1.heap.size w1 (W2.drewN nq) := bn HL2.out nq
            obtain ⟨W3, hW3⟩ : ∃ W3, W2.drewN nq = W3 := ⟨_, rfl⟩
            rw [hW3] at ho3 hl3 ⊢
            have HO3 := Lib.hid ho3; have HL3 := Lib.hid hl3
            clear hW3 ho3 hl3 d0 d1
            have d0 := (HL3.out.cell (p := ⟨ge, k, none⟩) hgl).trans HC0.out
            have d1 := (HL3.out.cell (p := ⟨ge, k + 1, none⟩) hgl).trans HC1.out
            go_wp2_with fail
            have hwk : IntKind.i64.wrap ((k : Int) + 1) = (k : Int) + 1 := IntWalk.i64_in _ (by omega)
            have e0 : W3.drew.cell? ⟨ge, k, none⟩ = some (.int .i64 x0) := d0
            have e1 : W3.drew.cell? ⟨ge, k + 1, none⟩ = some (.int .i64 y0) := d1
            have HO3d : RowKit.Hid (ROwn elS W3.drew w1.heap.size (.slice (some ⟨gg, 0, none⟩) (m + 1) cc) out) := Lib.hid (HO3.out.next (bn (br W3) 1))
            have HL3d : RowKit.Hid (Below w1.heap.size w1 W3.drew) := Lib.hid (bn HL3.out 1)
            have h3z : w1.heap.size ≤ W3.drew.heap.size := HL3d.out.size
            go_region_held3 (fun w' => w'.cell? ⟨ge, k, none⟩ = some (.int .i64 x0) ∧ w'.cell? ⟨ge, k + 1, none⟩ = some (.int .i64 y0))
              (first | exact ⟨f0, f1⟩ | (go_split_ands; exact ⟨f0, f1⟩) | go_keep | fail)
              (first
                | ((refine stepE_app elS (by rfl) (.tmp 97) (.tmp 108) (by rfl) w1.heap.size _ out (by rfl) (HO3d.out.next ((br W3.drew).alloc (Nat.le_refl _) _)) _ [(x0, y0)] (by rfl) (rd_lit elS [(x0, y0)] W3.drew _ _ W3.drew.heap.size rfl (by simp [maxLen])) (by show out.length + 1 ≤ _; unfold maxLen; omega) (by show (out.length + 1) * 16 ≤ _; omega) (by simp; exact Nat.le_succ_of_le h3z) ?_); intro v5 w5 ho5 hb5 hf5; have hb9 : Below w1.heap.size w1 w5 := (HL3d.out.alloc h3z _).trans hb5; have f0 := (hb9.cell (p := ⟨ge, k, none⟩) hgl).trans HC0.out; have f1 := (hb9.cell (p := ⟨ge, k + 1, none⟩) hgl).trans HC1.out)
                | fail)
            go_wp2
            go_roundw
            case rel => exact ⟨k + 1, _, by omega, by go_num, ho5, by rw [List.length_append]; show out.length + 1 ≤ _; omega, HCH.out, hb9⟩
            case measure => simp [intOf]; omega
    · rw [byW_end _ E k (by omega)] at hch
      have HCH := Lib.hid hch
      have j1 : ¬ (k : Int) + 1 < (E.length : Int) := by omega
      have hwk : IntKind.i64.wrap ((k : Int) + 1) = (k : Int) + 1 := IntWalk.i64_in _ (by omega)
      have hdc : decide ((k : Int) + 1 < (E.length : Int)) = false := decide_eq_false j1
      clear hch hown hbw
      go_wp2
      go_ret
      exact ⟨_, rfl, by rw [HCH.out]; exact HOWN.out.base HBW1.out.size, HBW1.out.trans (HBW.out.mono HBW1.out.size)⟩
set_option maxRecDepth 100000 in
set_option maxHeartbeats 16000000 in
theorem by1_any (va vb : Value) (a b : List Sp) (w : World) (ha : RdE elS w va a) (hb : RdE elS w vb b) (hla : a.length ≤ 64) (hlb : b.length ≤ 64) : Calls Try.prog 55 #[va, vb, .int .i64 1] w fun e w' => ∃ u, e = .returned u ∧ ROwn elS w' w.heap.size u (byL 1 a b) ∧ Below w.heap.size w w' := by
  have HA := Lib.hid ha; have HB := Lib.hid hb
  obtain ⟨aa, ca, rfl, _, _, _⟩ := ha
  obtain ⟨ab, cb, rfl, _, _, _⟩ := hb
  have EN := Lib.hid (fun v w' h => ends_any v (a ++ b) w' h (by rw [List.length_append]; omega))
  have HD1 := Lib.hid (fun n w' h => hasDay_q (.slice aa a.length ca) a n w' h)
  have HD2 := Lib.hid (fun n w' h => hasDay_q (.slice ab b.length cb) b n w' h)
  obtain ⟨RES, hRES⟩ : ∃ RES, byL 1 a b = RES := ⟨_, rfl⟩
  rw [hRES]
  unfold byL at hRES
  have hX := ends_len (a ++ b)
  rw [List.length_append] at hX
  generalize hE : endsL (a ++ b) = E at *
  have HRES := Lib.hid hRES
  have hx2 : E.length ≤ 256 := by omega
  clear hE hRES hX
  go_enter Try.func55, Try.ntmps55
  go_wp2_with (first
    | (at_builtin; refine appE elS rfl (.tmp 14) (.tmp 15) rfl w.heap.size _ [] rfl (ROwn.lit0 w w.heap.size w.heap.size rfl (Nat.le_refl _)) _ a rfl (HA.out.below ((br w).alloc (Nat.le_refl _) _)) (by show 0 + a.length ≤ _; unfold maxLen; omega) (by show (0 + a.length) * 16 ≤ _; omega) (by simp) ?_; intro v5 w5 ho5 hb5 hf5; have HO5 := Lib.hid ho5; have HB5 := Lib.hid (((br w).alloc (Nat.le_refl _) (.cells #[] 51)).trans hb5); clear ho5 hb5 hf5)
    | (at_builtin; refine appE elS rfl (.tmp 16) (.tmp 17) rfl w.heap.size _ ([] ++ a) rfl HO5.out _ b rfl (HB.out.below HB5.out) (by show a.length + b.length ≤ _; unfold maxLen; omega) (by show (a.length + b.length) * 16 ≤ _; omega) HB5.out.size ?_; intro v6 w6 ho6 hb6 hf6; have HO6 := Lib.hid ho6; have HB6 := Lib.hid (HB5.out.trans hb6); clear ho6 hb6 hf6))
  refine (EN.out _ _ HO6.out.rd).mono ?_
  rintro en w1 ⟨v1, rfl, ho1, hb1⟩
  have HBW1 := Lib.hid (HB6.out.trans (hb1.mono HB6.out.size))
  obtain ⟨aE, cE, hv1⟩ := own_shape ho1
  subst hv1
  obtain ⟨_, _, _, _, _, g3⟩ := id ho1.rd
  have HOE := Lib.hid ho1
  have HA1 := Lib.hid (HA.out.below HBW1.out); have HB1 := Lib.hid (HB.out.below HBW1.out)
  clear ho1 hb1 HO5 HB5 HO6 HB6 EN HA HB g3
  go_wp2
  go_loopw [8, 9] (fun o i wr => ∃ (k : Nat) (out : List Sp), k ≤ E.length ∧ i = .int .i64 k ∧ ROwn elS wr w1.heap.size o out ∧ out.length ≤ k ∧ RES = byW (fun n => opB 1 (has a n) (has b n)) (E.drop k) out ∧ Below w1.heap.size w1 wr) (fun _ i _ => E.length - (intOf i).toNat)
  case atStart => exact ⟨0, [], Nat.zero_le _, rfl, ROwn.nil _ _, Nat.le_refl _, HRES.out.symm, br _⟩
  case round =>
    obtain ⟨k, out, hk, rfl, hown, hol, hch, hbw⟩ := hrel
    have HBW := Lib.hid hbw; have HOWN := Lib.hid hown
    by_cases hlt : k + 1 < E.length
    · obtain ⟨ge, ce, hue, hgeb⟩ := own_some HOE.out (by omega)
      injection hue with e1 _ e3
      subst e1 e3
      have hcell : ∀ j (hj : j < E.length), w1.cell? ⟨ge, j, none⟩ = some (.int .i64 E[j]) := fun j hj => by
        obtain ⟨a9, c9, e9, k1, k2, k3⟩ := HOE.out.rd
        obtain ⟨b9, o9, e10, k4, k5⟩ := k3 (by omega)
        injection e9 with e11 _ _
        rw [e10] at e11
        injection e11 with e11
        injection e11 with e12 e13
        subst e12 e13
        have := eI_at k5 j hj
        rw [Nat.zero_add] at this
        exact this
      have hgl : ge < w1.heap.size := World.block_lt_of_cell? w1 _ (hcell 0 (by omega))
      have d0 := (hbw.cell (p := ⟨ge, k, none⟩) hgl).trans (hcell k (by omega))
      have d1 := (hbw.cell (p := ⟨ge, k + 1, none⟩) hgl).trans (hcell (k + 1) hlt)
      rw [byW_at _ E k hlt] at hch
      have i0 : (0 : Int) ≤ (k : Int) := by omega
      have i1 : (k : Int) < (E.length : Int) := by omega
      have i2 : (k : Int) + 1 < (E.length : Int) := by omega
      have i3 : (0 : Int) ≤ (k : Int) + 1 := by omega
      have HC0 := Lib.hid (hcell k (by omega)); have HC1 := Lib.hid (hcell (k + 1) hlt)
      have HAR := Lib.hid (HA1.out.below hbw); have HBR := Lib.hid (HB1.out.below hbw)
      clear hcell hown hbw HOE HA1 HB1 HRES
      generalize E[k] = x0 at *
      generalize E[k + 1] = y0 at *
      have HDA := Lib.hid (fun n => HD1.out x0 (wr.drewN n) (HAR.out.below (bn (br wr) n)))
      have HDB := Lib.hid (fun n => HD2.out x0 (wr.drewN n) (HBR.out.below (bn (br wr) n)))
      clear HD1 HD2 HAR HBR
      have hWd : (fun n => opB 1 (has a n) (has b n)) x0 = opB 1 (has a x0) (has b x0) := rfl
      cases hx : has a x0 <;> rw [hx] at HDA hWd
      · have hW : (fun n => opB 1 (has a n) (has b n)) x0 = false := by rw [hWd]; cases has b x0 <;> rfl
        clear hWd hx
        generalize has b x0 = hby at *
        have HCH : RowKit.Hid (RES = byW (fun n => opB 1 (has a n) (has b n)) (E.drop (k + 1)) out) := Lib.hid (by rw [hch, byStep_no _ _ _ _ hW])
        clear hch hW
        go_wp2_with fail
        go_quiet (first | (go_at_call 40; with_reducible exact qz (HDA.out _)) | (go_at_call 40; with_reducible exact qz (HDB.out _)) | fail)
        go_wp2
        go_roundw
        case rel => exact ⟨k + 1, _, by omega, by go_num, HOWN.out.next (bn (br wr) _), by omega, HCH.out, bn HBW.out _⟩
        case measure => simp [intOf]; omega
      · cases hy : has b x0 <;> rw [hy] at HDB hWd
        · have hW : (fun n => opB 1 (has a n) (has b n)) x0 = false := by rw [hWd]; rfl
          clear hWd hx hy
          have HCH : RowKit.Hid (RES = byW (fun n => opB 1 (has a n) (has b n)) (E.drop (k + 1)) out) := Lib.hid (by rw [hch, byStep_no _ _ _ _ hW])
          clear hch hW
          go_wp2_with fail
          go_quiet (first | (go_at_call 40; with_reducible exact qz (HDA.out _)) | (go_at_call 40; with_reducible exact qz (HDB.out _)) | fail)
          go_wp2
          go_roundw
          case rel => exact ⟨k + 1, _, by omega, by go_num, HOWN.out.next (bn (br wr) _), by omega, HCH.out, bn HBW.out _⟩
          case measure => simp [intOf]; omega
        · have hW : (fun n => opB 1 (has a n) (has b n)) x0 = true := by rw [hWd]; rfl
          clear hWd hx hy
          go_wp2_with fail
          go_quiet (first | (go_at_call 40; with_reducible exact qz (HDA.out _)) | (go_at_call 40; with_reducible exact qz (HDB.out _)) | fail)
          have ho2 := HOWN.out.next (bn (br wr) nq)
          have hl2 : Below w1.heap.size w1 (wr.drewN nq) := bn HBW.out nq
          obtain ⟨W2, hW2⟩ : ∃ W2, wr.drewN nq = W2 := ⟨_, rfl⟩
          rw [hW2] at ho2 hl2 ⊢
          have HO2 := Lib.hid ho2; have HL2 := Lib.hid hl2
          clear hW2 ho2 hl2 d0 d1
          have d0 := (HL2.out.cell (p := ⟨ge, k, none⟩) hgl).trans HC0.out
          have d1 := (HL2.out.cell (p := ⟨ge, k + 1, none⟩) hgl).trans HC1.out
          rcases Nat.eq_zero_or_pos out.length with hz | hpos
          · have hout : out = [] := List.eq_nil_of_length_eq_zero hz
            subst hout
            have HCH : RowKit.Hid (RES = byW (fun n => opB 1 (has a n) (has b n)) (E.drop (k + 1)) ([] ++ [(x0, y0)])) := Lib.hid (by rw [hch, byStep_app _ _ _ _ hW (by simp [lastTo])])
            obtain ⟨au, cu, hu9⟩ := own_shape HO2.out
            subst hu9
            have hlz : ([] : List Sp).length = 0 := rfl
            rw [hlz]
            clear hch hW
            go_wp2_with fail
            go_quiet (fail)
            have ho3 := HO2.out.next (bn (br W2) nq)
            have hl3 : Below w1.heap.size w1 (W2.drewN nq) := bn HL2.out nq
            obtain ⟨W3, hW3⟩ : ∃ W3, W2.drewN nq = W3 := ⟨_, rfl⟩
            rw [hW3] at ho3 hl3 ⊢
            have HO3 := Lib.hid ho3; have HL3 := Lib.hid hl3
            clear hW3 ho3 hl3 d0 d1
            have d0 := (HL3.out.cell (p := ⟨ge, k, none⟩) hgl).trans HC0.out
            have d1 := (HL3.out.cell (p := ⟨ge, k + 1, none⟩) hgl).trans HC1.out
            go_wp2_with fail
            have hwk : IntKind.i64.wrap ((k : Int) + 1) = (k : Int) + 1 := IntWalk.i64_in _ (by omega)
            have e0 : W3.drew.cell? ⟨ge, k, none⟩ = some (.int .i64 x0) := d0
            have e1 : W3.drew.cell? ⟨ge, k + 1, none⟩ = some (.int .i64 y0) := d1
            have HO3d : RowKit.Hid (ROwn elS W3.drew w1.heap.size (.slice au 0 cu) []) := Lib.hid (HO3.out.next (bn (br W3) 1))
            have HL3d : RowKit.Hid (Below w1.heap.size w1 W3.drew) := Lib.hid (bn HL3.out 1)
            have h3z : w1.heap.size ≤ W3.drew.heap.size := HL3d.out.size
            go_region_held3 (fun w' => w'.cell? ⟨ge, k, none⟩ = some (.int .i64 x0) ∧ w'.cell? ⟨ge, k + 1, none⟩ = some (.int .i64 y0))
              (first | exact ⟨f0, f1⟩ | (go_split_ands; exact ⟨f0, f1⟩) | go_keep | fail)
              (first
                | ((refine stepE_app elS (by rfl) (.tmp 97) (.tmp 108) (by rfl) w1.heap.size _ [] (by rfl) (HO3d.out.next ((br W3.drew).alloc (Nat.le_refl _) _)) _ [(x0, y0)] (by rfl) (rd_lit elS [(x0, y0)] W3.drew _ _ W3.drew.heap.size rfl (by simp [maxLen])) (by show 0 + 1 ≤ _; unfold maxLen; omega) (by show (0 + 1) * 16 ≤ _; omega) (by simp; exact Nat.le_succ_of_le h3z) ?_); intro v5 w5 ho5 hb5 hf5; have hb9 : Below w1.heap.size w1 w5 := (HL3d.out.alloc h3z _).trans hb5; have f0 := (hb9.cell (p := ⟨ge, k, none⟩) hgl).trans HC0.out; have f1 := (hb9.cell (p := ⟨ge, k + 1, none⟩) hgl).trans HC1.out)
                | fail)
            go_wp2
            go_roundw
            case rel => exact ⟨k + 1, _, by omega, by go_num, ho5, by show 0 + 1 ≤ _; omega, HCH.out, hb9⟩
            case measure => simp [intOf]; omega
          · obtain ⟨m, hm⟩ : ∃ m, out.length = m + 1 := ⟨out.length - 1, by omega⟩
            obtain ⟨gg, cc, hu, hgb⟩ := own_some HO2.out hpos
            subst hu
            have hlast := lastTo_get out m hm
            have hcel : W2.cell? ⟨gg, m * 2 + 1, none⟩ = some (.int .i64 (out[m]'(by omega)).2) := by
              obtain ⟨a9, c9, e9, k1, k2, k3⟩ := HO2.out.rd
              obtain ⟨b9, o9, e10, k4, k5⟩ := k3 hpos
              injection e9 with e11 _ _
              rw [e10] at e11
              injection e11 with e11
              injection e11 with e12 e13
              subst e12 e13
              have := (eS_at k5 m (by omega)).2
              rw [Nat.zero_add] at this
              exact this
            have hfz := HO2.out.frozenAt (m * 2 + 1)
            have im0 : (0 : Int) ≤ (m : Int) := by omega
            have im1 : (m : Int) < (m : Int) + 1 := by omega
            have imp : (0 : Int) < (m : Int) + 1 := by omega
            generalize hz2 : (out[m]'(by omega)).2 = z at *
            clear hz2
            by_cases hzx : z = x0
            · have HCH : RowKit.Hid (RES = byW (fun n => opB 1 (has a n) (has b n)) (E.drop (k + 1)) (setTo out y0)) := Lib.hid (by rw [hch, byStep_set _ _ _ _ hW (by rw [hlast, hzx])])
              have hnn : (z == x0) = true := by simp [hzx]
              have HOS : RowKit.Hid (∀ W, ROwn elS W w1.heap.size (.slice (some ⟨gg, 0, none⟩) out.length cc) out → ROwn elS (W.setCell ⟨gg, m * 2 + 1, none⟩ (.int .i64 y0)) w1.heap.size (.slice (some ⟨gg, 0, none⟩) (m + 1) cc) (setTo out y0)) := Lib.hid (fun W h => by
                have := (own_setTo h (by omega) y0).1
                rw [hm, Nat.add_sub_cancel] at this
                exact this)
              have HL5 : RowKit.Hid ((setTo out y0).length ≤ k + 1) := Lib.hid (by rw [setTo_len]; omega)
              clear hch hW hlast
              rw [hm]
              go_wp2_with fail
              go_quiet (fail)
              go_wp2
              go_roundw
              case rel => exact ⟨k + 1, _, by omega, by go_num, HOS.out _ (HO2.out.next (bn (br W2) _)), HL5.out, HCH.out, (bn HL2.out _).setCell (p := ⟨gg, m * 2 + 1, none⟩) hgb _⟩
              case measure => simp [intOf]; omega
            · have HCH : RowKit.Hid (RES = byW (fun n => opB 1 (has a n) (has b n)) (E.drop (k + 1)) (out ++ [(x0, y0)])) := Lib.hid (by rw [hch, byStep_app _ _ _ _ hW (by rw [hlast]; intro h9; injection h9 with h9; exact hzx h9)])
              have hnn : (z == x0) = false := by simp [hzx]
              clear hch hW hlast
              rw [hm]
              go_wp2_with fail
              go_quiet (fail)
              rw [hm] at HO2
              have ho3 := HO2.out.next (bn (br W2) nq)
              have hl3 : Below w1.heap.size w1 (W2.drewN nq) := bn HL2.out nq
              obtain ⟨W3, hW3⟩ : ∃ W3, W2.drewN nq = W3 := ⟨_, rfl⟩
              rw [hW3] at ho3 hl3 ⊢
              have HO3 := Lib.hid ho3; have HL3 := Lib.hid hl3
              clear hW3 ho3 hl3 d0 d1
              have d0 := (HL3.out.cell (p := ⟨ge, k, none⟩) hgl).trans HC0.out
              have d1 := (HL3.out.cell (p := ⟨ge, k + 1, none⟩) hgl).trans HC1.out
              go_wp2_with fail
              have hwk : IntKind.i64.wrap ((k : Int) + 1) = (k : Int) + 1 := IntWalk.i64_in _ (by omega)
              have e0 : W3.drew.cell? ⟨ge, k, none⟩ = some (.int .i64 x0) := d0
              have e1 : W3.drew.cell? ⟨ge, k + 1, none⟩ = some (.int .i64 y0) := d1
              have HO3d : RowKit.Hid (ROwn elS W3.drew w1.heap.size (.slice (some ⟨gg, 0, none⟩) (m + 1) cc) out) := Lib.hid (HO3.out.next (bn (br W3) 1))
              have HL3d : RowKit.Hid (Below w1.heap.size w1 W3.drew) := Lib.hid (bn HL3.out 1)
              have h3z : w1.heap.size ≤ W3.drew.heap.size := HL3d.out.size
              go_region_held3 (fun w' => w'.cell? ⟨ge, k, none⟩ = some (.int .i64 x0) ∧ w'.cell? ⟨ge, k + 1, none⟩ = some (.int .i64 y0))
                (first | exact ⟨f0, f1⟩ | (go_split_ands; exact ⟨f0, f1⟩) | go_keep | fail)
                (first
                  | ((refine stepE_app elS (by rfl) (.tmp 97) (.tmp 108) (by rfl) w1.heap.size _ out (by rfl) (HO3d.out.next ((br W3.drew).alloc (Nat.le_refl _) _)) _ [(x0, y0)] (by rfl) (rd_lit elS [(x0, y0)] W3.drew _ _ W3.drew.heap.size rfl (by simp [maxLen])) (by show out.length + 1 ≤ _; unfold maxLen; omega) (by show (out.length + 1) * 16 ≤ _; omega) (by simp; exact Nat.le_succ_of_le h3z) ?_); intro v5 w5 ho5 hb5 hf5; have hb9 : Below w1.heap.size w1 w5 := (HL3d.out.alloc h3z _).trans hb5; have f0 := (hb9.cell (p := ⟨ge, k, none⟩) hgl).trans HC0.out; have f1 := (hb9.cell (p := ⟨ge, k + 1, none⟩) hgl).trans HC1.out)
                  | fail)
              go_wp2
              go_roundw
              case rel => exact ⟨k + 1, _, by omega, by go_num, ho5, by rw [List.length_append]; show out.length + 1 ≤ _; omega, HCH.out, hb9⟩
              case measure => simp [intOf]; omega
    · rw [byW_end _ E k (by omega)] at hch
      have HCH := Lib.hid hch
      have j1 : ¬ (k : Int) + 1 < (E.length : Int) := by omega
      have hwk : IntKind.i64.wrap ((k : Int) + 1) = (k : Int) + 1 := IntWalk.i64_in _ (by omega)
      have hdc : decide ((k : Int) + 1 < (E.length : Int)) = false := decide_eq_false j1
      clear hch hown hbw
      go_wp2
      go_ret
      exact ⟨_, rfl, by rw [HCH.out]; exact HOWN.out.base HBW1.out.size, HBW1.out.trans (HBW.out.mono HBW1.out.size)⟩
set_option maxRecDepth 100000 in
set_option maxHeartbeats 16000000 in
theorem by2_any (va vb : Value) (a b : List Sp) (w : World) (ha : RdE elS w va a) (hb : RdE elS w vb b) (hla : a.length ≤ 64) (hlb : b.length ≤ 64) : Calls Try.prog 55 #[va, vb, .int .i64 2] w fun e w' => ∃ u, e = .returned u ∧ ROwn elS w' w.heap.size u (byL 2 a b) ∧ Below w.heap.size w w' := by
  have HA := Lib.hid ha; have HB := Lib.hid hb
  obtain ⟨aa, ca, rfl, _, _, _⟩ := ha
  obtain ⟨ab, cb, rfl, _, _, _⟩ := hb
  have EN := Lib.hid (fun v w' h => ends_any v (a ++ b) w' h (by rw [List.length_append]; omega))
  have HD1 := Lib.hid (fun n w' h => hasDay_q (.slice aa a.length ca) a n w' h)
  have HD2 := Lib.hid (fun n w' h => hasDay_q (.slice ab b.length cb) b n w' h)
  obtain ⟨RES, hRES⟩ : ∃ RES, byL 2 a b = RES := ⟨_, rfl⟩
  rw [hRES]
  unfold byL at hRES
  have hX := ends_len (a ++ b)
  rw [List.length_append] at hX
  generalize hE : endsL (a ++ b) = E at *
  have HRES := Lib.hid hRES
  have hx2 : E.length ≤ 256 := by omega
  clear hE hRES hX
  go_enter Try.func55, Try.ntmps55
  go_wp2_with (first
    | (at_builtin; refine appE elS rfl (.tmp 14) (.tmp 15) rfl w.heap.size _ [] rfl (ROwn.lit0 w w.heap.size w.heap.size rfl (Nat.le_refl _)) _ a rfl (HA.out.below ((br w).alloc (Nat.le_refl _) _)) (by show 0 + a.length ≤ _; unfold maxLen; omega) (by show (0 + a.length) * 16 ≤ _; omega) (by simp) ?_; intro v5 w5 ho5 hb5 hf5; have HO5 := Lib.hid ho5; have HB5 := Lib.hid (((br w).alloc (Nat.le_refl _) (.cells #[] 51)).trans hb5); clear ho5 hb5 hf5)
    | (at_builtin; refine appE elS rfl (.tmp 16) (.tmp 17) rfl w.heap.size _ ([] ++ a) rfl HO5.out _ b rfl (HB.out.below HB5.out) (by show a.length + b.length ≤ _; unfold maxLen; omega) (by show (a.length + b.length) * 16 ≤ _; omega) HB5.out.size ?_; intro v6 w6 ho6 hb6 hf6; have HO6 := Lib.hid ho6; have HB6 := Lib.hid (HB5.out.trans hb6); clear ho6 hb6 hf6))
  refine (EN.out _ _ HO6.out.rd).mono ?_
  rintro en w1 ⟨v1, rfl, ho1, hb1⟩
  have HBW1 := Lib.hid (HB6.out.trans (hb1.mono HB6.out.size))
  obtain ⟨aE, cE, hv1⟩ := own_shape ho1
  subst hv1
  obtain ⟨_, _, _, _, _, g3⟩ := id ho1.rd
  have HOE := Lib.hid ho1
  have HA1 := Lib.hid (HA.out.below HBW1.out); have HB1 := Lib.hid (HB.out.below HBW1.out)
  clear ho1 hb1 HO5 HB5 HO6 HB6 EN HA HB g3
  go_wp2
  go_loopw [8, 9] (fun o i wr => ∃ (k : Nat) (out : List Sp), k ≤ E.length ∧ i = .int .i64 k ∧ ROwn elS wr w1.heap.size o out ∧ out.length ≤ k ∧ RES = byW (fun n => opB 2 (has a n) (has b n)) (E.drop k) out ∧ Below w1.heap.size w1 wr) (fun _ i _ => E.length - (intOf i).toNat)
  case atStart => exact ⟨0, [], Nat.zero_le _, rfl, ROwn.nil _ _, Nat.le_refl _, HRES.out.symm, br _⟩
  case round =>
    obtain ⟨k, out, hk, rfl, hown, hol, hch, hbw⟩ := hrel
    have HBW := Lib.hid hbw; have HOWN := Lib.hid hown
    by_cases hlt : k + 1 < E.length
    · obtain ⟨ge, ce, hue, hgeb⟩ := own_some HOE.out (by omega)
      injection hue with e1 _ e3
      subst e1 e3
      have hcell : ∀ j (hj : j < E.length), w1.cell? ⟨ge, j, none⟩ = some (.int .i64 E[j]) := fun j hj => by
        obtain ⟨a9, c9, e9, k1, k2, k3⟩ := HOE.out.rd
        obtain ⟨b9, o9, e10, k4, k5⟩ := k3 (by omega)
        injection e9 with e11 _ _
        rw [e10] at e11
        injection e11 with e11
        injection e11 with e12 e13
        subst e12 e13
        have := eI_at k5 j hj
        rw [Nat.zero_add] at this
        exact this
      have hgl : ge < w1.heap.size := World.block_lt_of_cell? w1 _ (hcell 0 (by omega))
      have d0 := (hbw.cell (p := ⟨ge, k, none⟩) hgl).trans (hcell k (by omega))
      have d1 := (hbw.cell (p := ⟨ge, k + 1, none⟩) hgl).trans (hcell (k + 1) hlt)
      rw [byW_at _ E k hlt] at hch
      have i0 : (0 : Int) ≤ (k : Int) := by omega
      have i1 : (k : Int) < (E.length : Int) := by omega
      have i2 : (k : Int) + 1 < (E.length : Int) := by omega
      have i3 : (0 : Int) ≤ (k : Int) + 1 := by omega
      have HC0 := Lib.hid (hcell k (by omega)); have HC1 := Lib.hid (hcell (k + 1) hlt)
      have HAR := Lib.hid (HA1.out.below hbw); have HBR := Lib.hid (HB1.out.below hbw)
      clear hcell hown hbw HOE HA1 HB1 HRES
      generalize E[k] = x0 at *
      generalize E[k + 1] = y0 at *
      have HDA := Lib.hid (fun n => HD1.out x0 (wr.drewN n) (HAR.out.below (bn (br wr) n)))
      have HDB := Lib.hid (fun n => HD2.out x0 (wr.drewN n) (HBR.out.below (bn (br wr) n)))
      clear HD1 HD2 HAR HBR
      have hWd : (fun n => opB 2 (has a n) (has b n)) x0 = opB 2 (has a x0) (has b x0) := rfl
      cases hx : has a x0 <;> rw [hx] at HDA hWd
      · have hW : (fun n => opB 2 (has a n) (has b n)) x0 = false := by rw [hWd]; cases has b x0 <;> rfl
        clear hWd hx
        generalize has b x0 = hby at *
        have HCH : RowKit.Hid (RES = byW (fun n => opB 2 (has a n) (has b n)) (E.drop (k + 1)) out) := Lib.hid (by rw [hch, byStep_no _ _ _ _ hW])
        clear hch hW
        go_wp2_with fail
        go_quiet (first | (go_at_call 40; with_reducible exact qz (HDA.out _)) | (go_at_call 40; with_reducible exact qz (HDB.out _)) | fail)
        go_wp2
        go_roundw
        case rel => exact ⟨k + 1, _, by omega, by go_num, HOWN.out.next (bn (br wr) _), by omega, HCH.out, bn HBW.out _⟩
        case measure => simp [intOf]; omega
      · cases hy : has b x0 <;> rw [hy] at HDB hWd
        · have hW : (fun n => opB 2 (has a n) (has b n)) x0 = true := by rw [hWd]; rfl
          clear hWd hx hy
          go_wp2_with fail
          go_quiet (first | (go_at_call 40; with_reducible exact qz (HDA.out _)) | (go_at_call 40; with_reducible exact qz (HDB.out _)) | fail)
          have ho2 := HOWN.out.next (bn (br wr) nq)
          have hl2 : Below w1.heap.size w1 (wr.drewN nq) := bn HBW.out nq
          obtain ⟨W2, hW2⟩ : ∃ W2, wr.drewN nq = W2 := ⟨_, rfl⟩
          rw [hW2] at ho2 hl2 ⊢
          have HO2 := Lib.hid ho2; have HL2 := Lib.hid hl2
          clear hW2 ho2 hl2 d0 d1
          have d0 := (HL2.out.cell (p := ⟨ge, k, none⟩) hgl).trans HC0.out
          have d1 := (HL2.out.cell (p := ⟨ge, k + 1, none⟩) hgl).trans HC1.out
          rcases Nat.eq_zero_or_pos out.length with hz | hpos
          · have hout : out = [] := List.eq_nil_of_length_eq_zero hz
            subst hout
            have HCH : RowKit.Hid (RES = byW (fun n => opB 2 (has a n) (has b n)) (E.drop (k + 1)) ([] ++ [(x0, y0)])) := Lib.hid (by rw [hch, byStep_app _ _ _ _ hW (by simp [lastTo])])
            obtain ⟨au, cu, hu9⟩ := own_shape HO2.out
            subst hu9
            have hlz : ([] : List Sp).length = 0 := rfl
            rw [hlz]
            clear hch hW
            go_wp2_with fail
            go_quiet (fail)
            have ho3 := HO2.out.next (bn (br W2) nq)
            have hl3 : Below w1.heap.size w1 (W2.drewN nq) := bn HL2.out nq
            obtain ⟨W3, hW3⟩ : ∃ W3, W2.drewN nq = W3 := ⟨_, rfl⟩
            rw [hW3] at ho3 hl3 ⊢
            have HO3 := Lib.hid ho3; have HL3 := Lib.hid hl3
            clear hW3 ho3 hl3 d0 d1
            have d0 := (HL3.out.cell (p := ⟨ge, k, none⟩) hgl).trans HC0.out
            have d1 := (HL3.out.cell (p := ⟨ge, k + 1, none⟩) hgl).trans HC1.out
            go_wp2_with fail
            have hwk : IntKind.i64.wrap ((k : Int) + 1) = (k : Int) + 1 := IntWalk.i64_in _ (by omega)
            have e0 : W3.drew.cell? ⟨ge, k, none⟩ = some (.int .i64 x0) := d0
            have e1 : W3.drew.cell? ⟨ge, k + 1, none⟩ = some (.int .i64 y0) := d1
            have HO3d : RowKit.Hid (ROwn elS W3.drew w1.heap.size (.slice au 0 cu) []) := Lib.hid (HO3.out.next (bn (br W3) 1))
            have HL3d : RowKit.Hid (Below w1.heap.size w1 W3.drew) := Lib.hid (bn HL3.out 1)
            have h3z : w1.heap.size ≤ W3.drew.heap.size := HL3d.out.size
            go_region_held3 (fun w' => w'.cell? ⟨ge, k, none⟩ = some (.int .i64 x0) ∧ w'.cell? ⟨ge, k + 1, none⟩ = some (.int .i64 y0))
              (first | exact ⟨f0, f1⟩ | (go_split_ands; exact ⟨f0, f1⟩) | go_keep | fail)
              (first
                | ((refine stepE_app elS (by rfl) (.tmp 97) (.tmp 108) (by rfl) w1.heap.size _ [] (by rfl) (HO3d.out.next ((br W3.drew).alloc (Nat.le_refl _) _)) _ [(x0, y0)] (by rfl) (rd_lit elS [(x0, y0)] W3.drew _ _ W3.drew.heap.size rfl (by simp [maxLen])) (by show 0 + 1 ≤ _; unfold maxLen; omega) (by show (0 + 1) * 16 ≤ _; omega) (by simp; exact Nat.le_succ_of_le h3z) ?_); intro v5 w5 ho5 hb5 hf5; have hb9 : Below w1.heap.size w1 w5 := (HL3d.out.alloc h3z _).trans hb5; have f0 := (hb9.cell (p := ⟨ge, k, none⟩) hgl).trans HC0.out; have f1 := (hb9.cell (p := ⟨ge, k + 1, none⟩) hgl).trans HC1.out)
                | fail)
            go_wp2
            go_roundw
            case rel => exact ⟨k + 1, _, by omega, by go_num, ho5, by show 0 + 1 ≤ _; omega, HCH.out, hb9⟩
            case measure => simp [intOf]; omega
          · obtain ⟨m, hm⟩ : ∃ m, out.length = m + 1 := ⟨out.length - 1, by omega⟩
            obtain ⟨gg, cc, hu, hgb⟩ := own_some HO2.out hpos
            subst hu
            have hlast := lastTo_get out m hm
            have hcel : W2.cell? ⟨gg, m * 2 + 1, none⟩ = some (.int .i64 (out[m]'(by omega)).2) := by
              obtain ⟨a9, c9, e9, k1, k2, k3⟩ := HO2.out.rd
              obtain ⟨b9, o9, e10, k4, k5⟩ := k3 hpos
              injection e9 with e11 _ _
              rw [e10] at e11
              injection e11 with e11
              injection e11 with e12 e13
              subst e12 e13
              have := (eS_at k5 m (by omega)).2
              rw [Nat.zero_add] at this
              exact this
            have hfz := HO2.out.frozenAt (m * 2 + 1)
            have im0 : (0 : Int) ≤ (m : Int) := by omega
            have im1 : (m : Int) < (m : Int) + 1 := by omega
            have imp : (0 : Int) < (m : Int) + 1 := by omega
            generalize hz2 : (out[m]'(by omega)).2 = z at *
            clear hz2
            by_cases hzx : z = x0
            · have HCH : RowKit.Hid (RES = byW (fun n => opB 2 (has a n) (has b n)) (E.drop (k + 1)) (setTo out y0)) := Lib.hid (by rw [hch, byStep_set _ _ _ _ hW (by rw [hlast, hzx])])
              have hnn : (z == x0) = true := by simp [hzx]
              have HOS : RowKit.Hid (∀ W, ROwn elS W w1.heap.size (.slice (some ⟨gg, 0, none⟩) out.length cc) out → ROwn elS (W.setCell ⟨gg, m * 2 + 1, none⟩ (.int .i64 y0)) w1.heap.size (.slice (some ⟨gg, 0, none⟩) (m + 1) cc) (setTo out y0)) := Lib.hid (fun W h => by
                have := (own_setTo h (by omega) y0).1
                rw [hm, Nat.add_sub_cancel] at this
                exact this)
              have HL5 : RowKit.Hid ((setTo out y0).length ≤ k + 1) := Lib.hid (by rw [setTo_len]; omega)
              clear hch hW hlast
              rw [hm]
              go_wp2_with fail
              go_quiet (fail)
              go_wp2
              go_roundw
              case rel => exact ⟨k + 1, _, by omega, by go_num, HOS.out _ (HO2.out.next (bn (br W2) _)), HL5.out, HCH.out, (bn HL2.out _).setCell (p := ⟨gg, m * 2 + 1, none⟩) hgb _⟩
              case measure => simp [intOf]; omega
            · have HCH : RowKit.Hid (RES = byW (fun n => opB 2 (has a n) (has b n)) (E.drop (k + 1)) (out ++ [(x0, y0)])) := Lib.hid (by rw [hch, byStep_app _ _ _ _ hW (by rw [hlast]; intro h9; injection h9 with h9; exact hzx h9)])
              have hnn : (z == x0) = false := by simp [hzx]
              clear hch hW hlast
              rw [hm]
              go_wp2_with fail
              go_quiet (fail)
              rw [hm] at HO2
              have ho3 := HO2.out.next (bn (br W2) nq)
              have hl3 : Below w1.heap.size w1 (W2.drewN nq) := bn HL2.out nq
              obtain ⟨W3, hW3⟩ : ∃ W3, W2.drewN nq = W3 := ⟨_, rfl⟩
              rw [hW3] at ho3 hl3 ⊢
              have HO3 := Lib.hid ho3; have HL3 := Lib.hid hl3
              clear hW3 ho3 hl3 d0 d1
              have d0 := (HL3.out.cell (p := ⟨ge, k, none⟩) hgl).trans HC0.out
              have d1 := (HL3.out.cell (p := ⟨ge, k + 1, none⟩) hgl).trans HC1.out
              go_wp2_with fail
              have hwk : IntKind.i64.wrap ((k : Int) + 1) = (k : Int) + 1 := IntWalk.i64_in _ (by omega)
              have e0 : W3.drew.cell? ⟨ge, k, none⟩ = some (.int .i64 x0) := d0
              have e1 : W3.drew.cell? ⟨ge, k + 1, none⟩ = some (.int .i64 y0) := d1
              have HO3d : RowKit.Hid (ROwn elS W3.drew w1.heap.size (.slice (some ⟨gg, 0, none⟩) (m + 1) cc) out) := Lib.hid (HO3.out.next (bn (br W3) 1))
              have HL3d : RowKit.Hid (Below w1.heap.size w1 W3.drew) := Lib.hid (bn HL3.out 1)
              have h3z : w1.heap.size ≤ W3.drew.heap.size := HL3d.out.size
              go_region_held3 (fun w' => w'.cell? ⟨ge, k, none⟩ = some (.int .i64 x0) ∧ w'.cell? ⟨ge, k + 1, none⟩ = some (.int .i64 y0))
                (first | exact ⟨f0, f1⟩ | (go_split_ands; exact ⟨f0, f1⟩) | go_keep | fail)
                (first
                  | ((refine stepE_app elS (by rfl) (.tmp 97) (.tmp 108) (by rfl) w1.heap.size _ out (by rfl) (HO3d.out.next ((br W3.drew).alloc (Nat.le_refl _) _)) _ [(x0, y0)] (by rfl) (rd_lit elS [(x0, y0)] W3.drew _ _ W3.drew.heap.size rfl (by simp [maxLen])) (by show out.length + 1 ≤ _; unfold maxLen; omega) (by show (out.length + 1) * 16 ≤ _; omega) (by simp; exact Nat.le_succ_of_le h3z) ?_); intro v5 w5 ho5 hb5 hf5; have hb9 : Below w1.heap.size w1 w5 := (HL3d.out.alloc h3z _).trans hb5; have f0 := (hb9.cell (p := ⟨ge, k, none⟩) hgl).trans HC0.out; have f1 := (hb9.cell (p := ⟨ge, k + 1, none⟩) hgl).trans HC1.out)
                  | fail)
              go_wp2
              go_roundw
              case rel => exact ⟨k + 1, _, by omega, by go_num, ho5, by rw [List.length_append]; show out.length + 1 ≤ _; omega, HCH.out, hb9⟩
              case measure => simp [intOf]; omega
        · have hW : (fun n => opB 2 (has a n) (has b n)) x0 = false := by rw [hWd]; rfl
          clear hWd hx hy
          have HCH : RowKit.Hid (RES = byW (fun n => opB 2 (has a n) (has b n)) (E.drop (k + 1)) out) := Lib.hid (by rw [hch, byStep_no _ _ _ _ hW])
          clear hch hW
          go_wp2_with fail
          go_quiet (first | (go_at_call 40; with_reducible exact qz (HDA.out _)) | (go_at_call 40; with_reducible exact qz (HDB.out _)) | fail)
          go_wp2
          go_roundw
          case rel => exact ⟨k + 1, _, by omega, by go_num, HOWN.out.next (bn (br wr) _), by omega, HCH.out, bn HBW.out _⟩
          case measure => simp [intOf]; omega
    · rw [byW_end _ E k (by omega)] at hch
      have HCH := Lib.hid hch
      have j1 : ¬ (k : Int) + 1 < (E.length : Int) := by omega
      have hwk : IntKind.i64.wrap ((k : Int) + 1) = (k : Int) + 1 := IntWalk.i64_in _ (by omega)
      have hdc : decide ((k : Int) + 1 < (E.length : Int)) = false := decide_eq_false j1
      clear hch hown hbw
      go_wp2
      go_ret
      exact ⟨_, rfl, by rw [HCH.out]; exact HOWN.out.base HBW1.out.size, HBW1.out.trans (HBW.out.mono HBW1.out.size)⟩
end Sn
end Go.Proofs.Ytcgncmlldjblmaa
