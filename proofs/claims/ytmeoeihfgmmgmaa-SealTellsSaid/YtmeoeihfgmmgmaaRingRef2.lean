/- The document's functions on rings: a key is added, an epoch is dropped. -/
import Derived.Test.YtmeoeihfgmmgmaaRingLaws2
set_option linter.unusedVariables false
namespace Go.Proofs.Ytmeoeihfgmmgmaa
open Go.RowKit
namespace Rg
open Tg
set_option maxHeartbeats 2000000 in
theorem addR_any (v : Value) (xs : List Ep) (a b : W64) (w : World) (h : Rd 3 eE w v xs) : Calls Try.prog 10 #[v, aKey a b] w (RingQ (addF xs (a, b)) w) := by
  have H := Lib.hid h
  have hck := checkR_any v xs
  have HCK := Lib.hid hck; clear hck
  obtain ⟨ad, cap, rfl, h1, h2, h3⟩ := h
  have H3 := Lib.hid h3; clear h3
  unfold aKey
  rcases add_cases xs (a, b) with ⟨hc, hF⟩ | ⟨hc, hl, hor, hF⟩ | ⟨hc, hl, hne, hF⟩
  · have HF := Lib.hid hF; have hb : (chk xs != 0) = true := by simp [hc]
    generalize chk xs = C at *
    clear hF
    go_enter Try.func10, Try.ntmps10
    go_wp2_with fail
    refine (HCK.out _ (H.out.below ((br w).alloc (Nat.le_refl _) _))).mono ?_
    rintro en w1 ⟨rfl, hb1⟩
    go_wp2
    go_ret2
    exact ⟨_, by rw [HF.out]; rfl, by rw [HF.out]; exact Rd.nil _, bt ((br w).alloc (Nat.le_refl _) _) hb1⟩
  · have HF := Lib.hid hF
    have hbd := last_bd hc
    rw [hc] at HCK
    clear hF hc
    rcases (show xs.length = 0 ∨ ∃ n, xs.length = n + 1 by rcases hx : xs.length with _ | n; exact .inl rfl; exact .inr ⟨n, rfl⟩) with hn | ⟨n, hn⟩
    · exfalso
      have hx : xs = [] := List.eq_nil_of_length_eq_zero hn
      subst hx
      rcases hor with h | h
      · simp at h
      · simp [lastNo] at h
    · have hlast := last_no xs n hn
      obtain ⟨g, off, rfl, hbl, hcc⟩ := H3.out (by omega)
      have q0 := (eE_at hcc n (by omega)).1
      rw [← hlast] at q0
      generalize lastNo xs = L at *
      have hi : (xs.length : Int) - 1 = (n : Int) := by omega
      have hn0 : (0 : Int) ≤ (n : Int) := by omega
      have hn1 : (n : Int) < (xs.length : Int) := by omega
      have hpos : (0 : Int) < (xs.length : Int) := by omega
      clear hcc hlast hbd
      have hor2 : (xs.length : Int) = 8 ∨ (xs.length ≠ 8 ∧ L = 255) := by omega
      clear hn hor
      rcases hor2 with h8 | ⟨h8, h255⟩
      case' inl => have e8 : ((xs.length : Int) == 8) = true := by simp [h8]
                   clear h8
      case' inr => have e8 : ((xs.length : Int) == 8) = false := by simp; omega
      all_goals
        go_enter Try.func10, Try.ntmps10
        go_wp2_with fail
        refine (HCK.out _ (H.out.below ((br w).alloc (Nat.le_refl _) _))).mono ?_
        rintro en w1 ⟨rfl, hb1⟩
        have HB1 : Below w.heap.size w w1 := bt ((br w).alloc (Nat.le_refl _) _) hb1
        have c0 := (HB1.cell (p := ⟨g, off + n * 3, none⟩) hbl).trans q0
        clear hb1
        go_wp2
        go_ret2
        have hr := HF.out
        unfold RingQ
        rw [hr]
        exact ⟨.slice none 0 0, rfl, Rd.nil _, HB1⟩
  · have HF := Lib.hid hF
    have hbd := last_bd hc
    rw [hc] at HCK
    clear hF hc
    have e8 : ((xs.length : Int) == 8) = false := by simp; omega
    rcases (show xs.length = 0 ∨ ∃ n, xs.length = n + 1 by rcases hx : xs.length with _ | n; exact .inl rfl; exact .inr ⟨n, rfl⟩) with hn | ⟨n, hn⟩
    · have hL : lastNo xs = 0 := by rw [List.eq_nil_of_length_eq_zero hn]; rfl
      rw [hL] at HF
      have hwk : IntKind.i64.wrap (0 + 1) = 1 := by decide
      have hz : ¬ (0 : Int) < (xs.length : Int) := by omega
      have HN := Lib.hid hn
      clear H3 hbd hne hL hn
      go_enter Try.func10, Try.ntmps10
      go_wp2_with fail
      refine (HCK.out _ (H.out.below ((br w).alloc (Nat.le_refl _) _))).mono ?_
      rintro en w1 ⟨rfl, hb1⟩
      have HB1 : Below w.heap.size w w1 := bt ((br w).alloc (Nat.le_refl _) _) hb1
      have k0 : w1.cell? ⟨w.heap.size, 0, none⟩ = some (.int .u64 (wi a)) := boxc (bx hb1) 0
      have k1 : w1.cell? ⟨w.heap.size, 1, none⟩ = some (.int .u64 (wi b)) := boxc (bx hb1) 1
      clear hb1
      go_wp2_with fail
      have HB1' := Lib.hid HB1
      have hl9 : (xs.length + 1) * 24 ≤ 140737488355328 := by omega
      have R1 := Lib.hid (H.out.below HB1)
      have K0 := Lib.hid k0; have K1 := Lib.hid k1
      go_region_held3 (fun w' => w'.cell? ⟨w.heap.size, 0, none⟩ = some (.int .u64 (wi a)) ∧ w'.cell? ⟨w.heap.size, 1, none⟩ = some (.int .u64 (wi b)))
        (first | go_keep | (go_split_ands; exact ⟨kp hfB2 k0, kp hfB2 k1⟩) | (go_split_ands; exact ⟨kp hfB1 k0, kp hfB1 k1⟩))
        (first
          | ((refine step_app (by rfl) (.tmp 30) (.tmp 31) (by rfl) w1.heap.size _ [] (by rfl) (own0 w1 _ w1.heap.size rfl (Nat.le_refl _)).drew _ xs (by rfl) (R1.out.below (bn ((br w1).alloc (Nat.le_refl _) _) 1)) (by simp; omega) (by simp) ?_; intro v1 w5 hown1 hbel1 hfar1; have hfB1 : Below w1.heap.size w1 w5 := (bn ((br w1).alloc (Nat.le_refl _) _) 1).trans hbel1; have hown1 : OwnE w5 w1.heap.size v1 xs := hown1))
          | ((refine step_app (by rfl) (.tmp 30) (.tmp 31) (by rfl) w1.heap.size _ [] (by rfl) ((own0 w1 _ w1.heap.size rfl (Nat.le_refl _)).alloc _).drew _ xs (by rfl) (R1.out.below (bn (((br w1).alloc (Nat.le_refl _) _).alloc (by simp) _) 1)) (by simp; omega) (by simp; omega) ?_; intro v1 w5 hown1 hbel1 hfar1; have hfB1 : Below w1.heap.size w1 w5 := (bn (((br w1).alloc (Nat.le_refl _) _).alloc (by simp) _) 1).trans hbel1; have hown1 : OwnE w5 w1.heap.size v1 xs := hown1; have hrd := Lib.hid (far_rd _ hbel1 hfar1 (w1.heap.size + 1) (rd_dr (rd1a _ (1) a b _ (w1.heap.size + 1) (by simp))) (by simp [Value.ownBlock]))))
          | ((refine step_app (by rfl) (.tmp 30) (.tmp 31) (by rfl) w1.heap.size _ [] (by rfl) (own0 (w1.alloc _) _ (w1.heap.size + 1) (by simp) (by omega)).drew _ xs (by rfl) (R1.out.below (bn (((br w1).alloc (Nat.le_refl _) _).alloc (by simp) _) 1)) (by simp; omega) (by simp; omega) ?_; intro v1 w5 hown1 hbel1 hfar1; have hfB1 : Below w1.heap.size w1 w5 := (bn (((br w1).alloc (Nat.le_refl _) _).alloc (by simp) _) 1).trans hbel1; have hown1 : OwnE w5 w1.heap.size v1 xs := hown1; have hrd := Lib.hid (far_rd _ hbel1 hfar1 w1.heap.size (rd_dr ((rd1a w1 (1) a b _ w1.heap.size rfl).below ((br _).alloc (Nat.le_refl _) _))) (by simp [Value.ownBlock]))))
          | ((refine step_app (by rfl) (.tmp 32) (.tmp 37) (by rfl) w1.heap.size _ xs (by rfl) hown1 _ [(1, a, b)] (by rfl) hrd.out (by simp; omega) hfB1.size ?_; intro v2 w5' hown2 hbel2 hfar2; have hfB2 : Below w1.heap.size w1 w5' := hfB1.trans hbel2))
          | ((refine step_app (by rfl) (.tmp 32) (.tmp 37) (by rfl) w1.heap.size _ xs (by rfl) (hown1.alloc _) _ [(1, a, b)] (by rfl) (rd1a w5 (1) a b _ w5.heap.size rfl) (by simp; omega) (by have := hfB1.size; simp; omega) ?_; intro v2 w5' hown2 hbel2 hfar2; have hfB2 : Below w1.heap.size w1 w5' := (hfB1.alloc hfB1.size _).trans hbel2))
          | fail)
      all_goals
        have hr := HF.out
        go_wp2
        go_ret2
        unfold RingQ
        rw [hr]
        exact ⟨_, rfl, hown2.rd, bt HB1'.out hfB2⟩
    · have hlast := last_no xs n hn
      obtain ⟨g, off, rfl, hbl, hcc⟩ := H3.out (by omega)
      have q0 := (eE_at hcc n (by omega)).1
      rw [← hlast] at q0
      generalize lastNo xs = L at *
      have hi : (xs.length : Int) - 1 = (n : Int) := by omega
      have hn0 : (0 : Int) ≤ (n : Int) := by omega
      have hn1 : (n : Int) < (xs.length : Int) := by omega
      have hpos : (0 : Int) < (xs.length : Int) := by omega
      have e255 : (L == 255) = false := by simp [hne]
      have hwk : IntKind.i64.wrap (L + 1) = L + 1 := IntWalk.i64_in _ (by omega)
      have HN := Lib.hid hn
      clear hcc hlast hn
      go_enter Try.func10, Try.ntmps10
      go_wp2_with fail
      refine (HCK.out _ (H.out.below ((br w).alloc (Nat.le_refl _) _))).mono ?_
      rintro en w1 ⟨rfl, hb1⟩
      have HB1 : Below w.heap.size w w1 := bt ((br w).alloc (Nat.le_refl _) _) hb1
      have k0 : w1.cell? ⟨w.heap.size, 0, none⟩ = some (.int .u64 (wi a)) := boxc (bx hb1) 0
      have k1 : w1.cell? ⟨w.heap.size, 1, none⟩ = some (.int .u64 (wi b)) := boxc (bx hb1) 1
      have c0 := (HB1.cell (p := ⟨g, off + n * 3, none⟩) hbl).trans q0
      clear q0 hb1
      go_wp2_with fail
      have HB1' := Lib.hid HB1
      have hl9 : (xs.length + 1) * 24 ≤ 140737488355328 := by omega
      have R1 := Lib.hid (H.out.below HB1)
      have K0 := Lib.hid k0; have K1 := Lib.hid k1
      go_region_held3 (fun w' => w'.cell? ⟨w.heap.size, 0, none⟩ = some (.int .u64 (wi a)) ∧ w'.cell? ⟨w.heap.size, 1, none⟩ = some (.int .u64 (wi b)))
        (first | go_keep | (go_split_ands; exact ⟨kp hfB2 k0, kp hfB2 k1⟩) | (go_split_ands; exact ⟨kp hfB1 k0, kp hfB1 k1⟩))
        (first
          | ((refine step_app (by rfl) (.tmp 30) (.tmp 31) (by rfl) w1.heap.size _ [] (by rfl) (own0 w1 _ w1.heap.size rfl (Nat.le_refl _)).drew _ xs (by rfl) (R1.out.below (bn ((br w1).alloc (Nat.le_refl _) _) 1)) (by simp; omega) (by simp) ?_; intro v1 w5 hown1 hbel1 hfar1; have hfB1 : Below w1.heap.size w1 w5 := (bn ((br w1).alloc (Nat.le_refl _) _) 1).trans hbel1; have hown1 : OwnE w5 w1.heap.size v1 xs := hown1))
          | ((refine step_app (by rfl) (.tmp 30) (.tmp 31) (by rfl) w1.heap.size _ [] (by rfl) ((own0 w1 _ w1.heap.size rfl (Nat.le_refl _)).alloc _).drew _ xs (by rfl) (R1.out.below (bn (((br w1).alloc (Nat.le_refl _) _).alloc (by simp) _) 1)) (by simp; omega) (by simp; omega) ?_; intro v1 w5 hown1 hbel1 hfar1; have hfB1 : Below w1.heap.size w1 w5 := (bn (((br w1).alloc (Nat.le_refl _) _).alloc (by simp) _) 1).trans hbel1; have hown1 : OwnE w5 w1.heap.size v1 xs := hown1; have hrd := Lib.hid (far_rd _ hbel1 hfar1 (w1.heap.size + 1) (rd_dr (rd1a _ (L + 1) a b _ (w1.heap.size + 1) (by simp))) (by simp [Value.ownBlock]))))
          | ((refine step_app (by rfl) (.tmp 30) (.tmp 31) (by rfl) w1.heap.size _ [] (by rfl) (own0 (w1.alloc _) _ (w1.heap.size + 1) (by simp) (by omega)).drew _ xs (by rfl) (R1.out.below (bn (((br w1).alloc (Nat.le_refl _) _).alloc (by simp) _) 1)) (by simp; omega) (by simp; omega) ?_; intro v1 w5 hown1 hbel1 hfar1; have hfB1 : Below w1.heap.size w1 w5 := (bn (((br w1).alloc (Nat.le_refl _) _).alloc (by simp) _) 1).trans hbel1; have hown1 : OwnE w5 w1.heap.size v1 xs := hown1; have hrd := Lib.hid (far_rd _ hbel1 hfar1 w1.heap.size (rd_dr ((rd1a w1 (L + 1) a b _ w1.heap.size rfl).below ((br _).alloc (Nat.le_refl _) _))) (by simp [Value.ownBlock]))))
          | ((refine step_app (by rfl) (.tmp 32) (.tmp 37) (by rfl) w1.heap.size _ xs (by rfl) hown1 _ [(L + 1, a, b)] (by rfl) hrd.out (by simp; omega) hfB1.size ?_; intro v2 w5' hown2 hbel2 hfar2; have hfB2 : Below w1.heap.size w1 w5' := hfB1.trans hbel2))
          | ((refine step_app (by rfl) (.tmp 32) (.tmp 37) (by rfl) w1.heap.size _ xs (by rfl) (hown1.alloc _) _ [(L + 1, a, b)] (by rfl) (rd1a w5 (L + 1) a b _ w5.heap.size rfl) (by simp; omega) (by have := hfB1.size; simp; omega) ?_; intro v2 w5' hown2 hbel2 hfar2; have hfB2 : Below w1.heap.size w1 w5' := (hfB1.alloc hfB1.size _).trans hbel2))
          | fail)
      all_goals
        have hr := HF.out
        go_wp2
        go_ret2
        unfold RingQ
        rw [hr]
        exact ⟨_, rfl, hown2.rd, bt HB1'.out hfB2⟩
def goneF (no : Int) (l : List Ep) : List Ep := l.filter (fun x => x.1 ≠ no)
theorem gone_hit (no : Int) (l : List Ep) (x : Ep) (h : x.1 = no) : goneF no (l ++ [x]) = goneF no l := by
  unfold goneF; rw [List.filter_append, List.filter_cons_of_neg (by simp [h])]; simp
theorem gone_miss (no : Int) (l : List Ep) (x : Ep) (h : x.1 ≠ no) : goneF no (l ++ [x]) = goneF no l ++ [x] := by
  unfold goneF; rw [List.filter_append, List.filter_cons_of_pos (by simp [h])]; simp
set_option maxHeartbeats 2000000 in
theorem dropR_any (v : Value) (xs : List Ep) (no : Int) (w : World) (h : Rd 3 eE w v xs) : Calls Try.prog 11 #[v, .int .i64 no] w (RingQ (dropF xs no) w) := by
  have H := Lib.hid h
  have hck := checkR_any v xs
  have HCK := Lib.hid hck; clear hck
  have hK := key_any v xs no
  have hle := h.len_le
  obtain ⟨ad, cap, rfl, h1, h2, h3⟩ := h
  rcases drop_cases xs no with ⟨hc, hF⟩ | ⟨hc, ha, hF⟩ | ⟨hc, hl, ha, hF⟩
  · have HF := Lib.hid hF; have hb : (chk xs != 0) = true := by simp [hc]
    generalize chk xs = C at *
    clear hF hK h3
    go_enter Try.func11, Try.ntmps11
    go_wp2_with fail
    refine (HCK.out _ H.out).mono ?_
    rintro en w1 ⟨rfl, hb1⟩
    go_wp2
    go_ret2
    exact ⟨_, by rw [HF.out]; rfl, by rw [HF.out]; exact Rd.nil _, hb1⟩
  · have HF := Lib.hid hF
    have hk : keyF no xs = ((0, 0), false) := by unfold keyF; rw [ha, List.getElem?_eq_none (Nat.le_refl _)]
    rw [hk] at hK
    unfold KeyQ aKey at hK
    have HK := Lib.hid hK
    rw [hc] at HCK
    clear hF hc hK hk ha h3
    go_enter Try.func11, Try.ntmps11
    go_wp2_with fail
    refine (HCK.out _ H.out).mono ?_
    rintro en w1 ⟨rfl, hb1⟩
    go_wp2_with fail
    refine (HK.out _ (H.out.below hb1)).mono ?_
    rintro en w2 ⟨rfl, hb2⟩
    go_wp2
    go_ret2
    exact ⟨_, by rw [HF.out]; rfl, by rw [HF.out]; exact Rd.nil _, by first | exact bt hb1 hb2 | exact (bt hb1 hb2).alloc (bt hb1 hb2).size _⟩
  · obtain ⟨_, _, hp⟩ := chk_spec hc
    have hfl : xs.eraseIdx (atN no xs) = goneF no xs := drop_filter no xs hp ha
    rw [hfl] at hF
    have HF := Lib.hid hF
    obtain ⟨⟨ka, kb⟩, hk⟩ : ∃ k, keyF no xs = (k, true) := ⟨xs[atN no xs].2, by unfold keyF; rw [List.getElem?_eq_getElem ha]⟩
    rw [hk] at hK
    unfold KeyQ aKey at hK
    have HK := Lib.hid hK
    rw [hc] at HCK
    have H3 := Lib.hid h3
    clear hF hc hK hk ha hp hfl h3
    go_enter Try.func11, Try.ntmps11
    go_wp2_with fail
    refine (HCK.out _ H.out).mono ?_
    rintro en w1 ⟨rfl, hb1⟩
    go_wp2_with fail
    refine (HK.out _ (H.out.below hb1)).mono ?_
    rintro en w2 ⟨rfl, hb2⟩
    have HB2 := Lib.hid (bt hb1 hb2)
    clear hb1 hb2
    go_wp2
    go_loopw [9, 10] (fun v i wr => ∃ k : Nat, k ≤ xs.length ∧ i = .int .i64 k ∧ OwnE wr w.heap.size v (goneF no (xs.take k)) ∧ Below w.heap.size w wr) (fun _ i _ => xs.length - (intOf i).toNat)
    case atStart => exact ⟨0, Nat.zero_le _, rfl, own_nilE _ _, HB2.out.alloc HB2.out.size _⟩
    case round =>
      obtain ⟨k, hk, rfl, hown, hbw⟩ := hrel
      have HO := Lib.hid hown; have HBW := Lib.hid hbw
      by_cases hlt : k < xs.length
      · obtain ⟨g, off, rfl, hbl, hc⟩ := H3.out (by omega)
        obtain ⟨q0, q1, q2⟩ := eE_at hc k hlt
        have d0 := (hbw.cell (p := ⟨g, off + k * 3, none⟩) hbl).trans q0
        have d1 := (hbw.cell (p := ⟨g, off + k * 3 + 1, none⟩) hbl).trans q1
        have d2 := (hbw.cell (p := ⟨g, off + k * 3 + 2, none⟩) hbl).trans q2
        have i1 : (k : Int) < (xs.length : Int) := by omega
        have i0 : (0 : Int) ≤ (k : Int) := by omega
        have htk : xs.take (k + 1) = xs.take k ++ [xs[k]] := List.take_succ_eq_append_getElem hlt
        have hll : (goneF no (xs.take k)).length ≤ 8 := Nat.le_trans (List.length_filter_le _ _) (by simp; omega)
        by_cases he : xs[k].1 = no
        · have hg := gone_hit no (xs.take k) xs[k] he
          rw [← htk] at hg
          have HG := Lib.hid hg
          rw [he] at d0
          clear hc q0 q1 q2 he hg htk hown hbw hll
          generalize wi xs[k].2.1 = ka at *; generalize wi xs[k].2.2 = kb at *
          go_wp2
          go_roundw
          case rel => exact ⟨k + 1, by omega, by go_num, by rw [HG.out]; exact HO.out, HBW.out⟩
          case measure => simp [intOf]; omega
        · have hg := gone_miss no (xs.take k) xs[k] he
          rw [← htk] at hg
          have HG := Lib.hid hg
          obtain ⟨Ys, hYs⟩ : ∃ Ys, goneF no (xs.take k) = Ys := ⟨_, rfl⟩
          rw [hYs] at HO hll HG
          obtain ⟨n1, k1, k2, hx⟩ : ∃ a b c, xs[k] = (a, b, c) := ⟨_, _, _, rfl⟩
          rw [hx] at d0 d1 d2 he HG
          simp only at d0 d1 d2 he
          clear hc q0 q1 q2 hg htk hown hbw hYs hx
          go_wp2_with (at_builtin; refine app_list rfl (.tmp 37) (.tmp 42) rfl w.heap.size _ Ys rfl (HO.out.next ((br _).alloc (Nat.le_refl _) (.cells #[.int .i64 n1, .int .u64 (wi k1), .int .u64 (wi k2)] 40))) _ [(n1, k1, k2)] rfl (rd1a wr n1 k1 k2 _ _ rfl) (by simp; omega) (by have := HBW.out.size; simp; omega) ?_; intro v1 w5 hown1 hb5 hfar5; have HO1 := Lib.hid hown1; have HB5 := Lib.hid ((HBW.out.alloc HBW.out.size _).trans hb5); clear hown1 hfar5 hb5)
          go_roundw
          case rel => exact ⟨k + 1, by omega, by go_num, by rw [HG.out]; exact HO1.out, HB5.out⟩
          case measure => simp [intOf]; omega
      · have hg : goneF no (xs.take k) = goneF no xs := by rw [List.take_of_length_le (by omega)]
        rw [hg] at HO
        have HG := Lib.hid hg
        clear hg hown hbw H3
        go_wp2
        go_ret2
        exact ⟨_, by rw [HF.out]; rfl, by rw [HF.out]; exact HO.out.rd, HBW.out⟩
end Rg
end Go.Proofs.Ytmeoeihfgmmgmaa
