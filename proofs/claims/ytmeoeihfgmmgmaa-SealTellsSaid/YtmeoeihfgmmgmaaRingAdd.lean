/- Rings: a key is added. -/
import Derived.Test.YtmeoeihfgmmgmaaRingAt
import Derived.Deep.RegionHeld3
set_option linter.unusedVariables false
namespace Go.Proofs.Ytmeoeihfgmmgmaa
open Go.RowKit
namespace Rg
open Tg
def aKey (a b : W64) : Value := .agg #[.int .u64 (wi a), .int .u64 (wi b)]
def RingQ (r : List Ep × Int) (w : World) (e : Ending) (w' : World) : Prop := ∃ v', e = .returned (.tuple #[v', .int .i64 r.2]) ∧ Rd 3 eE w' v' r.1 ∧ Below w.heap.size w w'
theorem add_cases (xs : List Ep) (k : W64 × W64) : (chk xs ≠ 0 ∧ addF xs k = ([], chk xs)) ∨ (chk xs = 0 ∧ xs.length ≤ 8 ∧ (xs.length = 8 ∨ lastNo xs = 255) ∧ addF xs k = ([], 2)) ∨ (chk xs = 0 ∧ xs.length < 8 ∧ lastNo xs ≠ 255 ∧ addF xs k = (xs ++ [(lastNo xs + 1, k)], 0)) := by
  unfold addF
  by_cases h : chk xs = 0
  · have hl : xs.length ≤ 8 := by
      unfold chk at h
      by_cases g : 8 < xs.length
      · rw [if_pos g] at h; simp at h
      · omega
    rw [if_neg (fun x => x h)]
    by_cases g : xs.length = 8 ∨ lastNo xs = 255
    · rw [if_pos g]; exact .inr (.inl ⟨h, hl, g, rfl⟩)
    · rw [if_neg g]; exact .inr (.inr ⟨h, by omega, fun x => g (.inr x), rfl⟩)
  · rw [if_pos h]; exact .inl ⟨h, rfl⟩
theorem last_no (xs : List Ep) (n : Nat) (h : xs.length = n + 1) : lastNo xs = (xs[n]'(by omega)).1 := by
  unfold lastNo
  rw [List.getLast?_eq_getElem?, List.getElem?_eq_getElem (by omega)]
  simp [h]
theorem last_bd {xs : List Ep} (h : chk xs = 0) : 0 ≤ lastNo xs ∧ lastNo xs ≤ 255 := by
  unfold chk at h
  by_cases g : 8 < xs.length
  · rw [if_pos g] at h; simp at h
  · rw [if_neg g] at h
    obtain ⟨g1, _⟩ := chkR_spec xs 0 h
    unfold lastNo
    cases hx : xs.getLast? with
    | none => simp
    | some x => have := g1 x (List.mem_of_getLast? hx); simp only; omega
set_option maxHeartbeats 2000000 in
theorem add_any (v : Value) (xs : List Ep) (a b : W64) (w : World) (h : Rd 3 eE w v xs) : Calls Try.prog 8 #[v, aKey a b] w (RingQ (addF xs (a, b)) w) := by
  have H := Lib.hid h
  have hck := check_any v xs
  have HCK := Lib.hid hck; clear hck
  obtain ⟨ad, cap, rfl, h1, h2, h3⟩ := h
  have H3 := Lib.hid h3; clear h3
  unfold aKey
  rcases add_cases xs (a, b) with ⟨hc, hF⟩ | ⟨hc, hl, hor, hF⟩ | ⟨hc, hl, hne, hF⟩
  · have HF := Lib.hid hF; have hb : (chk xs != 0) = true := by simp [hc]
    generalize chk xs = C at *
    clear hF
    go_enter Try.func8, Try.ntmps8
    go_wp2_with fail
    refine (HCK.out _ (H.out.below ((br w).alloc (Nat.le_refl _) _))).mono ?_
    rintro en w1 ⟨rfl, hb1⟩
    go_wp2
    go_ret2
    exact ⟨_, by rw [HF.out]; rfl, by rw [HF.out]; exact Rd.nil _, bt ((br w).alloc (Nat.le_refl _) _) hb1⟩
  · have HF := Lib.hid hF
    have hbd := last_bd hc
    rw [hc] at HCK
    clear hF hc
    rcases (show xs.length = 0 ∨ ∃ n, xs.length = n + 1 by rcases hx : xs.length with _ | n; exact .inl rfl; exact .inr ⟨n, rfl⟩) with hn | ⟨n, hn⟩
    · exfalso
      have hx : xs = [] := List.eq_nil_of_length_eq_zero hn
      subst hx
      rcases hor with h | h
      · simp at h
      · simp [lastNo] at h
    · have hlast := last_no xs n hn
      obtain ⟨g, off, rfl, hbl, hcc⟩ := H3.out (by omega)
      have q0 := (eE_at hcc n (by omega)).1
      rw [← hlast] at q0
      generalize lastNo xs = L at *
      have hi : (xs.length : Int) - 1 = (n : Int) := by omega
      have hn0 : (0 : Int) ≤ (n : Int) := by omega
      have hn1 : (n : Int) < (xs.length : Int) := by omega
      have hpos : (0 : Int) < (xs.length : Int) := by omega
      clear hcc hlast hbd
      have hor2 : (xs.length : Int) = 8 ∨ (xs.length ≠ 8 ∧ L = 255) := by omega
      clear hn hor
      rcases hor2 with h8 | ⟨h8, h255⟩
      case' inl => have e8 : ((xs.length : Int) == 8) = true := by simp [h8]
                   clear h8
      case' inr => have e8 : ((xs.length : Int) == 8) = false := by simp; omega
      all_goals
        go_enter Try.func8, Try.ntmps8
        go_wp2_with fail
        refine (HCK.out _ (H.out.below ((br w).alloc (Nat.le_refl _) _))).mono ?_
        rintro en w1 ⟨rfl, hb1⟩
        have HB1 : Below w.heap.size w w1 := bt ((br w).alloc (Nat.le_refl _) _) hb1
        have c0 := (HB1.cell (p := ⟨g, off + n * 3, none⟩) hbl).trans q0
        clear hb1
        go_wp2
        go_ret2
        have hr := HF.out
        unfold RingQ
        rw [hr]
        exact ⟨.slice none 0 0, rfl, Rd.nil _, HB1⟩
  · have HF := Lib.hid hF
    have hbd := last_bd hc
    rw [hc] at HCK
    clear hF hc
    have e8 : ((xs.length : Int) == 8) = false := by simp; omega
    rcases (show xs.length = 0 ∨ ∃ n, xs.length = n + 1 by rcases hx : xs.length with _ | n; exact .inl rfl; exact .inr ⟨n, rfl⟩) with hn | ⟨n, hn⟩
    · have hL : lastNo xs = 0 := by rw [List.eq_nil_of_length_eq_zero hn]; rfl
      rw [hL] at HF
      have hl8 : xs.length ≤ 8 := by omega
      have hwk : IntKind.i64.wrap (0 + 1) = 1 := by decide
      have hz : ¬ (0 : Int) < (xs.length : Int) := by omega
      have HN := Lib.hid hn
      clear H3 hbd hne hL hn
      go_enter Try.func8, Try.ntmps8
      go_wp2_with fail
      refine (HCK.out _ (H.out.below ((br w).alloc (Nat.le_refl _) _))).mono ?_
      rintro en w1 ⟨rfl, hb1⟩
      have HB1 : Below w.heap.size w w1 := bt ((br w).alloc (Nat.le_refl _) _) hb1
      have k0 : w1.cell? ⟨w.heap.size, 0, none⟩ = some (.int .u64 (wi a)) := boxc (bx hb1) 0
      have k1 : w1.cell? ⟨w.heap.size, 1, none⟩ = some (.int .u64 (wi b)) := boxc (bx hb1) 1
      clear hb1
      go_wp2_with fail
      have HB1' := Lib.hid HB1
      have hl9 : (xs.length + 1) * 24 ≤ 140737488355328 := by omega
      have hlz : ∀ o, w1.heap.size ≤ (w1.alloc o).drew.heap.size := fun o => ((br w1).alloc (Nat.le_refl _) o).size
      have R1 := Lib.hid (H.out.below HB1)
      go_region_held3 (fun w' => w'.cell? ⟨w.heap.size, 0, none⟩ = some (.int .u64 (wi a)) ∧ w'.cell? ⟨w.heap.size, 1, none⟩ = some (.int .u64 (wi b)))
        (first | go_keep | (go_split_ands; exact ⟨kp hfB2 k0, kp hfB2 k1⟩) | (go_split_ands; exact ⟨kp hfB1 k0, kp hfB1 k1⟩))
        (first
          | (go_at_call 21; (with_reducible refine (clone_any _ xs _ (R1.out.below (br w1).drew) hl8).mono ?_); rintro en w3 ⟨v1, rfl, hown1, hb3⟩; have hfB1 : Below w1.heap.size w1 w3 := bd (br w1) hb3; have hle : w1.heap.size ≤ w1.drew.heap.size := Nat.le_refl w1.heap.size)
          | (go_at_call 21; (with_reducible refine (clone_any _ xs _ (R1.out.below ((br w1).alloc (Nat.le_refl _) _).drew) hl8).mono ?_); rintro en w3 ⟨v1, rfl, hown1, hb3⟩; have hfZ := bd (br (w1.alloc _)) hb3; have hfB1 : Below w1.heap.size w1 w3 := bt ((br w1).alloc (Nat.le_refl _) _) hfZ; have hle := hlz (.cells #[.int .i64 (1), .int .u64 (wi a), .int .u64 (wi b)] 40); have hrd := Lib.hid ((rd1a w1 (1) a b _ w1.heap.size rfl).below hfZ))
          | ((refine step_app (by rfl) (.tmp 32) (.tmp 37) (by rfl) _ _ xs (by rfl) hown1 _ [(1, a, b)] (by rfl) hrd.out hl9 hb3.size ?_; intro v2 w5 hown2 hbel2 hfar2; have hfB2 : Below w1.heap.size w1 w5 := hfB1.trans (hbel2.mono hle)))
          | ((refine step_app (by rfl) (.tmp 32) (.tmp 37) (by rfl) _ _ xs (by rfl) (hown1.alloc _) _ [(1, a, b)] (by rfl) (rd1a w3 (1) a b _ w3.heap.size rfl) hl9 (Nat.le_trans hb3.size ((br w3).alloc (Nat.le_refl _) _).size) ?_; intro v2 w5 hown2 hbel2 hfar2; have hfB2 : Below w1.heap.size w1 w5 := (hfB1.alloc hfB1.size _).trans (hbel2.mono hle))))
      all_goals
        have hr := HF.out
        go_wp2
        go_ret2
        unfold RingQ
        rw [hr]
        exact ⟨_, rfl, hown2.rd, bt HB1'.out hfB2⟩
    · have hlast := last_no xs n hn
      obtain ⟨g, off, rfl, hbl, hcc⟩ := H3.out (by omega)
      have q0 := (eE_at hcc n (by omega)).1
      rw [← hlast] at q0
      generalize lastNo xs = L at *
      have hi : (xs.length : Int) - 1 = (n : Int) := by omega
      have hn0 : (0 : Int) ≤ (n : Int) := by omega
      have hn1 : (n : Int) < (xs.length : Int) := by omega
      have hpos : (0 : Int) < (xs.length : Int) := by omega
      have e255 : (L == 255) = false := by simp [hne]
      have hl8 : xs.length ≤ 8 := by omega
      have hwk : IntKind.i64.wrap (L + 1) = L + 1 := IntWalk.i64_in _ (by omega)
      have HN := Lib.hid hn
      clear hcc hlast hn
      go_enter Try.func8, Try.ntmps8
      go_wp2_with fail
      refine (HCK.out _ (H.out.below ((br w).alloc (Nat.le_refl _) _))).mono ?_
      rintro en w1 ⟨rfl, hb1⟩
      have HB1 : Below w.heap.size w w1 := bt ((br w).alloc (Nat.le_refl _) _) hb1
      have k0 : w1.cell? ⟨w.heap.size, 0, none⟩ = some (.int .u64 (wi a)) := boxc (bx hb1) 0
      have k1 : w1.cell? ⟨w.heap.size, 1, none⟩ = some (.int .u64 (wi b)) := boxc (bx hb1) 1
      have c0 := (HB1.cell (p := ⟨g, off + n * 3, none⟩) hbl).trans q0
      clear q0 hb1
      go_wp2_with fail
      have HB1' := Lib.hid HB1
      have hl9 : (xs.length + 1) * 24 ≤ 140737488355328 := by omega
      have hlz : ∀ o, w1.heap.size ≤ (w1.alloc o).drew.heap.size := fun o => ((br w1).alloc (Nat.le_refl _) o).size
      have R1 := Lib.hid (H.out.below HB1)
      go_region_held3 (fun w' => w'.cell? ⟨w.heap.size, 0, none⟩ = some (.int .u64 (wi a)) ∧ w'.cell? ⟨w.heap.size, 1, none⟩ = some (.int .u64 (wi b)))
        (first | go_keep | (go_split_ands; exact ⟨kp hfB2 k0, kp hfB2 k1⟩) | (go_split_ands; exact ⟨kp hfB1 k0, kp hfB1 k1⟩))
        (first
          | (go_at_call 21; (with_reducible refine (clone_any _ xs _ (R1.out.below (br w1).drew) hl8).mono ?_); rintro en w3 ⟨v1, rfl, hown1, hb3⟩; have hfB1 : Below w1.heap.size w1 w3 := bd (br w1) hb3; have hle : w1.heap.size ≤ w1.drew.heap.size := Nat.le_refl w1.heap.size)
          | (go_at_call 21; (with_reducible refine (clone_any _ xs _ (R1.out.below ((br w1).alloc (Nat.le_refl _) _).drew) hl8).mono ?_); rintro en w3 ⟨v1, rfl, hown1, hb3⟩; have hfZ := bd (br (w1.alloc _)) hb3; have hfB1 : Below w1.heap.size w1 w3 := bt ((br w1).alloc (Nat.le_refl _) _) hfZ; have hle := hlz (.cells #[.int .i64 (L + 1), .int .u64 (wi a), .int .u64 (wi b)] 40); have hrd := Lib.hid ((rd1a w1 (L + 1) a b _ w1.heap.size rfl).below hfZ))
          | ((refine step_app (by rfl) (.tmp 32) (.tmp 37) (by rfl) _ _ xs (by rfl) hown1 _ [(L + 1, a, b)] (by rfl) hrd.out hl9 hb3.size ?_; intro v2 w5 hown2 hbel2 hfar2; have hfB2 : Below w1.heap.size w1 w5 := hfB1.trans (hbel2.mono hle)))
          | ((refine step_app (by rfl) (.tmp 32) (.tmp 37) (by rfl) _ _ xs (by rfl) (hown1.alloc _) _ [(L + 1, a, b)] (by rfl) (rd1a w3 (L + 1) a b _ w3.heap.size rfl) hl9 (Nat.le_trans hb3.size ((br w3).alloc (Nat.le_refl _) _).size) ?_; intro v2 w5 hown2 hbel2 hfar2; have hfB2 : Below w1.heap.size w1 w5 := (hfB1.alloc hfB1.size _).trans (hbel2.mono hle))))
      all_goals
        have hr := HF.out
        go_wp2
        go_ret2
        unfold RingQ
        rw [hr]
        exact ⟨_, rfl, hown2.rd, bt HB1'.out hfB2⟩
end Rg
end Go.Proofs.Ytmeoeihfgmmgmaa
