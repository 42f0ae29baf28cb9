/- Ledgers: where a posting stands; copies. -/
import Derived.Test.YtcppeligeodomaaLedSame
import Derived.Lib.SliceRun
import Derived.Shelf.Abstract
set_option linter.unusedVariables false
namespace Go.Proofs.Ytcppeligeodomaa
open Go.RowKit
namespace Ld
def isP (id : Int) (p : Po) : Bool := decide (p.id = id)
theorem findN_pg (id : Int) (ps : List Po) : findN (isI id) (pgs ps) = findN (isP id) ps := by
  induction ps with
  | nil => rfl
  | cons p ps ih => show (if isI id p.pg then 0 else findN (isI id) (pgs ps) + 1) = (if isP id p then 0 else findN (isP id) ps + 1); rw [ih]; rfl
theorem atI_pg (id : Int) (ps : List Po) : findI (isP id) ps = atI id (pgs ps) := by unfold atI findI; rw [findN_pg]; simp
theorem clo_any (B0 : Nat) (no : Int) (x : Po) (w : World) (c0 : w.cell? ⟨B0, 0, none⟩ = some (.int .i64 no)) : Calls Try.prog 60 #[aP x, .pointer (some ⟨B0, 0, none⟩)] w (BoolQ (isP no x) w) := by
  obtain ⟨n, a, cap, ls⟩ := x
  have hd : (n == no) = isP no ⟨n, a, cap, ls⟩ := rfl
  have HD := Lib.hid hd; clear hd
  generalize isP no ⟨n, a, cap, ls⟩ = b at *
  have c1 : (w.alloc (.cells #[.int .i64 n, .slice a ls.length cap] 42)).cell? ⟨B0, 0, none⟩ = some (.int .i64 no) := kp ((br w).alloc (Nat.le_refl _) _) c0
  show Calls Try.prog 60 #[.agg #[.int .i64 n, .slice a ls.length cap], .pointer (some ⟨B0, 0, none⟩)] w _
  go_enter Try.func60, Try.ntmps60
  go_wp2_with fail
  try go_quiet (fail)
  go_wp2
  go_ret
  exact ⟨by (rw [← HD.out]; rfl), by first | exact (br _).alloc (Nat.le_refl _) _ | exact bn ((br _).alloc (Nat.le_refl _) _) _⟩
set_option maxHeartbeats 1000000 in
theorem idx_any (B0 : Nat) (no : Int) (v : Value) (xs : List Po) (w : World) (h : RdE elP w v xs) (c0 : w.cell? ⟨B0, 0, none⟩ = some (.int .i64 no)) :
    Calls Try.prog 59 #[v, .func (.func 60) #[] #[.pointer (some ⟨B0, 0, none⟩)]] w (IntQ (findI (isP no) xs) w) := by
  have hle := h.len_le
  obtain ⟨a, cap, rfl, h1, h2, h3⟩ := h
  have H3 := Lib.hid h3; clear h3
  have eg : ∀ args w, (callFunc 60 args).run Try.prog w = .ok (.enter 60 args) w := enters_of Try.func60 (by kernel_rfl) rfl
  obtain ⟨RES, hRES⟩ : ∃ RES : Int, findI (isP no) xs = RES := ⟨_, rfl⟩
  rw [hRES]
  have HRES := Lib.hid hRES; clear hRES
  go_enter Try.func59, Try.ntmps59
  go_wp2
  go_loopw [8] (fun i wr => ∃ k : Nat, k ≤ xs.length ∧ i = .int .i64 k ∧ (∀ j (hj : j < xs.length), j < k → isP no xs[j] = false) ∧ Below w.heap.size w wr) (fun i _ => xs.length - (intOf i).toNat)
  case atStart => exact ⟨0, Nat.zero_le _, rfl, fun j hj hk => by omega, br _⟩
  case round =>
    obtain ⟨k, hk, rfl, hall, hbw⟩ := hrel
    by_cases hlt : k < xs.length
    · obtain ⟨g, off, rfl, hbl, hc⟩ := H3.out (by omega)
      obtain ⟨q0, q1⟩ := eP_at hc k hlt
      have d0 := (hbw.cell (p := ⟨g, off + k * 2, none⟩) hbl).trans q0
      have d1 := (hbw.cell (p := ⟨g, off + k * 2 + 1, none⟩) hbl).trans q1
      have i1 : (k : Int) < (xs.length : Int) := by omega
      have i0 : (0 : Int) ≤ (k : Int) := by omega
      have HCL := Lib.hid (clo_any B0 no xs[k] wr (kp hbw c0))
      have HBW := Lib.hid hbw; have HALL := Lib.hid hall
      by_cases he : isP no xs[k] = true
      · have hat : findN (isP no) xs = k := findN_eq _ xs k (by omega) hall (fun _ => he)
        have hR := HRES.out
        unfold findI at hR
        rw [hat, if_neg (by omega)] at hR
        have HR := Lib.hid hR
        rw [he] at HCL
        clear hbw hall hc hR hat he H3 HRES q0 q1 c0
        unfold aP Po.v at HCL
        unfold Po.v at d1
        generalize xs[k].id = t at *
        generalize (Value.slice xs[k].a xs[k].ls.length xs[k].cap) = t2 at *
        go_wp2_with fail
        refine (HCL.out).mono ?_
        rintro en w3 ⟨rfl, hb3⟩
        go_wp2
        go_ret
        exact ⟨by rw [← HR.out]; rfl, HBW.out.trans (hb3.mono HBW.out.size)⟩
      · have he' : isP no xs[k] = false := by simpa using he
        have hall2 : ∀ j (hj : j < xs.length), j < k + 1 → isP no xs[j] = false := fun j hj hjk => by
          by_cases e : j = k
          · subst e; exact he'
          · exact hall j hj (by omega)
        have HA2 := Lib.hid hall2
        rw [he'] at HCL
        clear hbw hall hc hall2 he he' H3 q0 q1 c0
        unfold aP Po.v at HCL
        unfold Po.v at d1
        generalize xs[k].id = t at *
        generalize (Value.slice xs[k].a xs[k].ls.length xs[k].cap) = t2 at *
        go_wp2_with fail
        refine (HCL.out).mono ?_
        rintro en w3 ⟨rfl, hb3⟩
        have HB3 := Lib.hid (HBW.out.trans (hb3.mono HBW.out.size))
        clear hb3
        go_wp2
        go_roundw
        case rel => exact ⟨k + 1, by omega, by go_num, HA2.out, HB3.out⟩
        case measure => simp [intOf]; omega
    · have hat : findN (isP no) xs = xs.length := findN_eq _ xs xs.length (Nat.le_refl _) (fun j hj _ => hall j hj (by omega)) (fun h => absurd h (Nat.lt_irrefl _))
      have hR := HRES.out
      unfold findI at hR
      rw [if_pos hat] at hR
      have HR := Lib.hid hR
      clear hR hat hall H3 HRES
      go_wp2
      go_ret
      exact ⟨by rw [← HR.out]; rfl, hbw⟩
theorem at_any (no : Int) (v : Value) (xs : List Po) (w : World) (h : RdE elP w v xs) : Calls Try.prog 43 #[v, .int .i64 no] w (IntQ (findI (isP no) xs) w) := by
  have hI := idx_any w.heap.size no v xs (w.alloc (.cells #[.int .i64 no] 3)) (h.below ((br w).alloc (Nat.le_refl _) _)) (by rw [World.cell?_alloc_mark]; rfl)
  have HI := Lib.hid hI; clear hI
  obtain ⟨RES, hRES⟩ : ∃ RES : Int, findI (isP no) xs = RES := ⟨_, rfl⟩
  rw [hRES] at HI ⊢
  clear hRES
  go_enter Try.func43, Try.ntmps43
  go_wp2_with fail
  refine HI.out.mono ?_
  rintro en w1 ⟨rfl, hb1⟩
  go_wp2
  go_ret
  exact ⟨rfl, bt ((br _).alloc (Nat.le_refl _) _) hb1⟩
set_option maxHeartbeats 1000000 in
theorem cloneN_any (v : Value) (xs : List Ln) (w : World) (h : RdE elN w v xs) (hl : xs.length ≤ 1000) : Calls Try.prog 61 #[v] w fun e w' => ∃ v', e = .returned v' ∧ ROwn elN w' w.heap.size v' xs ∧ Below w.heap.size w w' := by
  have H := Lib.hid h
  obtain ⟨a, cap, rfl, h1, h2, h3⟩ := h
  rcases a with _ | ad
  · have hz : xs = [] := by
      rcases xs with _ | ⟨x, xs⟩
      · rfl
      · obtain ⟨b, off, e, _⟩ := h3 (by simp); cases e
    subst hz
    have q : ∀ w, (binOp .eql 40 (.slice none 0 cap) (.slice none 0 0)).run Try.prog w = .ok (.bool true) w := fun w => Lib.run_eql_slice_nil w _ _ none 0 cap 0 0 Try.underlying40
    have hN := Lib.hid (ROwn.nil (E := elN) w w.heap.size)
    clear h3
    show Calls _ _ #[.slice none 0 cap] _ _
    go_enter Try.func61, Try.ntmps61
    go_wp2
    go_ret
    exact ⟨_, rfl, hN.out, br _⟩
  · clear h3
    have q : ∀ w, (binOp .eql 40 (.slice (some ad) xs.length cap) (.slice none 0 0)).run Try.prog w = .ok (.bool false) w := fun w => Lib.run_eql_slice_nil w _ _ (some ad) xs.length cap 0 0 Try.underlying40
    go_enter Try.func61, Try.ntmps61
    go_wp2_with (at_builtin; refine appE elN rfl (.tmp 5) (.tmp 6) rfl w.heap.size _ [] rfl (ROwn.lit0 w w.heap.size w.heap.size rfl (Nat.le_refl _)) _ xs rfl (H.out.below ((br w).alloc (Nat.le_refl _) _)) (by simp [maxLen]; omega) (by simp; omega) (by simp) ?_; intro v1 w5 hown1 hb5 hfar5; have HO1 := Lib.hid hown1; have HB5 := Lib.hid (((br w).alloc (Nat.le_refl _) _).trans hb5); clear hown1 hfar5 hb5)
    go_ret
    exact ⟨_, rfl, HO1.out, HB5.out⟩
set_option maxHeartbeats 1000000 in
theorem cloneP_any (v : Value) (xs : List Po) (w : World) (h : RdE elP w v xs) (hl : xs.length ≤ 1000) : Calls Try.prog 46 #[v] w fun e w' => ∃ v', e = .returned v' ∧ ROwn elP w' w.heap.size v' xs ∧ Below w.heap.size w w' := by
  have H := Lib.hid h
  obtain ⟨a, cap, rfl, h1, h2, h3⟩ := h
  rcases a with _ | ad
  · have hz : xs = [] := by
      rcases xs with _ | ⟨x, xs⟩
      · rfl
      · obtain ⟨b, off, e, _⟩ := h3 (by simp); cases e
    subst hz
    have q : ∀ w, (binOp .eql 39 (.slice none 0 cap) (.slice none 0 0)).run Try.prog w = .ok (.bool true) w := fun w => Lib.run_eql_slice_nil w _ _ none 0 cap 0 0 Try.underlying39
    have hN := Lib.hid (ROwn.nil (E := elP) w w.heap.size)
    clear h3
    show Calls _ _ #[.slice none 0 cap] _ _
    go_enter Try.func46, Try.ntmps46
    go_wp2
    go_ret
    exact ⟨_, rfl, hN.out, br _⟩
  · clear h3
    have q : ∀ w, (binOp .eql 39 (.slice (some ad) xs.length cap) (.slice none 0 0)).run Try.prog w = .ok (.bool false) w := fun w => Lib.run_eql_slice_nil w _ _ (some ad) xs.length cap 0 0 Try.underlying39
    go_enter Try.func46, Try.ntmps46
    go_wp2_with (at_builtin; refine appE elP rfl (.tmp 5) (.tmp 6) rfl w.heap.size _ [] rfl (ROwn.lit0 w w.heap.size w.heap.size rfl (Nat.le_refl _)) _ xs rfl (H.out.below ((br w).alloc (Nat.le_refl _) _)) (by simp [maxLen]; omega) (by simp; omega) (by simp) ?_; intro v1 w5 hown1 hb5 hfar5; have HO1 := Lib.hid hown1; have HB5 := Lib.hid (((br w).alloc (Nat.le_refl _) _).trans hb5); clear hown1 hfar5 hb5)
    go_ret
    exact ⟨_, rfl, HO1.out, HB5.out⟩
end Ld
end Go.Proofs.Ytcppeligeodomaa
