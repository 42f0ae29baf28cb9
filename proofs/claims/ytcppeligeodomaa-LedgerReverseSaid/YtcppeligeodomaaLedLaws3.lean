/- Ledgers: however often a posting comes, it is there once. -/
import Derived.Test.YtcppeligeodomaaLedLaws2
set_option linter.unusedVariables false
namespace Go.Proofs.Ytcppeligeodomaa
open Go.RowKit
namespace Ld
open Pn
theorem same_is (v u : Value) (xs ys : List Po) (w : World) (h : RdL w v xs) (h' : RdL w u ys) (he : pgs xs = pgs ys) : Calls Try.prog 35 #[v, u] w (BoolQ true w) := by
  have := same_any v u xs ys w h h'
  rw [decide_eq_true he] at this
  exact this
theorem check_is (v : Value) (ps : List Po) (w : World) (h : RdL w v ps) (n : Int) (hn : chk (pgs ps) = n) : Calls Try.prog 34 #[v] w (IntQ n w) := by
  rw [← hn]; exact check_any v ps w h
theorem balR_is (v : Value) (ps : List Po) (ac : Int) (w : World) (h : RdL w v ps) (hf : Fine ps) (n : Int) (hn : bal ac (pgs ps) = n) : Calls Try.prog 32 #[v, .int .i64 ac] w (IntQ n w) := by
  rw [← hn]; exact balR_any v ps ac w h hf
theorem bal_bound (a : Int) (l : List Pg) (h : chk l = 0) : -659706976665600 ≤ bal a l ∧ bal a l ≤ 659706976665600 := by
  obtain ⟨h1, h2, _⟩ := (chk_ok l).1 h
  have h3 := bal_le a (l.map (fun p => (⟨p.1, none, 0, p.2⟩ : Po))) (fun p hp => by
    obtain ⟨q, hq, rfl⟩ := List.mem_map.1 hp
    exact ⟨(h2 q hq).six, fun l hl => ((h2 q hq).ln l hl).2.2.1⟩)
  have e : pgs (l.map (fun p => (⟨p.1, none, 0, p.2⟩ : Po))) = l := by
    unfold pgs; rw [List.map_map]; exact List.map_id _
  rw [e, List.length_map] at h3
  omega
set_option maxHeartbeats 4000000 in
theorem once_walk (v : Value) (ps : List Po) (id : Int) (pa : Option Addr) (pc : Nat) (ls : List Ln) (ac : Int) (w : World) (h : RdL w v ps) (hp : RdE elN w (.slice pa ls.length pc) ls) : Calls Try.prog 11 #[v, .agg #[.int .i64 id, .slice pa ls.length pc], .int .i64 ac] w (BoolQ true w) := by
  have CB := Lib.hid (fun w => begun_any w)
  have hb0 := (br w).alloc (Nat.le_refl _) (.cells #[.int .i64 id, .slice pa ls.length pc] 42)
  have hL0 := h.next hb0
  have hP0 : RdN (w.alloc (.cells #[.int .i64 id, .slice pa ls.length pc] 42)) ⟨id, pa, pc, ls⟩ := Rd.below hp hb0
  have k0 : (w.alloc (.cells #[.int .i64 id, .slice pa ls.length pc] 42)).cell? ⟨w.heap.size, 0, none⟩ = some (.int .i64 id) := by rw [World.cell?_alloc_mark]; rfl
  have k1 : (w.alloc (.cells #[.int .i64 id, .slice pa ls.length pc] 42)).cell? ⟨w.heap.size, 1, none⟩ = some (.slice pa ls.length pc) := by rw [World.cell?_alloc_mark]; rfl
  have HB0 := Lib.hid hb0; have HL := Lib.hid hL0; have HP := Lib.hid hP0
  have K0 := Lib.hid k0; have K1 := Lib.hid k1
  by_cases c1 : (post (pgs ps) (id, ls)).2 ≠ 0
  · have hz := post_err _ _ c1
    have C1 : RowKit.Hid (Calls Try.prog 26 #[v, .agg #[.int .i64 id, .slice pa ls.length pc]] (w.alloc (.cells #[.int .i64 id, .slice pa ls.length pc] 42)) (PostQ ([], (post (pgs ps) (id, ls)).2) (w.alloc (.cells #[.int .i64 id, .slice pa ls.length pc] 42)))) := Lib.hid (post_is v ps ⟨id, pa, pc, ls⟩ _ hL0 hP0 _ (by rw [← hz]))
    have hn : ((post (pgs ps) (id, ls)).2 != 0) = true := by simpa using c1
    clear c1 hz h hp hb0 hL0 hP0 k0 k1 HL HP K0 K1
    generalize (post (pgs ps) (id, ls)).2 = ec at *
    go_enter Try.func11, Try.ntmps11
    go_wp2_with fail
    refine C1.out.mono ?_
    rintro en w1 ⟨v1, q1, rfl, L1, P1, b1⟩
    obtain ⟨a1, c1, rfl⟩ := L1.shape 0 (by rw [P1]; rfl)
    clear L1 P1
    go_wp2_with fail
    refine (CB.out _).mono ?_
    rintro en w2 ⟨rfl, b2⟩
    go_wp2
    go_ret
    exact ⟨rfl, bt HB0.out (bt b1 b2)⟩
  have c1' : (post (pgs ps) (id, ls)).2 = 0 := Classical.byContradiction c1
  obtain ⟨A, hA⟩ : ∃ A, (post (pgs ps) (id, ls)).1 = A := ⟨_, rfl⟩
  have hpo : post (pgs ps) (id, ls) = (A, 0) := by rw [← hA, ← c1']
  have hag := post_again _ _ c1'
  have hca := chk_post _ _ c1'
  have hbl := post_bal ac _ _ c1'
  obtain ⟨hcl, hok, -⟩ := post_ok _ _ c1'
  rw [hA] at hag hca hbl
  have C1 : RowKit.Hid (Calls Try.prog 26 #[v, .agg #[.int .i64 id, .slice pa ls.length pc]] (w.alloc (.cells #[.int .i64 id, .slice pa ls.length pc] 42)) (PostQ (A, 0) (w.alloc (.cells #[.int .i64 id, .slice pa ls.length pc] 42)))) := Lib.hid (post_is v ps ⟨id, pa, pc, ls⟩ _ hL0 hP0 _ hpo)
  have C2 : RowKit.Hid (∀ v1 q1 w', RdL w' v1 q1 → pgs q1 = A → RdN w' ⟨id, pa, pc, ls⟩ → Calls Try.prog 26 #[v1, .agg #[.int .i64 id, .slice pa ls.length pc]] w' (PostQ (A, 0) w')) := Lib.hid (fun v1 q1 w' h1 h2 h3 => post_is v1 q1 ⟨id, pa, pc, ls⟩ w' h1 h3 _ (by rw [h2]; exact hag))
  have C3 := Lib.hid (fun v1 q1 w' (h1 : RdL w' v1 q1) (h2 : pgs q1 = A) => check_is v1 q1 w' h1 0 (by rw [h2]; exact hca))
  have CBL := Lib.hid (fun v1 q1 w' (h1 : RdL w' v1 q1) (h2 : pgs q1 = A) => balance_is v1 q1 ac w' h1 (if ac < 1 ∨ 5 < ac then (0, 7) else (bal ac A, 0)) (by rw [h2]; exact balance_ok _ _ hca))
  have CBO := Lib.hid (fun w' (h1 : RdL w' v ps) => balance_is v ps ac w' h1 (if ac < 1 ∨ 5 < ac then (0, 7) else (bal ac (pgs ps), 0)) (balance_ok _ _ hcl))
  have hb1 := bal_bound ac _ hcl
  have hb2 := bal_bound ac _ hca
  have CR : RowKit.Hid (∀ v1 w', RdL w' v1 [⟨id, pa, pc, ls⟩] → Calls Try.prog 32 #[v1, .int .i64 ac] w' (IntQ (one ac ls) w')) := Lib.hid (fun v1 w' h1 => balR_is v1 _ ac w' h1 ⟨by simp, fun p hp => by
    have : p = ⟨id, pa, pc, ls⟩ := by simpa using hp
    subst this
    exact ⟨hok.six, fun l hl => (hok.ln l hl).2.2.1⟩⟩ _ (by simp [bal]))
  have HALEN : RowKit.Hid ((A.length = ps.length ∧ bal ac A = bal ac (pgs ps)) ∨ (A.length = ps.length + 1 ∧ bal ac A = bal ac (pgs ps) + one ac ls)) := Lib.hid (by
    rcases hbl with ⟨e1, e2⟩ | ⟨e1, e2, -⟩
    · left; rw [List.length_map] at e1; exact ⟨e1, by rw [e2]⟩
    · right; rw [List.length_map] at e1; exact ⟨e1, e2⟩)
  obtain ⟨a, cap, rfl, -⟩ := h.rd
  clear c1 c1' hA hpo hag hca hbl hcl hok h hp hb0 hL0 hP0 k0 k1
  generalize bal ac (pgs ps) = BL at *; generalize bal ac A = BA at *; generalize one ac ls = O at *
  go_enter Try.func11, Try.ntmps11
  go_wp2_with fail
  refine C1.out.mono ?_
  rintro en w1 ⟨v1, q1, rfl, L1, P1, b1⟩
  obtain ⟨a1, c1, rfl⟩ := L1.shape A.length (by rw [P1])
  go_wp2_with fail
  refine (CB.out _).mono ?_
  rintro en w2 ⟨rfl, b2⟩
  have e1 := bt b1 b2
  have j0 := kp e1 K0.out; have j1 := kp e1 K1.out
  have L2 := L1.next b2
  have HL2 := Lib.hid L2; have HP1 := Lib.hid P1; have E1 := Lib.hid e1
  clear L1 L2 P1 b1 b2 e1
  go_wp2_with fail
  refine (C2.out _ q1 _ HL2.out HP1.out (HP.out.below E1.out)).mono ?_
  rintro en w3 ⟨v2, q2, rfl, L3, P3, b3⟩
  have HL3 := Lib.hid L3; have HP3 := Lib.hid P3; have HL2' := Lib.hid (HL2.out.next b3); have E3 := Lib.hid (bt E1.out b3)
  clear L3 P3 b3 j0 j1
  go_wp2_with fail
  refine (same_is _ _ q1 q2 _ HL2'.out HL3.out (by rw [HP1.out, HP3.out])).mono ?_
  rintro en w4 ⟨rfl, b4⟩
  have HL4 := Lib.hid (HL2'.out.next b4); have E4 := Lib.hid (bt E3.out b4)
  clear b4
  go_wp2_with fail
  refine (C3.out _ q1 _ HL4.out HP1.out).mono ?_
  rintro en w5 ⟨rfl, b5⟩
  have HL5 := Lib.hid (HL4.out.next b5); have E5 := Lib.hid (bt E4.out b5)
  clear b5
  go_wp2_with fail
  refine (CBO.out _ (HL.out.next E5.out)).mono ?_
  rintro en w6 ⟨rfl, b6⟩
  have HL6 := Lib.hid (HL5.out.next b6); have E6 := Lib.hid (bt E5.out b6)
  clear b6
  by_cases hac : ac < 1 ∨ 5 < ac
  · rw [if_pos hac] at CBL ⊢
    clear hac
    go_wp2_with fail
    refine (CBL.out _ q1 _ HL6.out HP1.out).mono ?_
    rintro en w7 ⟨rfl, b7⟩
    have E7 := Lib.hid (bt E6.out b7)
    clear b7
    go_wp2
    go_ret
    exact ⟨rfl, bt HB0.out E7.out⟩
  · rw [if_neg hac] at CBL ⊢
    clear hac
    go_wp2_with fail
    refine (CBL.out _ q1 _ HL6.out HP1.out).mono ?_
    rintro en w7 ⟨rfl, b7⟩
    have E7 := Lib.hid (bt E6.out b7)
    have j0 := kp E7.out K0.out; have j1 := kp E7.out K1.out
    clear b7
    rcases HALEN.out with ⟨hl, hb⟩ | ⟨hl, hb⟩
    · have hgt : ¬ ((ps.length : Int) < (A.length : Int)) := by omega
      have hw : IntKind.i64.wrap BL = BL := IntWalk.i64_in _ (by omega)
      have hbb : (BA == BL) = true := by simpa using hb
      clear hl hb hb1 hb2
      go_wp2
      go_ret
      exact ⟨by first | rfl | (simp; done), bt HB0.out E7.out⟩
    · have hgt : ((ps.length : Int) < (A.length : Int)) := by omega
      have hw : IntKind.i64.wrap (BL + O) = BL + O := IntWalk.i64_in _ (by omega)
      have hbb : (BA == BL + O) = true := by simpa using hb
      have HRL : RowKit.Hid (RdL (w7.alloc (.cells #[.int .i64 id, .slice pa ls.length pc] 42)) (.slice (some ⟨w7.heap.size, 0, none⟩) 1 1) [⟨id, pa, pc, ls⟩]) := Lib.hid ⟨rd_lit elP [⟨id, pa, pc, ls⟩] w7 _ _ w7.heap.size rfl (by simp [maxLen]), fun p hp => by
        have : p = ⟨id, pa, pc, ls⟩ := by simpa using hp
        subst this
        exact (HP.out.below E7.out).below ((br w7).alloc (Nat.le_refl _) _)⟩
      clear hl hb hb1 hb2
      go_wp2_with fail
      refine (CR.out _ _ HRL.out).mono ?_
      rintro en w8 ⟨rfl, b8⟩
      have E8 := Lib.hid (bt (E7.out.alloc E7.out.size _) b8)
      clear b8
      go_wp2
      go_ret
      exact ⟨by first | rfl | (simp; done), bt HB0.out E8.out⟩
end Ld
end Go.Proofs.Ytcppeligeodomaa
