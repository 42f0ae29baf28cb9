/- Ledgers: the code answers as the document says. (gen_led5.py) -/
import Derived.Test.YtcppeligeodomaaLedLaws3
import Derived.Test.YtcppeligeodomaaLedRef5
import Derived.Test.YtcppeligeodomaaLedRef6
set_option linter.unusedVariables false
namespace Go.Proofs.Ytcppeligeodomaa
open Go.RowKit
namespace Ld
open Pn
theorem revR_any (v : Value) (ps : List Po) (id nw : Int) (w : World) (h : RdL w v ps) : Calls Try.prog 31 #[v, .int .i64 id, .int .i64 nw] w (PostQ (rev (pgs ps) id nw) w) := revR_of (fun id nw pa pc ls w h1 h2 h3 => turned_any id nw pa pc ls w h1 h2 h3) v ps id nw w h
theorem checkR_is (v : Value) (ps : List Po) (w : World) (h : RdL w v ps) (n : Int) (hn : chk (pgs ps) = n) : Calls Try.prog 29 #[v] w (IntQ n w) := by
  rw [← hn]; exact checkR_any v ps w h
set_option maxHeartbeats 4000000 in
theorem tells_a (v : Value) (ps : List Po) (id : Int) (pa : Option Addr) (pc : Nat) (ls : List Ln) (ac i2 nw : Int) (w : World) (h : RdL w v ps) (hp : RdE elN w (.slice pa ls.length pc) ls) (c1 : chk (pgs ps) ≠ 0) : Calls Try.prog 9 #[v, .agg #[.int .i64 id, .slice pa ls.length pc], .int .i64 ac, .int .i64 i2, .int .i64 nw] w (BoolQ true w) := by
  have CB := Lib.hid (fun w => begun_any w)
  have hb0 := (br w).alloc (Nat.le_refl _) (.cells #[.int .i64 id, .slice pa ls.length pc] 42)
  have hL0 := h.next hb0
  have hP0 : RdN (w.alloc (.cells #[.int .i64 id, .slice pa ls.length pc] 42)) ⟨id, pa, pc, ls⟩ := Rd.below hp hb0
  have k0 : (w.alloc (.cells #[.int .i64 id, .slice pa ls.length pc] 42)).cell? ⟨w.heap.size, 0, none⟩ = some (.int .i64 id) := by rw [World.cell?_alloc_mark]; rfl
  have k1 : (w.alloc (.cells #[.int .i64 id, .slice pa ls.length pc] 42)).cell? ⟨w.heap.size, 1, none⟩ = some (.slice pa ls.length pc) := by rw [World.cell?_alloc_mark]; rfl
  have HB0 := Lib.hid hb0; have HL := Lib.hid hL0; have HP := Lib.hid hP0
  have K0 := Lib.hid k0; have K1 := Lib.hid k1
  obtain ⟨P, e, hpo⟩ : ∃ P e, post (pgs ps) (id, ls) = (P, e) := ⟨_, _, rfl⟩
  obtain ⟨R, g, hre⟩ : ∃ R g, rev (pgs ps) i2 nw = (R, g) := ⟨_, _, rfl⟩
  have C1 : RowKit.Hid (Calls Try.prog 26 #[v, .agg #[.int .i64 id, .slice pa ls.length pc]] (w.alloc (.cells #[.int .i64 id, .slice pa ls.length pc] 42)) (PostQ (P, e) (w.alloc (.cells #[.int .i64 id, .slice pa ls.length pc] 42)))) := Lib.hid (post_is v ps ⟨id, pa, pc, ls⟩ _ hL0 hP0 _ hpo)
  have D1 : RowKit.Hid (∀ w', RdL w' v ps → RdN w' ⟨id, pa, pc, ls⟩ → Calls Try.prog 30 #[v, .agg #[.int .i64 id, .slice pa ls.length pc]] w' (PostQ (P, e) w')) := Lib.hid (fun w' h1 h2 => by
    have := postR_any v ps ⟨id, pa, pc, ls⟩ w' h1 h2
    rw [show post (pgs ps) (Po.pg ⟨id, pa, pc, ls⟩) = (P, e) from hpo] at this
    exact this)
  have C3 := Lib.hid (fun w' h => rev_is v ps i2 nw w' h (R, g) hre)
  have D3 := Lib.hid (fun w' h => by
    have := revR_any v ps i2 nw w' h
    rw [hre] at this
    exact this)
  obtain ⟨ec, hec⟩ : ∃ ec, chk (pgs ps) = ec := ⟨_, rfl⟩
  have CBL := Lib.hid (fun w' h => balance_is v ps ac w' h (0, ec) (by unfold balance; rw [if_pos c1, hec]))
  have C0 := Lib.hid (fun w' h => check_is v ps w' h ec hec)
  have D0 := Lib.hid (fun w' h => checkR_is v ps w' h ec hec)
  have hn : (ec == 0) = false := by rw [← hec]; simpa using c1
  clear c1 hec
  clear hpo hre h hp hb0 hL0 hP0 k0 k1
  go_enter Try.func9, Try.ntmps9
  go_wp2_with fail
  refine C1.out.mono ?_
  rintro en w1 ⟨va, qa, rfl, LA, PA, b1⟩
  have LA := Lib.hid LA; have PA := Lib.hid PA; have E1 := Lib.hid b1
  clear b1
  go_wp2_with fail
  refine (CBL.out _ (HL.out.next E1.out)).mono ?_
  rintro en w2 ⟨rfl, b2⟩
  have LA := Lib.hid (LA.out.next b2); have E2 := Lib.hid (bt E1.out b2)
  clear b2
  go_wp2_with fail
  refine (C3.out _ (HL.out.next E2.out)).mono ?_
  rintro en w3 ⟨vb, qb, rfl, LB, PB, b3⟩
  have LA := Lib.hid (LA.out.next b3); have E3 := Lib.hid (bt E2.out b3); have LB := Lib.hid LB; have PB := Lib.hid PB
  clear b3
  go_wp2_with fail
  refine (D0.out _ (HL.out.next E3.out)).mono ?_
  rintro en w4 ⟨rfl, b4⟩
  have LA := Lib.hid (LA.out.next b4); have E4 := Lib.hid (bt E3.out b4); have LB := Lib.hid (LB.out.next b4)
  have j0 := kp E4.out K0.out; have j1 := kp E4.out K1.out
  clear b4
  go_wp2_with fail
  refine (D1.out _ (HL.out.next E4.out) (HP.out.below E4.out)).mono ?_
  rintro en w5 ⟨vx, qx, rfl, LX, PX, b5⟩
  have LA := Lib.hid (LA.out.next b5); have E5 := Lib.hid (bt E4.out b5); have LB := Lib.hid (LB.out.next b5); have LX := Lib.hid LX; have PX := Lib.hid PX
  clear b5 j0 j1
  go_wp2_with fail
  refine (D3.out _ (HL.out.next E5.out)).mono ?_
  rintro en w6 ⟨vy, qy, rfl, LY, PY, b6⟩
  have LA := Lib.hid (LA.out.next b6); have E6 := Lib.hid (bt E5.out b6); have LB := Lib.hid (LB.out.next b6); have LX := Lib.hid (LX.out.next b6); have LY := Lib.hid LY; have PY := Lib.hid PY
  clear b6
  have LA := LA; have E7 := E6
  go_wp2_with fail
  refine (CB.out _).mono ?_
  rintro en w8 ⟨rfl, b8⟩
  have LA := Lib.hid (LA.out.next b8); have E8 := Lib.hid (bt E7.out b8); have LB := Lib.hid (LB.out.next b8); have LX := Lib.hid (LX.out.next b8); have LY := Lib.hid (LY.out.next b8)
  clear b8
  go_wp2_with fail
  refine (C0.out _ (HL.out.next E8.out)).mono ?_
  rintro en w9 ⟨rfl, b9⟩
  have LA := Lib.hid (LA.out.next b9); have E9 := Lib.hid (bt E8.out b9); have LB := Lib.hid (LB.out.next b9); have LX := Lib.hid (LX.out.next b9); have LY := Lib.hid (LY.out.next b9)
  clear b9
  go_wp2_with fail
  refine (same_is _ _ qa qx _ LA.out LX.out (by rw [PA.out, PX.out])).mono ?_
  rintro en w10 ⟨rfl, b10⟩
  have E10 := Lib.hid (bt E9.out b10); have LB := Lib.hid (LB.out.next b10); have LY := Lib.hid (LY.out.next b10)
  clear b10
  go_wp2_with fail
  refine (same_is _ _ qb qy _ LB.out LY.out (by rw [PB.out, PY.out])).mono ?_
  rintro en w11 ⟨rfl, b11⟩
  have E11 := Lib.hid (bt E10.out b11)
  clear b11
  go_wp2
  go_ret
  exact ⟨by first | rfl | (simp; done), bt HB0.out E11.out⟩
set_option maxHeartbeats 4000000 in
theorem tells_b1 (v : Value) (ps : List Po) (id : Int) (pa : Option Addr) (pc : Nat) (ls : List Ln) (ac i2 nw : Int) (w : World) (h : RdL w v ps) (hp : RdE elN w (.slice pa ls.length pc) ls) (c1 : chk (pgs ps) = 0) (a1 : ac < 1) : Calls Try.prog 9 #[v, .agg #[.int .i64 id, .slice pa ls.length pc], .int .i64 ac, .int .i64 i2, .int .i64 nw] w (BoolQ true w) := by
  have CB := Lib.hid (fun w => begun_any w)
  have hb0 := (br w).alloc (Nat.le_refl _) (.cells #[.int .i64 id, .slice pa ls.length pc] 42)
  have hL0 := h.next hb0
  have hP0 : RdN (w.alloc (.cells #[.int .i64 id, .slice pa ls.length pc] 42)) ⟨id, pa, pc, ls⟩ := Rd.below hp hb0
  have k0 : (w.alloc (.cells #[.int .i64 id, .slice pa ls.length pc] 42)).cell? ⟨w.heap.size, 0, none⟩ = some (.int .i64 id) := by rw [World.cell?_alloc_mark]; rfl
  have k1 : (w.alloc (.cells #[.int .i64 id, .slice pa ls.length pc] 42)).cell? ⟨w.heap.size, 1, none⟩ = some (.slice pa ls.length pc) := by rw [World.cell?_alloc_mark]; rfl
  have HB0 := Lib.hid hb0; have HL := Lib.hid hL0; have HP := Lib.hid hP0
  have K0 := Lib.hid k0; have K1 := Lib.hid k1
  obtain ⟨P, e, hpo⟩ : ∃ P e, post (pgs ps) (id, ls) = (P, e) := ⟨_, _, rfl⟩
  obtain ⟨R, g, hre⟩ : ∃ R g, rev (pgs ps) i2 nw = (R, g) := ⟨_, _, rfl⟩
  have C1 : RowKit.Hid (Calls Try.prog 26 #[v, .agg #[.int .i64 id, .slice pa ls.length pc]] (w.alloc (.cells #[.int .i64 id, .slice pa ls.length pc] 42)) (PostQ (P, e) (w.alloc (.cells #[.int .i64 id, .slice pa ls.length pc] 42)))) := Lib.hid (post_is v ps ⟨id, pa, pc, ls⟩ _ hL0 hP0 _ hpo)
  have D1 : RowKit.Hid (∀ w', RdL w' v ps → RdN w' ⟨id, pa, pc, ls⟩ → Calls Try.prog 30 #[v, .agg #[.int .i64 id, .slice pa ls.length pc]] w' (PostQ (P, e) w')) := Lib.hid (fun w' h1 h2 => by
    have := postR_any v ps ⟨id, pa, pc, ls⟩ w' h1 h2
    rw [show post (pgs ps) (Po.pg ⟨id, pa, pc, ls⟩) = (P, e) from hpo] at this
    exact this)
  have C3 := Lib.hid (fun w' h => rev_is v ps i2 nw w' h (R, g) hre)
  have D3 := Lib.hid (fun w' h => by
    have := revR_any v ps i2 nw w' h
    rw [hre] at this
    exact this)
  have CBL := Lib.hid (fun w' h => balance_is v ps ac w' h (0, 7) (by rw [balance_ok _ _ c1, if_pos (.inl a1)]))
  have C0 := Lib.hid (fun w' h => check_is v ps w' h 0 c1)
  have D0 := Lib.hid (fun w' h => checkR_is v ps w' h 0 c1)
  clear c1
  clear hpo hre h hp hb0 hL0 hP0 k0 k1
  go_enter Try.func9, Try.ntmps9
  go_wp2_with fail
  refine C1.out.mono ?_
  rintro en w1 ⟨va, qa, rfl, LA, PA, b1⟩
  have LA := Lib.hid LA; have PA := Lib.hid PA; have E1 := Lib.hid b1
  clear b1
  go_wp2_with fail
  refine (CBL.out _ (HL.out.next E1.out)).mono ?_
  rintro en w2 ⟨rfl, b2⟩
  have LA := Lib.hid (LA.out.next b2); have E2 := Lib.hid (bt E1.out b2)
  clear b2
  go_wp2_with fail
  refine (C3.out _ (HL.out.next E2.out)).mono ?_
  rintro en w3 ⟨vb, qb, rfl, LB, PB, b3⟩
  have LA := Lib.hid (LA.out.next b3); have E3 := Lib.hid (bt E2.out b3); have LB := Lib.hid LB; have PB := Lib.hid PB
  clear b3
  go_wp2_with fail
  refine (D0.out _ (HL.out.next E3.out)).mono ?_
  rintro en w4 ⟨rfl, b4⟩
  have LA := Lib.hid (LA.out.next b4); have E4 := Lib.hid (bt E3.out b4); have LB := Lib.hid (LB.out.next b4)
  have j0 := kp E4.out K0.out; have j1 := kp E4.out K1.out
  clear b4
  go_wp2_with fail
  refine (D1.out _ (HL.out.next E4.out) (HP.out.below E4.out)).mono ?_
  rintro en w5 ⟨vx, qx, rfl, LX, PX, b5⟩
  have LA := Lib.hid (LA.out.next b5); have E5 := Lib.hid (bt E4.out b5); have LB := Lib.hid (LB.out.next b5); have LX := Lib.hid LX; have PX := Lib.hid PX
  clear b5 j0 j1
  go_wp2_with fail
  refine (D3.out _ (HL.out.next E5.out)).mono ?_
  rintro en w6 ⟨vy, qy, rfl, LY, PY, b6⟩
  have LA := Lib.hid (LA.out.next b6); have E6 := Lib.hid (bt E5.out b6); have LB := Lib.hid (LB.out.next b6); have LX := Lib.hid (LX.out.next b6); have LY := Lib.hid LY; have PY := Lib.hid PY
  clear b6
  have LA := LA; have E7 := E6
  go_wp2_with fail
  refine (CB.out _).mono ?_
  rintro en w8 ⟨rfl, b8⟩
  have LA := Lib.hid (LA.out.next b8); have E8 := Lib.hid (bt E7.out b8); have LB := Lib.hid (LB.out.next b8); have LX := Lib.hid (LX.out.next b8); have LY := Lib.hid (LY.out.next b8)
  clear b8
  go_wp2_with fail
  refine (C0.out _ (HL.out.next E8.out)).mono ?_
  rintro en w9 ⟨rfl, b9⟩
  have LA := Lib.hid (LA.out.next b9); have E9 := Lib.hid (bt E8.out b9); have LB := Lib.hid (LB.out.next b9); have LX := Lib.hid (LX.out.next b9); have LY := Lib.hid (LY.out.next b9)
  clear b9
  go_wp2_with fail
  refine (same_is _ _ qa qx _ LA.out LX.out (by rw [PA.out, PX.out])).mono ?_
  rintro en w10 ⟨rfl, b10⟩
  have E10 := Lib.hid (bt E9.out b10); have LB := Lib.hid (LB.out.next b10); have LY := Lib.hid (LY.out.next b10)
  clear b10
  go_wp2_with fail
  refine (same_is _ _ qb qy _ LB.out LY.out (by rw [PB.out, PY.out])).mono ?_
  rintro en w11 ⟨rfl, b11⟩
  have E11 := Lib.hid (bt E10.out b11)
  clear b11
  go_wp2
  go_ret
  exact ⟨by first | rfl | (simp; done), bt HB0.out E11.out⟩
set_option maxHeartbeats 4000000 in
theorem tells_b2 (v : Value) (ps : List Po) (id : Int) (pa : Option Addr) (pc : Nat) (ls : List Ln) (ac i2 nw : Int) (w : World) (h : RdL w v ps) (hp : RdE elN w (.slice pa ls.length pc) ls) (c1 : chk (pgs ps) = 0) (a1 : 5 < ac) : Calls Try.prog 9 #[v, .agg #[.int .i64 id, .slice pa ls.length pc], .int .i64 ac, .int .i64 i2, .int .i64 nw] w (BoolQ true w) := by
  have CB := Lib.hid (fun w => begun_any w)
  have hb0 := (br w).alloc (Nat.le_refl _) (.cells #[.int .i64 id, .slice pa ls.length pc] 42)
  have hL0 := h.next hb0
  have hP0 : RdN (w.alloc (.cells #[.int .i64 id, .slice pa ls.length pc] 42)) ⟨id, pa, pc, ls⟩ := Rd.below hp hb0
  have k0 : (w.alloc (.cells #[.int .i64 id, .slice pa ls.length pc] 42)).cell? ⟨w.heap.size, 0, none⟩ = some (.int .i64 id) := by rw [World.cell?_alloc_mark]; rfl
  have k1 : (w.alloc (.cells #[.int .i64 id, .slice pa ls.length pc] 42)).cell? ⟨w.heap.size, 1, none⟩ = some (.slice pa ls.length pc) := by rw [World.cell?_alloc_mark]; rfl
  have HB0 := Lib.hid hb0; have HL := Lib.hid hL0; have HP := Lib.hid hP0
  have K0 := Lib.hid k0; have K1 := Lib.hid k1
  obtain ⟨P, e, hpo⟩ : ∃ P e, post (pgs ps) (id, ls) = (P, e) := ⟨_, _, rfl⟩
  obtain ⟨R, g, hre⟩ : ∃ R g, rev (pgs ps) i2 nw = (R, g) := ⟨_, _, rfl⟩
  have C1 : RowKit.Hid (Calls Try.prog 26 #[v, .agg #[.int .i64 id, .slice pa ls.length pc]] (w.alloc (.cells #[.int .i64 id, .slice pa ls.length pc] 42)) (PostQ (P, e) (w.alloc (.cells #[.int .i64 id, .slice pa ls.length pc] 42)))) := Lib.hid (post_is v ps ⟨id, pa, pc, ls⟩ _ hL0 hP0 _ hpo)
  have D1 : RowKit.Hid (∀ w', RdL w' v ps → RdN w' ⟨id, pa, pc, ls⟩ → Calls Try.prog 30 #[v, .agg #[.int .i64 id, .slice pa ls.length pc]] w' (PostQ (P, e) w')) := Lib.hid (fun w' h1 h2 => by
    have := postR_any v ps ⟨id, pa, pc, ls⟩ w' h1 h2
    rw [show post (pgs ps) (Po.pg ⟨id, pa, pc, ls⟩) = (P, e) from hpo] at this
    exact this)
  have C3 := Lib.hid (fun w' h => rev_is v ps i2 nw w' h (R, g) hre)
  have D3 := Lib.hid (fun w' h => by
    have := revR_any v ps i2 nw w' h
    rw [hre] at this
    exact this)
  have CBL := Lib.hid (fun w' h => balance_is v ps ac w' h (0, 7) (by rw [balance_ok _ _ c1, if_pos (.inr a1)]))
  have C0 := Lib.hid (fun w' h => check_is v ps w' h 0 c1)
  have D0 := Lib.hid (fun w' h => checkR_is v ps w' h 0 c1)
  have a2 : ¬ ac < 1 := by omega
  clear c1
  clear hpo hre h hp hb0 hL0 hP0 k0 k1
  go_enter Try.func9, Try.ntmps9
  go_wp2_with fail
  refine C1.out.mono ?_
  rintro en w1 ⟨va, qa, rfl, LA, PA, b1⟩
  have LA := Lib.hid LA; have PA := Lib.hid PA; have E1 := Lib.hid b1
  clear b1
  go_wp2_with fail
  refine (CBL.out _ (HL.out.next E1.out)).mono ?_
  rintro en w2 ⟨rfl, b2⟩
  have LA := Lib.hid (LA.out.next b2); have E2 := Lib.hid (bt E1.out b2)
  clear b2
  go_wp2_with fail
  refine (C3.out _ (HL.out.next E2.out)).mono ?_
  rintro en w3 ⟨vb, qb, rfl, LB, PB, b3⟩
  have LA := Lib.hid (LA.out.next b3); have E3 := Lib.hid (bt E2.out b3); have LB := Lib.hid LB; have PB := Lib.hid PB
  clear b3
  go_wp2_with fail
  refine (D0.out _ (HL.out.next E3.out)).mono ?_
  rintro en w4 ⟨rfl, b4⟩
  have LA := Lib.hid (LA.out.next b4); have E4 := Lib.hid (bt E3.out b4); have LB := Lib.hid (LB.out.next b4)
  have j0 := kp E4.out K0.out; have j1 := kp E4.out K1.out
  clear b4
  go_wp2_with fail
  refine (D1.out _ (HL.out.next E4.out) (HP.out.below E4.out)).mono ?_
  rintro en w5 ⟨vx, qx, rfl, LX, PX, b5⟩
  have LA := Lib.hid (LA.out.next b5); have E5 := Lib.hid (bt E4.out b5); have LB := Lib.hid (LB.out.next b5); have LX := Lib.hid LX; have PX := Lib.hid PX
  clear b5 j0 j1
  go_wp2_with fail
  refine (D3.out _ (HL.out.next E5.out)).mono ?_
  rintro en w6 ⟨vy, qy, rfl, LY, PY, b6⟩
  have LA := Lib.hid (LA.out.next b6); have E6 := Lib.hid (bt E5.out b6); have LB := Lib.hid (LB.out.next b6); have LX := Lib.hid (LX.out.next b6); have LY := Lib.hid LY; have PY := Lib.hid PY
  clear b6
  have LA := LA; have E7 := E6
  go_wp2_with fail
  refine (CB.out _).mono ?_
  rintro en w8 ⟨rfl, b8⟩
  have LA := Lib.hid (LA.out.next b8); have E8 := Lib.hid (bt E7.out b8); have LB := Lib.hid (LB.out.next b8); have LX := Lib.hid (LX.out.next b8); have LY := Lib.hid (LY.out.next b8)
  clear b8
  go_wp2_with fail
  refine (C0.out _ (HL.out.next E8.out)).mono ?_
  rintro en w9 ⟨rfl, b9⟩
  have LA := Lib.hid (LA.out.next b9); have E9 := Lib.hid (bt E8.out b9); have LB := Lib.hid (LB.out.next b9); have LX := Lib.hid (LX.out.next b9); have LY := Lib.hid (LY.out.next b9)
  clear b9
  go_wp2_with fail
  refine (same_is _ _ qa qx _ LA.out LX.out (by rw [PA.out, PX.out])).mono ?_
  rintro en w10 ⟨rfl, b10⟩
  have E10 := Lib.hid (bt E9.out b10); have LB := Lib.hid (LB.out.next b10); have LY := Lib.hid (LY.out.next b10)
  clear b10
  go_wp2_with fail
  refine (same_is _ _ qb qy _ LB.out LY.out (by rw [PB.out, PY.out])).mono ?_
  rintro en w11 ⟨rfl, b11⟩
  have E11 := Lib.hid (bt E10.out b11)
  clear b11
  go_wp2
  go_ret
  exact ⟨by first | rfl | (simp; done), bt HB0.out E11.out⟩
set_option maxHeartbeats 4000000 in
theorem tells_c (v : Value) (ps : List Po) (id : Int) (pa : Option Addr) (pc : Nat) (ls : List Ln) (ac i2 nw : Int) (w : World) (h : RdL w v ps) (hp : RdE elN w (.slice pa ls.length pc) ls) (c1 : chk (pgs ps) = 0) (a1 : 1 ≤ ac) (a2 : ac ≤ 5) : Calls Try.prog 9 #[v, .agg #[.int .i64 id, .slice pa ls.length pc], .int .i64 ac, .int .i64 i2, .int .i64 nw] w (BoolQ true w) := by
  have CB := Lib.hid (fun w => begun_any w)
  have hb0 := (br w).alloc (Nat.le_refl _) (.cells #[.int .i64 id, .slice pa ls.length pc] 42)
  have hL0 := h.next hb0
  have hP0 : RdN (w.alloc (.cells #[.int .i64 id, .slice pa ls.length pc] 42)) ⟨id, pa, pc, ls⟩ := Rd.below hp hb0
  have k0 : (w.alloc (.cells #[.int .i64 id, .slice pa ls.length pc] 42)).cell? ⟨w.heap.size, 0, none⟩ = some (.int .i64 id) := by rw [World.cell?_alloc_mark]; rfl
  have k1 : (w.alloc (.cells #[.int .i64 id, .slice pa ls.length pc] 42)).cell? ⟨w.heap.size, 1, none⟩ = some (.slice pa ls.length pc) := by rw [World.cell?_alloc_mark]; rfl
  have HB0 := Lib.hid hb0; have HL := Lib.hid hL0; have HP := Lib.hid hP0
  have K0 := Lib.hid k0; have K1 := Lib.hid k1
  obtain ⟨P, e, hpo⟩ : ∃ P e, post (pgs ps) (id, ls) = (P, e) := ⟨_, _, rfl⟩
  obtain ⟨R, g, hre⟩ : ∃ R g, rev (pgs ps) i2 nw = (R, g) := ⟨_, _, rfl⟩
  have C1 : RowKit.Hid (Calls Try.prog 26 #[v, .agg #[.int .i64 id, .slice pa ls.length pc]] (w.alloc (.cells #[.int .i64 id, .slice pa ls.length pc] 42)) (PostQ (P, e) (w.alloc (.cells #[.int .i64 id, .slice pa ls.length pc] 42)))) := Lib.hid (post_is v ps ⟨id, pa, pc, ls⟩ _ hL0 hP0 _ hpo)
  have D1 : RowKit.Hid (∀ w', RdL w' v ps → RdN w' ⟨id, pa, pc, ls⟩ → Calls Try.prog 30 #[v, .agg #[.int .i64 id, .slice pa ls.length pc]] w' (PostQ (P, e) w')) := Lib.hid (fun w' h1 h2 => by
    have := postR_any v ps ⟨id, pa, pc, ls⟩ w' h1 h2
    rw [show post (pgs ps) (Po.pg ⟨id, pa, pc, ls⟩) = (P, e) from hpo] at this
    exact this)
  have C3 := Lib.hid (fun w' h => rev_is v ps i2 nw w' h (R, g) hre)
  have D3 := Lib.hid (fun w' h => by
    have := revR_any v ps i2 nw w' h
    rw [hre] at this
    exact this)
  obtain ⟨B, hB⟩ : ∃ B, bal ac (pgs ps) = B := ⟨_, rfl⟩
  have CBL := Lib.hid (fun w' h => balance_is v ps ac w' h (B, 0) (by rw [balance_ok _ _ c1, if_neg (by omega), hB]))
  have C0 := Lib.hid (fun w' h => check_is v ps w' h 0 c1)
  have D0 := Lib.hid (fun w' h => checkR_is v ps w' h 0 c1)
  have DB := Lib.hid (fun w' h => balR_is v ps ac w' h (Fine.of_ok c1) B hB)
  clear c1 hB
  clear hpo hre h hp hb0 hL0 hP0 k0 k1
  go_enter Try.func9, Try.ntmps9
  go_wp2_with fail
  refine C1.out.mono ?_
  rintro en w1 ⟨va, qa, rfl, LA, PA, b1⟩
  have LA := Lib.hid LA; have PA := Lib.hid PA; have E1 := Lib.hid b1
  clear b1
  go_wp2_with fail
  refine (CBL.out _ (HL.out.next E1.out)).mono ?_
  rintro en w2 ⟨rfl, b2⟩
  have LA := Lib.hid (LA.out.next b2); have E2 := Lib.hid (bt E1.out b2)
  clear b2
  go_wp2_with fail
  refine (C3.out _ (HL.out.next E2.out)).mono ?_
  rintro en w3 ⟨vb, qb, rfl, LB, PB, b3⟩
  have LA := Lib.hid (LA.out.next b3); have E3 := Lib.hid (bt E2.out b3); have LB := Lib.hid LB; have PB := Lib.hid PB
  clear b3
  go_wp2_with fail
  refine (D0.out _ (HL.out.next E3.out)).mono ?_
  rintro en w4 ⟨rfl, b4⟩
  have LA := Lib.hid (LA.out.next b4); have E4 := Lib.hid (bt E3.out b4); have LB := Lib.hid (LB.out.next b4)
  have j0 := kp E4.out K0.out; have j1 := kp E4.out K1.out
  clear b4
  go_wp2_with fail
  refine (D1.out _ (HL.out.next E4.out) (HP.out.below E4.out)).mono ?_
  rintro en w5 ⟨vx, qx, rfl, LX, PX, b5⟩
  have LA := Lib.hid (LA.out.next b5); have E5 := Lib.hid (bt E4.out b5); have LB := Lib.hid (LB.out.next b5); have LX := Lib.hid LX; have PX := Lib.hid PX
  clear b5 j0 j1
  go_wp2_with fail
  refine (D3.out _ (HL.out.next E5.out)).mono ?_
  rintro en w6 ⟨vy, qy, rfl, LY, PY, b6⟩
  have LA := Lib.hid (LA.out.next b6); have E6 := Lib.hid (bt E5.out b6); have LB := Lib.hid (LB.out.next b6); have LX := Lib.hid (LX.out.next b6); have LY := Lib.hid LY; have PY := Lib.hid PY
  clear b6
  go_wp2_with fail
  refine (DB.out _ (HL.out.next E6.out)).mono ?_
  rintro en w7 ⟨rfl, b7⟩
  have LA := Lib.hid (LA.out.next b7); have E7 := Lib.hid (bt E6.out b7); have LB := Lib.hid (LB.out.next b7); have LX := Lib.hid (LX.out.next b7); have LY := Lib.hid (LY.out.next b7)
  clear b7
  go_wp2_with fail
  refine (CB.out _).mono ?_
  rintro en w8 ⟨rfl, b8⟩
  have LA := Lib.hid (LA.out.next b8); have E8 := Lib.hid (bt E7.out b8); have LB := Lib.hid (LB.out.next b8); have LX := Lib.hid (LX.out.next b8); have LY := Lib.hid (LY.out.next b8)
  clear b8
  go_wp2_with fail
  refine (C0.out _ (HL.out.next E8.out)).mono ?_
  rintro en w9 ⟨rfl, b9⟩
  have LA := Lib.hid (LA.out.next b9); have E9 := Lib.hid (bt E8.out b9); have LB := Lib.hid (LB.out.next b9); have LX := Lib.hid (LX.out.next b9); have LY := Lib.hid (LY.out.next b9)
  clear b9
  go_wp2_with fail
  refine (same_is _ _ qa qx _ LA.out LX.out (by rw [PA.out, PX.out])).mono ?_
  rintro en w10 ⟨rfl, b10⟩
  have E10 := Lib.hid (bt E9.out b10); have LB := Lib.hid (LB.out.next b10); have LY := Lib.hid (LY.out.next b10)
  clear b10
  go_wp2_with fail
  refine (same_is _ _ qb qy _ LB.out LY.out (by rw [PB.out, PY.out])).mono ?_
  rintro en w11 ⟨rfl, b11⟩
  have E11 := Lib.hid (bt E10.out b11)
  clear b11
  go_wp2
  go_ret
  exact ⟨by first | rfl | (simp; done), bt HB0.out E11.out⟩
theorem tells_walk (v : Value) (ps : List Po) (id : Int) (pa : Option Addr) (pc : Nat) (ls : List Ln) (ac i2 nw : Int) (w : World) (h : RdL w v ps) (hp : RdE elN w (.slice pa ls.length pc) ls) : Calls Try.prog 9 #[v, .agg #[.int .i64 id, .slice pa ls.length pc], .int .i64 ac, .int .i64 i2, .int .i64 nw] w (BoolQ true w) := by
  by_cases c1 : chk (pgs ps) = 0
  · by_cases a1 : ac < 1
    · exact tells_b1 v ps id pa pc ls ac i2 nw w h hp c1 a1
    · by_cases a2 : 5 < ac
      · exact tells_b2 v ps id pa pc ls ac i2 nw w h hp c1 a2
      · exact tells_c v ps id pa pc ls ac i2 nw w h hp c1 (by omega) (by omega)
  · exact tells_a v ps id pa pc ls ac i2 nw w h hp c1
end Ld
end Go.Proofs.Ytcppeligeodomaa
