/- Ledgers: what must be in any case. (gen_led4.py) -/
import Derived.Test.YtcppeligeodomaaLedRev
set_option linter.unusedVariables false
namespace Go.Proofs.Ytcppeligeodomaa
open Go.RowKit
namespace Ld
theorem RdL.shape {w : World} {v : Value} {ps : List Po} (h : RdL w v ps) (n : Nat) (hn : (pgs ps).length = n) : ∃ a c, v = .slice a n c := by
  obtain ⟨a, c, e, _⟩ := h.rd
  rw [List.length_map] at hn
  exact ⟨a, c, by rw [e, hn]⟩
theorem post_is (v : Value) (ps : List Po) (p : Po) (w : World) (h : RdL w v ps) (hp : RdN w p) (r : List Pg × Int) (hr : post (pgs ps) p.pg = r) : Calls Try.prog 26 #[v, aP p] w (PostQ r w) := by
  rw [← hr]; exact post_any v ps p w h hp
theorem rev_is (v : Value) (ps : List Po) (id nw : Int) (w : World) (h : RdL w v ps) (r : List Pg × Int) (hr : rev (pgs ps) id nw = r) : Calls Try.prog 28 #[v, .int .i64 id, .int .i64 nw] w (PostQ r w) := by
  rw [← hr]; exact rev_any v ps id nw w h
theorem balance_is (v : Value) (ps : List Po) (ac : Int) (w : World) (h : RdL w v ps) (r : Int × Int) (hr : balance (pgs ps) ac = r) : Calls Try.prog 27 #[v, .int .i64 ac] w fun e w' => e = .returned (.tuple #[.int .i64 r.1, .int .i64 r.2]) ∧ Below w.heap.size w w' := by
  rw [← hr]; exact balance_any v ps ac w h
theorem line_any (a p : Int) (w : World) : Calls Try.prog 52 #[.int .i64 a, .int .i64 p] w fun e w' => e = .returned (.agg #[.int .i64 a, .int .i64 p]) ∧ Below w.heap.size w w' := by
  have P := Box.new w 62 [.int .i64 a, .int .i64 p]
  have Q := (br w).alloc (Nat.le_refl _) (.cells #[.int .i64 a, .int .i64 p] 62)
  go_enter Try.func52, Try.ntmps52
  go_wp2
  have r0 := P.cell 0; have r1 := P.cell 1
  simp only [List.getElem?_cons_zero, List.getElem?_cons_succ] at r0 r1
  exact bodyPost_ret (v := .agg #[.int .i64 a, .int .i64 p]) (by simp [results, Try.results52, go_sem]) rfl ⟨rfl, Q⟩
theorem mk_any (id : Int) (a : Option Addr) (n c : Nat) (w : World) : Calls Try.prog 51 #[.int .i64 id, .slice a n c] w fun e w' => e = .returned (.agg #[.int .i64 id, .slice a n c]) ∧ Below w.heap.size w w' := by
  have P := Box.new w 42 [.int .i64 id, .slice a n c]
  have Q := (br w).alloc (Nat.le_refl _) (.cells #[.int .i64 id, .slice a n c] 42)
  go_enter Try.func51, Try.ntmps51
  go_wp2
  have r0 := P.cell 0; have r1 := P.cell 1
  simp only [List.getElem?_cons_zero, List.getElem?_cons_succ] at r0 r1
  exact bodyPost_ret (v := .agg #[.int .i64 id, .slice a n c]) (by simp [results, Try.results51, go_sem]) rfl ⟨rfl, Q⟩
set_option maxHeartbeats 4000000 in
theorem begun_any (w : World) : Calls Try.prog 33 #[] w (BoolQ true w) := by
  go_enter Try.func33, Try.ntmps33
  go_wp2_with fail
  refine (line_any 1 (600) _).mono ?_
  rintro en w1 ⟨rfl, b_w1⟩
  go_wp2_with fail
  refine (line_any 2 (-600) _).mono ?_
  rintro en w2 ⟨rfl, b_w2⟩
  go_wp2_with fail
  refine (mk_any 5 (some ⟨w2.heap.size, 0, none⟩) 2 2 _).mono ?_
  rintro en w3 ⟨rfl, b_w3⟩
  have R_va : RdN w3 ⟨5, some ⟨w2.heap.size, 0, none⟩, 2, [(1, 600), (2, -600)]⟩ := Rd.below (rd_lit elN [(1, 600), (2, -600)] w2 _ _ _ rfl (by simp [maxLen])) b_w3
  have B_w3 := bt b_w1 (bt b_w2 (bt ((br w2).alloc (Nat.le_refl _) _) b_w3))
  have H_w3 := B_w3
  go_wp2_with fail
  refine (post_is (.slice none 0 0) [] ⟨5, some ⟨w2.heap.size, 0, none⟩, 2, [(1, 600), (2, -600)]⟩ w3 (RdL.nil _) R_va ([(5, [(1, 600), (2, -600)])], 0) (by kernel_rfl)).mono ?_
  rintro en w4 ⟨va, q_va, rfl, L_va, P_va, b_w4⟩
  simp only at P_va
  obtain ⟨a_va, c_va, rfl⟩ := L_va.shape 1 (by rw [P_va]; rfl)
  have H_w4 := bt H_w3 b_w4
  go_wp2_with fail
  refine (line_any 1 (600) _).mono ?_
  rintro en w5 ⟨rfl, b_w5⟩
  go_wp2_with fail
  refine (line_any 2 (-600) _).mono ?_
  rintro en w6 ⟨rfl, b_w6⟩
  go_wp2_with fail
  refine (mk_any 5 (some ⟨w6.heap.size, 0, none⟩) 2 2 _).mono ?_
  rintro en w7 ⟨rfl, b_w7⟩
  have R_vb : RdN w7 ⟨5, some ⟨w6.heap.size, 0, none⟩, 2, [(1, 600), (2, -600)]⟩ := Rd.below (rd_lit elN [(1, 600), (2, -600)] w6 _ _ _ rfl (by simp [maxLen])) b_w7
  have B_w7 := bt b_w5 (bt b_w6 (bt ((br w6).alloc (Nat.le_refl _) _) b_w7))
  have H_w7 := bt H_w4 B_w7
  have L_va := L_va.next B_w7
  go_wp2_with fail
  refine (post_is _ q_va ⟨5, some ⟨w6.heap.size, 0, none⟩, 2, [(1, 600), (2, -600)]⟩ w7 L_va R_vb ([(5, [(1, 600), (2, -600)])], 0) (by rw [P_va]; kernel_rfl)).mono ?_
  rintro en w8 ⟨vb, q_vb, rfl, L_vb, P_vb, b_w8⟩
  simp only at P_vb
  obtain ⟨a_vb, c_vb, rfl⟩ := L_vb.shape 1 (by rw [P_vb]; rfl)
  have H_w8 := bt H_w7 b_w8
  have L_va := L_va.next b_w8
  go_wp2_with fail
  refine (line_any 1 (700) _).mono ?_
  rintro en w9 ⟨rfl, b_w9⟩
  go_wp2_with fail
  refine (line_any 2 (-700) _).mono ?_
  rintro en w10 ⟨rfl, b_w10⟩
  go_wp2_with fail
  refine (mk_any 5 (some ⟨w10.heap.size, 0, none⟩) 2 2 _).mono ?_
  rintro en w11 ⟨rfl, b_w11⟩
  have R_vc : RdN w11 ⟨5, some ⟨w10.heap.size, 0, none⟩, 2, [(1, 700), (2, -700)]⟩ := Rd.below (rd_lit elN [(1, 700), (2, -700)] w10 _ _ _ rfl (by simp [maxLen])) b_w11
  have B_w11 := bt b_w9 (bt b_w10 (bt ((br w10).alloc (Nat.le_refl _) _) b_w11))
  have H_w11 := bt H_w8 B_w11
  have L_va := L_va.next B_w11
  have L_vb := L_vb.next B_w11
  go_wp2_with fail
  refine (post_is _ q_va ⟨5, some ⟨w10.heap.size, 0, none⟩, 2, [(1, 700), (2, -700)]⟩ w11 L_va R_vc ([], 6) (by rw [P_va]; kernel_rfl)).mono ?_
  rintro en w12 ⟨vc, q_vc, rfl, L_vc, P_vc, b_w12⟩
  simp only at P_vc
  obtain ⟨a_vc, c_vc, rfl⟩ := L_vc.shape 0 (by rw [P_vc]; rfl)
  have H_w12 := bt H_w11 b_w12
  have L_va := L_va.next b_w12
  have L_vb := L_vb.next b_w12
  go_wp2_with fail
  refine (rev_is _ q_vb 5 6 w12 L_vb ([(5, [(1, 600), (2, -600)]), (6, [(1, -600), (2, 600)])], 0) (by rw [P_vb]; kernel_rfl)).mono ?_
  rintro en w13 ⟨vd, q_vd, rfl, L_vd, P_vd, b_w13⟩
  simp only at P_vd
  obtain ⟨a_vd, c_vd, rfl⟩ := L_vd.shape 2 (by rw [P_vd]; rfl)
  have H_w13 := bt H_w12 b_w13
  have L_va := L_va.next b_w13
  have L_vb := L_vb.next b_w13
  go_wp2_with fail
  refine (balance_is _ q_va 1 w13 L_va (600, 0) (by rw [P_va]; kernel_rfl)).mono ?_
  rintro en w14 ⟨rfl, b_w14⟩
  have H_w14 := bt H_w13 b_w14
  have L_va := L_va.next b_w14
  have L_vb := L_vb.next b_w14
  have L_vd := L_vd.next b_w14
  go_wp2_with fail
  refine (balance_is _ q_vd 1 w14 L_vd (0, 0) (by rw [P_vd]; kernel_rfl)).mono ?_
  rintro en w15 ⟨rfl, b_w15⟩
  have H_w15 := bt H_w14 b_w15
  have L_va := L_va.next b_w15
  have L_vb := L_vb.next b_w15
  have L_vd := L_vd.next b_w15
  go_wp2_with fail
  refine (line_any 1 (600) _).mono ?_
  rintro en w16 ⟨rfl, b_w16⟩
  go_wp2_with fail
  refine (line_any 2 (-500) _).mono ?_
  rintro en w17 ⟨rfl, b_w17⟩
  go_wp2_with fail
  refine (mk_any 7 (some ⟨w17.heap.size, 0, none⟩) 2 2 _).mono ?_
  rintro en w18 ⟨rfl, b_w18⟩
  have R_ve : RdN w18 ⟨7, some ⟨w17.heap.size, 0, none⟩, 2, [(1, 600), (2, -500)]⟩ := Rd.below (rd_lit elN [(1, 600), (2, -500)] w17 _ _ _ rfl (by simp [maxLen])) b_w18
  have B_w18 := bt b_w16 (bt b_w17 (bt ((br w17).alloc (Nat.le_refl _) _) b_w18))
  have H_w18 := bt H_w15 B_w18
  have L_va := L_va.next B_w18
  have L_vb := L_vb.next B_w18
  have L_vd := L_vd.next B_w18
  go_wp2_with fail
  refine (post_is _ q_va ⟨7, some ⟨w17.heap.size, 0, none⟩, 2, [(1, 600), (2, -500)]⟩ w18 L_va R_ve ([], 4) (by rw [P_va]; kernel_rfl)).mono ?_
  rintro en w19 ⟨ve, q_ve, rfl, L_ve, P_ve, b_w19⟩
  simp only at P_ve
  obtain ⟨a_ve, c_ve, rfl⟩ := L_ve.shape 0 (by rw [P_ve]; rfl)
  have H_w19 := bt H_w18 b_w19
  have L_va := L_va.next b_w19
  have L_vb := L_vb.next b_w19
  have L_vd := L_vd.next b_w19
  go_wp2
  go_ret
  exact ⟨rfl, H_w19⟩
end Ld
end Go.Proofs.Ytcppeligeodomaa
