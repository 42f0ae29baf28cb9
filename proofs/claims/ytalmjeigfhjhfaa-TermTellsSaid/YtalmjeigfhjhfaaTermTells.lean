/- The package's answers on terms are the document's: the walk. -/
import Derived.Test.YtalmjeigfhjhfaaTermBegun
import Derived.Test.YtalmjeigfhjhfaaTermRefF
import Derived.Test.YtalmjeigfhjhfaaTermRefG
import Derived.Test.YtalmjeigfhjhfaaTermOpen
import Derived.Deep.RegionHeld3
set_option linter.unusedVariables false
namespace Go.Proofs.Ytalmjeigfhjhfaa
open Go.RowKit
namespace Dt
open Sp
theorem same_self (v u : Value) (L : List (Int × Int)) (w : World) (h : Rd 2 eP w v L) (h' : Rd 2 eP w u L) : Calls Try.prog 30 #[v, u] w fun e w' => e = .returned (.bool true) ∧ Below w.heap.size w w' :=
  (sameS_any v u L L w h h').mono fun _ _ ⟨h1, h2⟩ => ⟨by rw [h1, decide_eq_true rfl], h2⟩
set_option maxHeartbeats 2000000 in
set_option maxRecDepth 100000 in
theorem tells_walk (s u N k n : Int) (w : World) : Calls Try.prog 7 #[.int .i64 s, aT u N, .int .i64 k, .int .i64 n] w fun e w' => e = .returned (.bool true) ∧ Below w.heap.size w w' := by
  obtain ⟨⟨a, e⟩, h1⟩ : ∃ p, nthF u N s k = p := ⟨_, rfl⟩
  obtain ⟨⟨b, f⟩, h2⟩ : ∃ p, findF u N s n = p := ⟨_, rfl⟩
  have n1 := nth_any s u N k
  have n2 := find_any s u N n
  have n3 := full_any s u N k
  have n4 := nthR_any s u N k
  have n5 := findR_any s u N n
  have n6 := fullR_any s u N k
  have n7 := check_any u N
  have n8 := checkR_any u N
  rw [h1] at n1 n4; rw [h2] at n2 n5
  unfold FullQ at n3 n6
  obtain ⟨G, hG⟩ : ∃ G, fullC u N s k = G := ⟨_, rfl⟩
  obtain ⟨LL, hLL⟩ : ∃ LL, (if G = 0 then spansTo u N s k.toNat else []) = LL := ⟨_, rfl⟩
  simp only [hG] at n3 n6
  rw [hLL] at n3 n6
  generalize tchk u N = C at *
  unfold PairQ aT at n1 n2 n4 n5
  unfold aT at n3 n6
  unfold IntQ aT at n7 n8
  unfold aT
  have N1 := Lib.hid n1; have N2 := Lib.hid n2; have N3 := Lib.hid n3; have N4 := Lib.hid n4; have N5 := Lib.hid n5; have N6 := Lib.hid n6; have N7 := Lib.hid n7; have N8 := Lib.hid n8
  have e1 : (a == a) = true := by simp
  have e2 : (e == e) = true := by simp
  have e3 : (b == b) = true := by simp
  have e4 : (f == f) = true := by simp
  have e5 : (G == G) = true := by simp
  have e6 : (C == C) = true := by simp
  clear h1 h2 hG hLL n1 n2 n3 n4 n5 n6 n7 n8
  go_enter Try.func7, Try.ntmps7

  go_wp2_with fail
  refine (N1.out _).mono ?_
  rintro en w1 ⟨rfl, hb_w1⟩
  have n_w1 := bt ((br _).alloc (Nat.le_refl _) _) hb_w1
  have H_w1 := n_w1
  have k_w1 := boxc (bx hb_w1)
  have l_w1 := boxs (bx hb_w1)
  go_wp2_with fail
  refine (N2.out _).mono ?_
  rintro en w2 ⟨rfl, hb_w2⟩
  have n_w2 := hb_w2
  have H_w2 := bt H_w1 n_w2
  have k_w1 := kc n_w2 l_w1 k_w1
  have l_w1 := kl n_w2 l_w1
  go_wp2_with fail
  refine (N3.out _).mono ?_
  rintro en w3 ⟨l, L, rfl, hl, hb3, rfl⟩
  have k_w1 := kc hb3 l_w1 k_w1
  have l_w1 := kl hb3 l_w1
  have H_w3 := bt H_w2 hb3

  go_wp2_with fail
  refine (N4.out _).mono ?_
  rintro en w4 ⟨rfl, hb_w4⟩
  have n_w4 := hb_w4
  have H_w4 := bt H_w3 n_w4
  have k_w1 := kc n_w4 l_w1 k_w1
  have l_w1 := kl n_w4 l_w1
  go_wp2_with fail
  refine (N5.out _).mono ?_
  rintro en w5 ⟨rfl, hb_w5⟩
  have n_w5 := hb_w5
  have H_w5 := bt H_w4 n_w5
  have k_w1 := kc n_w5 l_w1 k_w1
  have l_w1 := kl n_w5 l_w1
  go_wp2_with fail
  refine (N6.out _).mono ?_
  rintro en w6 ⟨m, L', rfl, hm, hb6, rfl⟩
  have k_w1 := kc hb6 l_w1 k_w1
  have H_w6 := Lib.hid (bt H_w5 hb6)
  have HL := Lib.hid (hl.below (bt (bt hb_w4 hb_w5) hb6))
  have HM := Lib.hid hm
  have c0 := k_w1 0; have c1 := k_w1 1
  simp only [List.getElem?_toArray, List.getElem?_cons_zero, List.getElem?_cons_succ] at c0 c1
  clear hl hm hb3 hb6 k_w1 l_w1 hb_w1 hb_w2 hb_w4 hb_w5 n_w1 n_w2 n_w4 n_w5 H_w1 H_w2 H_w3 H_w4 H_w5
  go_wp2_with fail
  go_region_held3 (fun w' => w'.cell? ⟨w.heap.size, 0, none⟩ = some (.int .i64 u) ∧ w'.cell? ⟨w.heap.size, 1, none⟩ = some (.int .i64 N))
    (first | go_keep | (go_split_ands; (repeat' apply And.intro) <;> first | assumption | (with_reducible exact kp hba (by assumption)) | (with_reducible exact kp hbb (by assumption)) | (with_reducible exact kp hbc (by assumption)) | (with_reducible exact kp hbd (by assumption))))
    (first
      | (go_at_call 27; (with_reducible refine (tbegun_any _).mono ?_); rintro en wa ⟨rfl, hba⟩)
      | (go_at_call 28; (with_reducible refine (N7.out _).mono ?_); rintro en wb ⟨rfl, hbb⟩)
      | (go_at_call 29; (with_reducible refine (N8.out _).mono ?_); rintro en wc ⟨rfl, hbc⟩)
      | (go_at_call 30; (with_reducible refine (same_self l m _ _ (HL.out.below (bt (bt (bd (br w6) hba) hbb) hbc)) (HM.out.below (bt (bt (bd (br w6) hba) hbb) hbc))).mono ?_); rintro en wd ⟨rfl, hbd⟩))
  go_wp2
  go_ret
  exact ⟨by first | rfl | (simp; done), bt (bt (bt (bd H_w6.out hba) hbb) hbc) hbd⟩
theorem tells_end (s : Int) (x : Int × Int) (k n : Int) (w : World) (_ : (Lit.int .i64 s).wf = true) (_ : WfT x) (_ : (Lit.int .i64 k).wf = true) (_ : (Lit.int .i64 n).wf = true) :
    Calls Try.prog 7 #[.int .i64 s, aTm x, .int .i64 k, .int .i64 n] w fun e w' => e = .returned (.bool true) ∧ Below w.heap.size w w' := tells_walk s x.1 x.2 k n w
end Dt
end Go.Proofs.Ytalmjeigfhjhfaa
