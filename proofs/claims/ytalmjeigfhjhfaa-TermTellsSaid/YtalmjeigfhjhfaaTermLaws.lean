/- The statements on terms: the law functions are walked with the contracts of their callees. -/
import Derived.Test.YtalmjeigfhjhfaaTermBegun
set_option linter.unusedVariables false
namespace Go.Proofs.Ytalmjeigfhjhfaa
open Go.RowKit
namespace Dt
theorem rises_core {a b u N k j x e y f : Int} (h1 : nthF u N a k = (x, e)) (h2 : nthF u N b j = (y, f)) (e0 : e = 0) (f0 : f = 0) (hab : a ≤ b) (hkj : k ≤ j) : x ≤ y ∧ (k < j → x < y) := by
  rcases nth_cases u N a k with ⟨c, g, hc⟩ | ⟨⟨u1, u2, n1, n2⟩, ⟨s1, s2, k1, k2⟩, hr, g⟩
  · rw [g] at h1; injection h1 with _ h; omega
  · rcases nth_cases u N b j with ⟨c, g', hc⟩ | ⟨_, ⟨t1, t2, j1, j2⟩, hr', g'⟩
    · rw [g'] at h2; injection h2 with _ h; omega
    · rw [g] at h1; rw [g'] at h2
      injection h1 with h1 _; injection h2 with h2 _
      subst h1; subst h2
      exact ⟨rawT_mono hab s1 t2 n1 k1 hkj, fun h => rawT_lt hab s1 t2 n1 k1 h hr'⟩
set_option maxHeartbeats 1000000 in
theorem rises_walk (a b u N k j : Int) (w : World) : Calls Try.prog 8 #[.int .i64 a, .int .i64 b, aT u N, .int .i64 k, .int .i64 j] w fun e w' => e = .returned (.bool true) ∧ Below w.heap.size w w' := by
  obtain ⟨⟨x, e⟩, h1⟩ : ∃ p, nthF u N a k = p := ⟨_, rfl⟩
  obtain ⟨⟨y, f⟩, h2⟩ : ∃ p, nthF u N b j = p := ⟨_, rfl⟩
  have core := @rises_core a b u N k j x e y f h1 h2
  have n1 := nth_any a u N k
  have n2 := nth_any b u N j
  rw [h1] at n1; rw [h2] at n2
  clear h1 h2
  unfold PairQ at n1 n2
  unfold aT at *
  rcases (show e ≠ 0 ∨ (e = 0 ∧ f ≠ 0) ∨ (e = 0 ∧ f = 0 ∧ b < a) ∨ (e = 0 ∧ f = 0 ∧ a ≤ b ∧ j < k) ∨ (e = 0 ∧ f = 0 ∧ a ≤ b ∧ k = j) ∨ (e = 0 ∧ f = 0 ∧ a ≤ b ∧ k < j) by omega) with h | ⟨rfl, h⟩ | ⟨rfl, rfl, h⟩ | ⟨rfl, rfl, h, h'⟩ | ⟨rfl, rfl, h, rfl⟩ | ⟨rfl, rfl, h, h'⟩
  · have hb : (e != 0) = true := by simp [h]
    clear core
    go_enter Try.func8, Try.ntmps8

    go_wp2_with fail
    refine (n1 _).mono ?_
    rintro en w1 ⟨rfl, hb_w1⟩
    have n_w1 := bt ((br _).alloc (Nat.le_refl _) _) hb_w1
    have H_w1 := n_w1
    have k_w1 := boxc (bx hb_w1)
    have l_w1 := boxs (bx hb_w1)
    go_wp2_with fail
    refine (n2 _).mono ?_
    rintro en w2 ⟨rfl, hb_w2⟩
    have n_w2 := hb_w2
    have H_w2 := bt H_w1 n_w2
    have k_w1 := kc n_w2 l_w1 k_w1
    have l_w1 := kl n_w2 l_w1
    go_wp2_with fail
    refine (tbegun_any _).mono ?_
    rintro en w3 ⟨rfl, hb_w3⟩
    have n_w3 := hb_w3
    have H_w3 := bt H_w2 n_w3
    have k_w1 := kc n_w3 l_w1 k_w1
    have l_w1 := kl n_w3 l_w1
    go_wp2
    go_ret
    exact ⟨rfl, H_w3⟩
  · have hb : (f != 0) = true := by simp [h]
    clear core
    go_enter Try.func8, Try.ntmps8

    go_wp2_with fail
    refine (n1 _).mono ?_
    rintro en w1 ⟨rfl, hb_w1⟩
    have n_w1 := bt ((br _).alloc (Nat.le_refl _) _) hb_w1
    have H_w1 := n_w1
    have k_w1 := boxc (bx hb_w1)
    have l_w1 := boxs (bx hb_w1)
    go_wp2_with fail
    refine (n2 _).mono ?_
    rintro en w2 ⟨rfl, hb_w2⟩
    have n_w2 := hb_w2
    have H_w2 := bt H_w1 n_w2
    have k_w1 := kc n_w2 l_w1 k_w1
    have l_w1 := kl n_w2 l_w1
    go_wp2_with fail
    refine (tbegun_any _).mono ?_
    rintro en w3 ⟨rfl, hb_w3⟩
    have n_w3 := hb_w3
    have H_w3 := bt H_w2 n_w3
    have k_w1 := kc n_w3 l_w1 k_w1
    have l_w1 := kl n_w3 l_w1
    go_wp2
    go_ret
    exact ⟨rfl, H_w3⟩
  · clear core
    go_enter Try.func8, Try.ntmps8

    go_wp2_with fail
    refine (n1 _).mono ?_
    rintro en w1 ⟨rfl, hb_w1⟩
    have n_w1 := bt ((br _).alloc (Nat.le_refl _) _) hb_w1
    have H_w1 := n_w1
    have k_w1 := boxc (bx hb_w1)
    have l_w1 := boxs (bx hb_w1)
    go_wp2_with fail
    refine (n2 _).mono ?_
    rintro en w2 ⟨rfl, hb_w2⟩
    have n_w2 := hb_w2
    have H_w2 := bt H_w1 n_w2
    have k_w1 := kc n_w2 l_w1 k_w1
    have l_w1 := kl n_w2 l_w1
    go_wp2_with fail
    refine (tbegun_any _).mono ?_
    rintro en w3 ⟨rfl, hb_w3⟩
    have n_w3 := hb_w3
    have H_w3 := bt H_w2 n_w3
    have k_w1 := kc n_w3 l_w1 k_w1
    have l_w1 := kl n_w3 l_w1
    go_wp2
    go_ret
    exact ⟨rfl, H_w3⟩
  · clear core
    go_enter Try.func8, Try.ntmps8

    go_wp2_with fail
    refine (n1 _).mono ?_
    rintro en w1 ⟨rfl, hb_w1⟩
    have n_w1 := bt ((br _).alloc (Nat.le_refl _) _) hb_w1
    have H_w1 := n_w1
    have k_w1 := boxc (bx hb_w1)
    have l_w1 := boxs (bx hb_w1)
    go_wp2_with fail
    refine (n2 _).mono ?_
    rintro en w2 ⟨rfl, hb_w2⟩
    have n_w2 := hb_w2
    have H_w2 := bt H_w1 n_w2
    have k_w1 := kc n_w2 l_w1 k_w1
    have l_w1 := kl n_w2 l_w1
    go_wp2_with fail
    refine (tbegun_any _).mono ?_
    rintro en w3 ⟨rfl, hb_w3⟩
    have n_w3 := hb_w3
    have H_w3 := bt H_w2 n_w3
    have k_w1 := kc n_w3 l_w1 k_w1
    have l_w1 := kl n_w3 l_w1
    go_wp2
    go_ret
    exact ⟨rfl, H_w3⟩
  · have hx := (core rfl rfl h (Int.le_refl _)).1
    clear core
    go_enter Try.func8, Try.ntmps8

    go_wp2_with fail
    refine (n1 _).mono ?_
    rintro en w1 ⟨rfl, hb_w1⟩
    have n_w1 := bt ((br _).alloc (Nat.le_refl _) _) hb_w1
    have H_w1 := n_w1
    have k_w1 := boxc (bx hb_w1)
    have l_w1 := boxs (bx hb_w1)
    go_wp2_with fail
    refine (n2 _).mono ?_
    rintro en w2 ⟨rfl, hb_w2⟩
    have n_w2 := hb_w2
    have H_w2 := bt H_w1 n_w2
    have k_w1 := kc n_w2 l_w1 k_w1
    have l_w1 := kl n_w2 l_w1
    go_wp2_with fail
    refine (tbegun_any _).mono ?_
    rintro en w3 ⟨rfl, hb_w3⟩
    have n_w3 := hb_w3
    have H_w3 := bt H_w2 n_w3
    have k_w1 := kc n_w3 l_w1 k_w1
    have l_w1 := kl n_w3 l_w1
    go_wp2
    go_ret
    exact ⟨by first | rfl | (simp; done) | simp_all, H_w3⟩
  · obtain ⟨hx, hx'⟩ := core rfl rfl h (by omega)
    have hx' := hx' h'
    have hne : (k == j) = false := by simp; omega
    clear core
    go_enter Try.func8, Try.ntmps8

    go_wp2_with fail
    refine (n1 _).mono ?_
    rintro en w1 ⟨rfl, hb_w1⟩
    have n_w1 := bt ((br _).alloc (Nat.le_refl _) _) hb_w1
    have H_w1 := n_w1
    have k_w1 := boxc (bx hb_w1)
    have l_w1 := boxs (bx hb_w1)
    go_wp2_with fail
    refine (n2 _).mono ?_
    rintro en w2 ⟨rfl, hb_w2⟩
    have n_w2 := hb_w2
    have H_w2 := bt H_w1 n_w2
    have k_w1 := kc n_w2 l_w1 k_w1
    have l_w1 := kl n_w2 l_w1
    go_wp2_with fail
    refine (tbegun_any _).mono ?_
    rintro en w3 ⟨rfl, hb_w3⟩
    have n_w3 := hb_w3
    have H_w3 := bt H_w2 n_w3
    have k_w1 := kc n_w3 l_w1 k_w1
    have l_w1 := kl n_w3 l_w1
    go_wp2
    go_ret
    exact ⟨by first | rfl | (simp; done) | simp_all, H_w3⟩
end Dt
end Go.Proofs.Ytalmjeigfhjhfaa
