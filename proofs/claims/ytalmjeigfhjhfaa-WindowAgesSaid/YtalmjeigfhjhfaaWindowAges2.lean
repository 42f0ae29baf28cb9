/- The law on a class's window: all cases, and the argument's size. -/
import Derived.Test.YtalmjeigfhjhfaaWindowAges
import Derived.Test.YtalmjeigfhjhfaaOpenC
import Derived.SizedLaws
set_option linter.unusedVariables false
namespace Go.Proofs.Ytalmjeigfhjhfaa
open Go.ChangeShapes Go.WideShapes Go.ChangeAt Go.RowKit Go.Joins Go.Deep
theorem openClassesZ {H : Type} {enc : TypeId × Value → H} {W : World} {b0 : Nat} {v : Value} {d : DataW H} {p : List MemPlace} (hv0 : Value.okWide Try.prog W .any b0 24 v) (h : DataW.Trod enc Try.prog W 0 (fun _ => true) true 24 v d p) : ∃ xs : List Dt.Cl, Rd 3 Dt.eC W v xs ∧ (xs = [] ∨ ∃ elems spare, d = .slice elems spare ∧ elems.length = xs.length) := by
  obtain ⟨a0, len0, cap0, rfl⟩ := okWide_slice Try.underlying24 hv0
  obtain ⟨fuel, hf⟩ := h
  have hC : Try.prog.cellsOf 23 = 3 := by kernel_rfl
  have hCi : Try.prog.cellsOf 3 = 1 := by kernel_rfl
  rcases open_slice Try.underlying24 hf with ⟨h1, h2⟩ | ⟨a, len, cap, m, n, D, Pl, h1, h2, h3, h4, h5, h6, h7⟩
  · simp [Value.cells] at h1
    obtain ⟨rfl, rfl, rfl⟩ := h1
    exact ⟨[], Rd.nil W, .inl rfl⟩
  · simp [Value.cells] at h1
    obtain ⟨rfl, rfl, rfl⟩ := h1
    rw [if_pos rfl] at h5
    injection h6 with h6d _
    have key : ∀ i : Nat, ∃ q : Int × Int × Int, i < m → W.cell? (a.add (i * 3)) = some (.int .i64 q.1) ∧ W.cell? (a.add (i * 3 + 1)) = some (.int .i64 q.2.1) ∧ W.cell? (a.add (i * 3 + 2)) = some (.int .i64 q.2.2) := by
      intro i
      by_cases him : i < m
      · obtain ⟨cs', hc, ht⟩ := h7 i him
        rw [hC] at hc
        obtain ⟨_, hcl, hat⟩ := World.cells?_some hc
        obtain ⟨ys, n', _, _, _, _, hg⟩ := DataW.trod_struct Try.underlying23 ht
        match cs', hcl with
        | [c0, c1, c2], _ =>
          have g0 := hg 0 _ rfl
          have g1 := hg 1 _ rfl
          have g2 := hg 2 _ rfl
          have hy : ∀ (k : Nat) (y : Option (DataW H × List MemPlace)) (c : Value), DataW.trod enc Try.prog W 0 (fun _ => true) true n' 3 [c] = y → y ≠ none → ∃ q : Int, c = .int .i64 q := fun k y c hh hne => by
            obtain ⟨z, rfl⟩ := Option.ne_none_iff_exists'.1 hne
            obtain ⟨q, e, _, _⟩ := DataW.trod_int Try.underlying3 hh
            simp at e
            exact ⟨q, e⟩
          have hlen : ys.length = 3 := by assumption
          have e0 : DataW.trod enc Try.prog W 0 (fun _ => true) true n' 3 [c0] = ys[0]? := by simpa [hCi] using g0
          have e1 : DataW.trod enc Try.prog W 0 (fun _ => true) true n' 3 [c1] = ys[1]? := by simpa [hCi] using g1
          have e2 : DataW.trod enc Try.prog W 0 (fun _ => true) true n' 3 [c2] = ys[2]? := by simpa [hCi] using g2
          obtain ⟨q0, rfl⟩ := hy 0 _ c0 e0 (by rw [List.getElem?_eq_getElem (by omega)]; simp)
          obtain ⟨q1, rfl⟩ := hy 1 _ c1 e1 (by rw [List.getElem?_eq_getElem (by omega)]; simp)
          obtain ⟨q2, rfl⟩ := hy 2 _ c2 e2 (by rw [List.getElem?_eq_getElem (by omega)]; simp)
          refine ⟨(q0, q1, q2), fun _ => ⟨?_, ?_, ?_⟩⟩
          · have := hat 0 (by omega); rw [Addr.add_zero'] at this; simpa using this
          · have := hat 1 (by omega); rw [Go.Deep.add_add] at this; simpa using this
          · have := hat 2 (by omega); rw [Go.Deep.add_add] at this; simpa using this
      · exact ⟨(0, 0, 0), fun x => absurd x him⟩
    obtain ⟨f, hq⟩ := Classical.axiomOfChoice key
    have hl : ((List.range len0).map f).length = len0 := by simp
    refine ⟨(List.range len0).map f, ⟨some a, cap0, by rw [hl], by omega, h4, fun hn => ?_⟩, .inr ⟨_, _, h6d, by simp⟩⟩
    have c0 := (hq 0 (by omega)).1
    rw [Nat.zero_mul, Addr.add_zero'] at c0
    have ha := addr_of c0
    refine ⟨a.block, a.off, by rw [← ha], World.block_lt_of_cell? W a c0, fun i hi j u hu => ?_⟩
    have hil : i < len0 := by omega
    obtain ⟨ci, di, ei⟩ := hq i (by omega)
    rw [add_at ha] at ci di ei
    have hfi : ((List.range len0).map f)[i] = f i := by simp
    rw [hfi] at hu
    match j with
    | 0 => simp [Dt.eC] at hu; subst hu; exact ci
    | 1 => simp [Dt.eC] at hu; subst hu; exact di
    | 2 => simp [Dt.eC] at hu; subst hu; exact ei
    | j + 3 => simp [Dt.eC] at hu
theorem sizedClasses {H : Type} {ts : List TypeId} {ds : List (DataW H)} (hs : (DataW.weightsEach Try.prog ts ds).all (· ≤ reachBytes) = true) {j : Nat} (ht : ts[j]? = some 24) {d : DataW H} (hd : ds[j]? = some d) {xs : List Dt.Cl}
    (z : xs = [] ∨ ∃ elems spare, d = .slice elems spare ∧ elems.length = xs.length) : xs.length * 24 ≤ 140737488351232 := by
  rcases z with rfl | ⟨el, sp, rfl, hz⟩
  · simp
  · have hq := sized_slice hs ht hd Try.underlying24
    have hb : Try.prog.bytesOf 23 = 24 := by kernel_rfl
    have hr : reachBytes = 140737488351232 := rfl
    rw [hb, hr] at hq
    omega
namespace Dt
set_option maxHeartbeats 2000000 in
theorem wages_bad (b n : Int) (cf ct cp : Int) (v : Value) (w : World) (e : Int) (he : e ≠ 0)
    (N1 : RowKit.Hid (∀ w, Calls Try.prog 14 #[.int .i64 b, .agg #[.int .i64 cf, .int .i64 ct, .int .i64 cp]] w fun e' w' => e' = .returned (.tuple #[.agg #[.int .i64 0, .int .i64 0], .int .i64 e]) ∧ Below w.heap.size w w')) :
    Calls Try.prog 6 #[.int .i64 b, .agg #[.int .i64 cf, .int .i64 ct, .int .i64 cp], .int .i64 n, v] w fun e w' => e = .returned (.bool true) ∧ Below w.heap.size w w' := by
  have hb : (e != 0) = true := by simp [he]
  go_enter Try.func6, Try.ntmps6

  go_wp2_with fail
  refine (N1.out _).mono ?_
  rintro en w1 ⟨rfl, hb_w1⟩
  have n_w1 := bt ((br _).alloc (Nat.le_refl _) _) hb_w1
  have H_w1 := n_w1
  have k_w1 := boxc (bx hb_w1)
  have l_w1 := boxs (bx hb_w1)
  go_wp2_with fail
  refine (pbegun_any _).mono ?_
  rintro en w2 ⟨rfl, hb_w2⟩
  have n_w2 := bt ((br _).alloc (Nat.le_refl _) _) hb_w2
  have H_w2 := bt H_w1 n_w2
  have k_w1 := kc n_w2 l_w1 k_w1
  have l_w1 := kl n_w2 l_w1
  have k_w2 := boxc (bx hb_w2)
  have l_w2 := boxs (bx hb_w2)
  have d0 := k_w2 0; have d1 := k_w2 1
  simp only [List.getElem?_toArray, List.getElem?_cons_zero, List.getElem?_cons_succ] at d0 d1
  go_wp2
  go_ret
  exact ⟨by first | rfl | (simp; done), by first | exact H_w2 | exact bn H_w2 _⟩
theorem wages_end (b : Int) (c : Int × Int × Int) (n : Int) (v : Value) (xs : List Cl) (w : World) (_ : (Lit.int .i64 b).wf = true) (_ : Wf3 c) (_ : (Lit.int .i64 n).wf = true) (hl : Rd 3 eC w v xs) (hsz : xs.length * 24 ≤ 140737488351232) :
    Calls Try.prog 6 #[.int .i64 b, a3 c, .int .i64 n, v] w fun e w' => e = .returned (.bool true) ∧ Below w.heap.size w w' := by
  obtain ⟨⟨⟨X, Y⟩, e⟩, hw⟩ : ∃ r, winF b c = r := ⟨_, rfl⟩
  have n1 := window_x b c
  rw [hw] at n1
  by_cases he : e = 0
  · subst he
    obtain ⟨⟨a, f⟩, ha⟩ : ∃ r, ageF b n = r := ⟨_, rfl⟩
    obtain ⟨⟨p, g⟩, hp⟩ : ∃ r, percF b xs n = r := ⟨_, rfl⟩
    obtain ⟨⟨q, h⟩, hq⟩ : ∃ r, percF b (xs ++ [c]) n = r := ⟨_, rfl⟩
    have n2 := age_any b n
    have n3 := percent_any b v xs n
    have n4 := fun v => percent_any b v (xs ++ [c]) n
    unfold PairQ at n2 n3 n4
    rw [ha] at n2; rw [hp] at n3; rw [hq] at n4
    obtain ⟨A1, A2, A3⟩ := win_age hw ha
    exact wages_ok b n c.1 c.2.1 c.2.2 v xs w hl hsz X Y a f p g q h (Lib.hid n1) (Lib.hid n2) (Lib.hid n3) (Lib.hid n4) A1 A2 A3 (Lib.hid (fun g0 h0 => perc_more hw hp hq g0 h0))
  · rcases win_cases b c with ⟨e', g, hne⟩ | ⟨_, _, g⟩
    · rw [hw] at g
      injection g with g1 g2
      injection g1 with g1 g3
      subst g1; subst g3
      exact wages_bad b n c.1 c.2.1 c.2.2 v w e he (Lib.hid n1)
    · rw [hw] at g; injection g with _ g; exact absurd g he
end Dt
end Go.Proofs.Ytalmjeigfhjhfaa
