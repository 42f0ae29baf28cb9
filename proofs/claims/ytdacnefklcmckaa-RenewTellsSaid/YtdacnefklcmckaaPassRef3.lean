/- Passes: the document's: one renewed. (gen_pass3.py) -/
import Derived.Test.YtdacnefklcmckaaPassRef2
import Derived.Test.YtdacnefklcmckaaPassRenew
import Derived.Test.YtdacnefklcmckaaSpansRef5
import Derived.Deep.Cut
set_option linter.unusedSimpArgs false
set_option linter.unusedVariables false
namespace Go.Proofs.Ytdacnefklcmckaa
open Go.RowKit
namespace Pa
open Dt Sn
theorem nth_one {u N s T : Int} (h : nthF u N s 1 = (T, 0)) : 1 ≤ s ∧ s < T ∧ T ≤ 3652059 := by
  rcases nth_cases u N s 1 with ⟨c, hc, h0⟩ | ⟨⟨_, _, n1, _⟩, ⟨s1, s2, _, _⟩, hle, he⟩
  · rw [hc] at h; injection h with _ h; exact absurd h h0
  · rw [he] at h; injection h with h _
    have := rawT_lt (u := u) (N := N) (k := 0) (j := 1) (Int.le_refl s) s1 s2 n1 (by omega) (by omega) hle
    rw [rawT_zero s1 s2] at this
    exact ⟨s1, by omega, by omega⟩
def renG (p : Ps) (l : List Sp) (n u N : Int) : R3 := if passE p l = 0 then (if isD n = false then ((p0, []), 0, 3) else if (nthF u N (frm l n) 1).2 = 0 then (if bothE 0 l (oneL (frm l n) u N) = 0 then (if passE p (bothR 0 l (oneL (frm l n) u N)) = 0 then ((p, bothR 0 l (oneL (frm l n) u N)), (nthF u N (frm l n) 1).1 - frm l n, 0) else ((p0, []), 0, passE p (bothR 0 l (oneL (frm l n) u N)))) else ((p0, []), 0, bothE 0 l (oneL (frm l n) u N))) else ((p0, []), 0, (nthF u N (frm l n) 1).2)) else ((p0, []), 0, passE p l)
set_option maxRecDepth 100000 in
set_option maxHeartbeats 800000 in
theorem renewR_any (p : Ps) (d : Value) (l : List Sp) (n u N : Int) (w : World) (h : RdE elS w d l) : Calls Try.prog 21 #[aP p d, .int .i64 n, aT u N] w (R3Q (.slice none 0 0) (renG p l n u N) w) := by
  have C1 := Lib.hid (fun w' (hb : Below w.heap.size w w') => checkR_any p d l w' (h.below hb))
  have C3 := Lib.hid (fun w' (hb : Below w.heap.size w w') => endR_any p d l w' (h.below hb))
  have C6 := Lib.hid (fun f m w' (hf : RdE elS w' f m) => checkR_any p f m w' hf)
  have C5 := Lib.hid (fun f m w' (hb : Below w.heap.size w w') (hf : RdE elS w' f m) => bothR_any 0 (.inl rfl) d f l m w' (h.below hb) hf)
  have hn := fun w' => nthR_any (frm l n) u N 1 w'
  unfold Dt.PairQ at hn
  have HI := Lib.hid (fun w => noDay_any n w)
  have HB1 := Lib.hid (fun T hh => nth_one (u := u) (N := N) (s := frm l n) (T := T) hh)
  unfold renG oneL
  obtain ⟨r, hr⟩ : ∃ r, nthF u N (frm l n) 1 = r := ⟨_, rfl⟩
  rw [hr] at hn HB1 ⊢
  clear hr
  obtain ⟨T, E4⟩ := r
  try simp only at hn ⊢
  unfold aT at hn ⊢
  have C4 := Lib.hid hn
  clear hn
  obtain ⟨F, hF⟩ : ∃ F, frm l n = F := ⟨_, rfl⟩
  rw [hF] at C4 HB1 ⊢
  unfold frm at hF
  obtain ⟨en, hen⟩ : ∃ e, endD l = e := ⟨_, rfl⟩
  rw [hen] at C3 hF
  clear hen
  obtain ⟨E, hE⟩ : ∃ E, passE p l = E := ⟨_, rfl⟩
  rw [hE] at C1 ⊢
  clear hE
  obtain ⟨id, born, a, b, ser⟩ := p
  obtain ⟨x, cap, rfl, _, _, _⟩ := h
  have HA := Lib.hid ((((br w).alloc (Nat.le_refl _) (.cells #[.int .i64 id, .int .i64 born, .int .i64 a, .int .i64 b, .int .i64 ser, .slice x l.length cap] 24)).alloc (by simp) (.cells #[.int .i64 u, .int .i64 N] 26)).alloc (by simp; omega) (.cells #[.int .i64 0, .int .i64 0, .int .i64 0, .int .i64 0, .int .i64 0, .slice none 0 0] 24))
  have hx : Pb (w.alloc (.cells #[.int .i64 id, .int .i64 born, .int .i64 a, .int .i64 b, .int .i64 ser, .slice x l.length cap] 24)) w.heap.size ⟨id, born, a, b, ser⟩ (.slice x l.length cap) := Box.new w _ _
  have HX := Lib.hid (Box.alloc (Box.alloc hx (.cells #[.int .i64 u, .int .i64 N] 26)) (.cells #[.int .i64 0, .int .i64 0, .int .i64 0, .int .i64 0, .int .i64 0, .slice none 0 0] 24))
  have ht : Box ((w.alloc (.cells #[.int .i64 id, .int .i64 born, .int .i64 a, .int .i64 b, .int .i64 ser, .slice x l.length cap] 24)).alloc (.cells #[.int .i64 u, .int .i64 N] 26)) (w.alloc (.cells #[.int .i64 id, .int .i64 born, .int .i64 a, .int .i64 b, .int .i64 ser, .slice x l.length cap] 24)).heap.size 26 [.int .i64 u, .int .i64 N] := Box.new _ _ _
  rw [asz] at ht
  have HT := Lib.hid (Box.alloc ht (.cells #[.int .i64 0, .int .i64 0, .int .i64 0, .int .i64 0, .int .i64 0, .slice none 0 0] 24))
  have hy : Pb (((w.alloc (.cells #[.int .i64 id, .int .i64 born, .int .i64 a, .int .i64 b, .int .i64 ser, .slice x l.length cap] 24)).alloc (.cells #[.int .i64 u, .int .i64 N] 26)).alloc (.cells #[.int .i64 0, .int .i64 0, .int .i64 0, .int .i64 0, .int .i64 0, .slice none 0 0] 24)) ((w.alloc (.cells #[.int .i64 id, .int .i64 born, .int .i64 a, .int .i64 b, .int .i64 ser, .slice x l.length cap] 24)).alloc (.cells #[.int .i64 u, .int .i64 N] 26)).heap.size ⟨0, 0, 0, 0, 0⟩ (.slice none 0 0) := Box.new _ _ _
  rw [asz, asz] at hy
  have HY := Lib.hid hy
  clear hy hx ht
  by_cases c : E = 0
  · subst c
    rw [if_pos (show (0 : Int) = 0 from rfl)]
    cases hD : isD n with
    | false =>
      rw [if_pos rfl]
      rw [hD] at HI
      clear hD C6 C3 C4 C5 HB1
      go_enter Try.func21, Try.ntmps21
      go_wp2_with fail
      refine (C1.out _ (by first | exact HA.out | exact bn HA.out _)).mono ?_
      rintro en w2 ⟨rfl, b2⟩
      have HB := Lib.hid (bt HA.out b2)
      have hx := HX.out.next b2
      have hy := HY.out.next b2
      have ht := HT.out.next b2
      have hlt := hy.lt
      have hlt0 := hx.lt
      have hlt1 := ht.lt
      have k0 := hx.cell 0; have k1 := hx.cell 1; have k2 := hx.cell 2; have k3 := hx.cell 3; have k4 := hx.cell 4; have k5 := hx.cell 5
      simp only [List.getElem?_cons_zero, List.getElem?_cons_succ] at k0 k1 k2 k3 k4 k5
      have t0 := ht.cell 0; have t1 := ht.cell 1
      simp only [List.getElem?_cons_zero, List.getElem?_cons_succ] at t0 t1
      have z0 := hy.cell 0; have z1 := hy.cell 1; have z2 := hy.cell 2; have z3 := hy.cell 3; have z4 := hy.cell 4; have z5 := hy.cell 5
      simp only [List.getElem?_cons_zero, List.getElem?_cons_succ] at z0 z1 z2 z3 z4 z5
      have f0 := hy.froz 0; have f1 := hy.froz 1; have f2 := hy.froz 2; have f3 := hy.froz 3; have f4 := hy.froz 4; have f5 := hy.froz 5
      have HX2 := Lib.hid hx; have HY2 := Lib.hid hy; have HT2 := Lib.hid ht
      clear b2 hx hy ht HX HA HY HT C1
      go_wp2_with (first | (go_at_call 32; (with_reducible refine (HI.out _).mono ?_); rintro en w3 ⟨rfl, rfl⟩))
      have P := Pb.put HY2.out ⟨0, 0, 0, 0, 0⟩ (.slice none 0 0)
      have Q := below6 HB.out (b := w.heap.size + 2) (by omega) (.int .i64 0) (.int .i64 0) (.int .i64 0) (.int .i64 0) (.int .i64 0) ((.slice none 0 0))
      generalize (((((w2.setCell ⟨w.heap.size + 2, 0, none⟩ (.int .i64 0)).setCell ⟨w.heap.size + 2, 1, none⟩ (.int .i64 0)).setCell ⟨w.heap.size + 2, 2, none⟩ (.int .i64 0)).setCell ⟨w.heap.size + 2, 3, none⟩ (.int .i64 0)).setCell ⟨w.heap.size + 2, 4, none⟩ (.int .i64 0)).setCell ⟨w.heap.size + 2, 5, none⟩ ((.slice none 0 0)) = W2 at P Q ⊢
      have y0 := P.cell 0; have y1 := P.cell 1; have y2 := P.cell 2; have y3 := P.cell 3; have y4 := P.cell 4; have y5 := P.cell 5
      simp only [List.getElem?_cons_zero, List.getElem?_cons_succ] at y0 y1 y2 y3 y4 y5
      refine bodyPost_ret (v := .tuple #[aP ⟨0, 0, 0, 0, 0⟩ (.slice none 0 0), .int .i64 0, .int .i64 3]) (by simp [results, Try.results21, go_sem, y0, y1, y2, y3, y4, y5]) rfl ⟨_, rfl, rd_nil _, fun _ _ _ => off_nil _, Q⟩
    | true =>
      rw [if_neg (by simp)]
      rw [hD] at HI
      clear hD
      obtain ⟨R, hR⟩ : ∃ R : R3, (if E4 = 0 then (if bothE 0 l (if E4 = 0 then [(F, T)] else []) = 0 then (if passE ⟨id, born, a, b, ser⟩ (bothR 0 l (if E4 = 0 then [(F, T)] else [])) = 0 then ((⟨id, born, a, b, ser⟩, bothR 0 l (if E4 = 0 then [(F, T)] else [])), T - F, 0) else ((p0, []), 0, passE ⟨id, born, a, b, ser⟩ (bothR 0 l (if E4 = 0 then [(F, T)] else [])))) else ((p0, []), 0, bothE 0 l (if E4 = 0 then [(F, T)] else []))) else ((p0, []), 0, E4)) = R := ⟨_, rfl⟩
      rw [hR]
      have HR := Lib.hid hR
      clear hR
      by_cases cF : en < n
      · have hFe : F = n := by rw [← hF, Int.max_def]; split <;> omega
        subst hFe
        clear hF
        go_enter Try.func21, Try.ntmps21
        go_wp2_with fail
        refine (C1.out _ (by first | exact HA.out | exact bn HA.out _)).mono ?_
        rintro en w2 ⟨rfl, b2⟩
        have HB := Lib.hid (bt HA.out b2)
        have hx := HX.out.next b2
        have hy := HY.out.next b2
        have ht := HT.out.next b2
        have hlt := hy.lt
        have hlt0 := hx.lt
        have hlt1 := ht.lt
        have k0 := hx.cell 0; have k1 := hx.cell 1; have k2 := hx.cell 2; have k3 := hx.cell 3; have k4 := hx.cell 4; have k5 := hx.cell 5
        simp only [List.getElem?_cons_zero, List.getElem?_cons_succ] at k0 k1 k2 k3 k4 k5
        have t0 := ht.cell 0; have t1 := ht.cell 1
        simp only [List.getElem?_cons_zero, List.getElem?_cons_succ] at t0 t1
        have HX2 := Lib.hid hx; have HY2 := Lib.hid hy; have HT2 := Lib.hid ht
        clear b2 hx hy ht HX HA HY HT C1
        go_wp2_with (first | (go_at_call 32; (with_reducible refine (HI.out _).mono ?_); rintro en w3 ⟨rfl, rfl⟩))
        refine (C3.out _ HB.out).mono ?_
        rintro en2 w3 ⟨rfl, b3⟩
        have HB3 := Lib.hid (bt HB.out b3)
        have hx := HX2.out.next b3
        have ht := HT2.out.next b3
        have HY3 := Lib.hid (HY2.out.next b3)
        clear k0 k1 k2 k3 k4 k5 t0 t1 b3 HX2 HT2 HY2 HB hlt hlt0 hlt1
        have k0 := hx.cell 0; have k1 := hx.cell 1; have k2 := hx.cell 2; have k3 := hx.cell 3; have k4 := hx.cell 4; have k5 := hx.cell 5
        simp only [List.getElem?_cons_zero, List.getElem?_cons_succ] at k0 k1 k2 k3 k4 k5
        have t0 := ht.cell 0; have t1 := ht.cell 1
        simp only [List.getElem?_cons_zero, List.getElem?_cons_succ] at t0 t1
        have HX3 := Lib.hid hx; have HT3 := Lib.hid ht
        clear hx ht
        go_wp2_with fail
        refine (C4.out _).mono ?_
        rintro en3 w4 ⟨rfl, b4⟩
        have HB4 := Lib.hid (bt HB3.out b4)
        have hx := HX3.out.next b4
        have HY4 := Lib.hid (HY3.out.next b4)
        clear k0 k1 k2 k3 k4 k5 t0 t1 b4 HX3 HT3 HY3 HB3
        have k0 := hx.cell 0; have k1 := hx.cell 1; have k2 := hx.cell 2; have k3 := hx.cell 3; have k4 := hx.cell 4; have k5 := hx.cell 5
        simp only [List.getElem?_cons_zero, List.getElem?_cons_succ] at k0 k1 k2 k3 k4 k5
        have HX4 := Lib.hid hx
        have hlt := hx.lt
        clear hx
        have hR := HR.out
        clear HR
        by_cases c4 : E4 = 0
        · subst c4
          have hbd := HB1.out T rfl
          rw [if_pos rfl, if_pos rfl] at hR
          obtain ⟨E5, hE5⟩ : ∃ E, bothE 0 l [(F, T)] = E := ⟨_, rfl⟩
          obtain ⟨M0, hM0⟩ : ∃ E, bothR 0 l [(F, T)] = E := ⟨_, rfl⟩
          have c5q := fun f w' hb hf => C5.out f [(F, T)] w' hb hf
          rw [hE5, hM0] at c5q hR
          obtain ⟨E6, hE6⟩ : ∃ E, passE ⟨id, born, a, b, ser⟩ M0 = E := ⟨_, rfl⟩
          have c6q := fun f w' hf => C6.out f M0 w' hf
          rw [hE6] at c6q hR
          have HC5 := Lib.hid c5q; have HC6 := Lib.hid c6q
          have HL := Lib.hid (rd_lit elS [(F, T)] w4 51 (0, 0) w4.heap.size rfl (by simp [maxLen]))
          have HR2 := Lib.hid hR
          clear hE5 hM0 hE6 c5q c6q C5 C6 hR
          go_wp2_with fail
          refine (HC5.out _ _ (HB4.out.alloc HB4.out.size _) HL.out).mono ?_
          rintro en4 w5 ⟨v5, rfl, ho5, b5⟩
          have HB5 := Lib.hid (bt (HB4.out.alloc HB4.out.size _) b5)
          have hx := (HX4.out.alloc _).next b5
          have HY5 := Lib.hid ((HY4.out.alloc _).next b5)
          have HV5 := Lib.hid ho5.rd
          have hlt4 := HY4.out.lt
          have HO5 := Lib.hid (fun b (hb : b < w.heap.size + 3) => off_own ho5 (b := b) (by simp; omega))
          obtain ⟨x5, cap5, rfl, _, _, _⟩ := ho5.rd
          clear ho5 b5 k0 k1 k2 k3 k4 k5 HL HX4 HY4 HC5
          have k0 := hx.cell 0; have k1 := hx.cell 1; have k2 := hx.cell 2; have k3 := hx.cell 3; have k4 := hx.cell 4; have k5 := hx.cell 5
          simp only [List.getElem?_cons_zero, List.getElem?_cons_succ] at k0 k1 k2 k3 k4 k5
          have hlt := hx.lt
          clear hx
          have hR := HR2.out
          clear HR2
          by_cases c5 : E5 = 0
          · subst c5
            rw [if_pos rfl] at hR
            have HR3 := Lib.hid hR
            clear hR
            go_wp2_with fail
            have hq : Pb (w5.alloc (.cells #[.int .i64 id, .int .i64 born, .int .i64 a, .int .i64 b, .int .i64 ser, .slice x5 M0.length cap5] 24)) w5.heap.size ⟨id, born, a, b, ser⟩ (.slice x5 M0.length cap5) := Box.new w5 _ _
            refine (HC6.out _ _ (HV5.out.below ((br w5).alloc (Nat.le_refl _) _))).mono ?_
            rintro en5 w6 ⟨rfl, b6⟩
            have HB6 := Lib.hid (bt (HB5.out.alloc HB5.out.size _) b6)
            have hq6 := hq.next b6
            have hy := (HY5.out.alloc _).next b6
            have HV6 := Lib.hid (Rd.below (HV5.out.below ((br w5).alloc (Nat.le_refl _) (.cells #[.int .i64 id, .int .i64 born, .int .i64 a, .int .i64 b, .int .i64 ser, .slice x5 M0.length cap5] 24))) b6)
            have hlt2 := hy.lt
            have hlt3 := hq6.lt
            clear k0 k1 k2 k3 k4 k5 b6 hq
          
            have k0 := hq6.cell 0; have k1 := hq6.cell 1; have k2 := hq6.cell 2; have k3 := hq6.cell 3; have k4 := hq6.cell 4; have k5 := hq6.cell 5
            simp only [List.getElem?_cons_zero, List.getElem?_cons_succ] at k0 k1 k2 k3 k4 k5
            have z0 := hy.cell 0; have z1 := hy.cell 1; have z2 := hy.cell 2; have z3 := hy.cell 3; have z4 := hy.cell 4; have z5 := hy.cell 5
            simp only [List.getElem?_cons_zero, List.getElem?_cons_succ] at z0 z1 z2 z3 z4 z5
            have f0 := hy.froz 0; have f1 := hy.froz 1; have f2 := hy.froz 2; have f3 := hy.froz 3; have f4 := hy.froz 4; have f5 := hy.froz 5
            have HY6 := Lib.hid hy
            have hR := HR3.out
            clear HR3 hq6 hy HY5 HB5 HC6 HV5
            by_cases c6 : E6 = 0
            · rw [if_pos c6] at hR
              subst c6
              subst hR
              go_wp2
              have P := Pb.put HY6.out ⟨id, born, a, b, ser⟩ (.slice x5 M0.length cap5)
              have Q := below6 HB6.out (b := w.heap.size + 2) (by omega) (.int .i64 id) (.int .i64 born) (.int .i64 a) (.int .i64 b) (.int .i64 ser) ((.slice x5 M0.length cap5))
              have R := rd_put6 (b := w.heap.size + 2) HV6.out (HO5.out _ (by omega)) (.int .i64 id) (.int .i64 born) (.int .i64 a) (.int .i64 b) (.int .i64 ser) ((.slice x5 M0.length cap5))
              generalize (((((w6.setCell ⟨w.heap.size + 2, 0, none⟩ (.int .i64 id)).setCell ⟨w.heap.size + 2, 1, none⟩ (.int .i64 born)).setCell ⟨w.heap.size + 2, 2, none⟩ (.int .i64 a)).setCell ⟨w.heap.size + 2, 3, none⟩ (.int .i64 b)).setCell ⟨w.heap.size + 2, 4, none⟩ (.int .i64 ser)).setCell ⟨w.heap.size + 2, 5, none⟩ ((.slice x5 M0.length cap5)) = W2 at P Q R ⊢
              have y0 := P.cell 0; have y1 := P.cell 1; have y2 := P.cell 2; have y3 := P.cell 3; have y4 := P.cell 4; have y5 := P.cell 5
              simp only [List.getElem?_cons_zero, List.getElem?_cons_succ] at y0 y1 y2 y3 y4 y5
              refine bodyPost_ret (v := .tuple #[aP ⟨id, born, a, b, ser⟩ (.slice x5 M0.length cap5), .int .i64 (T - F), .int .i64 0]) (by simp [results, Try.results21, go_sem, y0, y1, y2, y3, y4, y5]) rfl ⟨_, rfl, R, fun b hb _ => HO5.out b (by omega), Q⟩
            · rw [if_neg c6] at hR
              subst hR
              have hz : (E6 == 0) = false := by simpa using c6
              go_wp2
              have P := Pb.put HY6.out ⟨0, 0, 0, 0, 0⟩ (.slice none 0 0)
              have Q := below6 HB6.out (b := w.heap.size + 2) (by omega) (.int .i64 0) (.int .i64 0) (.int .i64 0) (.int .i64 0) (.int .i64 0) ((.slice none 0 0))
              generalize (((((w6.setCell ⟨w.heap.size + 2, 0, none⟩ (.int .i64 0)).setCell ⟨w.heap.size + 2, 1, none⟩ (.int .i64 0)).setCell ⟨w.heap.size + 2, 2, none⟩ (.int .i64 0)).setCell ⟨w.heap.size + 2, 3, none⟩ (.int .i64 0)).setCell ⟨w.heap.size + 2, 4, none⟩ (.int .i64 0)).setCell ⟨w.heap.size + 2, 5, none⟩ ((.slice none 0 0)) = W2 at P Q ⊢
              have y0 := P.cell 0; have y1 := P.cell 1; have y2 := P.cell 2; have y3 := P.cell 3; have y4 := P.cell 4; have y5 := P.cell 5
              simp only [List.getElem?_cons_zero, List.getElem?_cons_succ] at y0 y1 y2 y3 y4 y5
              refine bodyPost_ret (v := .tuple #[aP ⟨0, 0, 0, 0, 0⟩ (.slice none 0 0), .int .i64 0, .int .i64 E6]) (by simp [results, Try.results21, go_sem, y0, y1, y2, y3, y4, y5]) rfl ⟨_, rfl, rd_nil _, fun _ _ _ => off_nil _, Q⟩
          · rw [if_neg c5] at hR
            subst hR
            have hz : (E5 == 0) = false := by simpa using c5
            have hy := HY5.out
            have hlt2 := hy.lt
            have z0 := hy.cell 0; have z1 := hy.cell 1; have z2 := hy.cell 2; have z3 := hy.cell 3; have z4 := hy.cell 4; have z5 := hy.cell 5
            simp only [List.getElem?_cons_zero, List.getElem?_cons_succ] at z0 z1 z2 z3 z4 z5
            have f0 := hy.froz 0; have f1 := hy.froz 1; have f2 := hy.froz 2; have f3 := hy.froz 3; have f4 := hy.froz 4; have f5 := hy.froz 5
            clear hy HC6
            go_wp2
            have P := Pb.put HY5.out ⟨0, 0, 0, 0, 0⟩ (.slice none 0 0)
            have Q := below6 HB5.out (b := w.heap.size + 2) (by omega) (.int .i64 0) (.int .i64 0) (.int .i64 0) (.int .i64 0) (.int .i64 0) ((.slice none 0 0))
            generalize (((((w5.setCell ⟨w.heap.size + 2, 0, none⟩ (.int .i64 0)).setCell ⟨w.heap.size + 2, 1, none⟩ (.int .i64 0)).setCell ⟨w.heap.size + 2, 2, none⟩ (.int .i64 0)).setCell ⟨w.heap.size + 2, 3, none⟩ (.int .i64 0)).setCell ⟨w.heap.size + 2, 4, none⟩ (.int .i64 0)).setCell ⟨w.heap.size + 2, 5, none⟩ ((.slice none 0 0)) = W2 at P Q ⊢
            have y0 := P.cell 0; have y1 := P.cell 1; have y2 := P.cell 2; have y3 := P.cell 3; have y4 := P.cell 4; have y5 := P.cell 5
            simp only [List.getElem?_cons_zero, List.getElem?_cons_succ] at y0 y1 y2 y3 y4 y5
            refine bodyPost_ret (v := .tuple #[aP ⟨0, 0, 0, 0, 0⟩ (.slice none 0 0), .int .i64 0, .int .i64 E5]) (by simp [results, Try.results21, go_sem, y0, y1, y2, y3, y4, y5]) rfl ⟨_, rfl, rd_nil _, fun _ _ _ => off_nil _, Q⟩
        · rw [if_neg c4] at hR
          subst hR
          have hz : (E4 == 0) = false := by simpa using c4
          have hy := HY4.out
          have hlt2 := hy.lt
          have z0 := hy.cell 0; have z1 := hy.cell 1; have z2 := hy.cell 2; have z3 := hy.cell 3; have z4 := hy.cell 4; have z5 := hy.cell 5
          simp only [List.getElem?_cons_zero, List.getElem?_cons_succ] at z0 z1 z2 z3 z4 z5
          have f0 := hy.froz 0; have f1 := hy.froz 1; have f2 := hy.froz 2; have f3 := hy.froz 3; have f4 := hy.froz 4; have f5 := hy.froz 5
          clear hy C5 C6
          go_wp2
          have P := Pb.put HY4.out ⟨0, 0, 0, 0, 0⟩ (.slice none 0 0)
          have Q := below6 HB4.out (b := w.heap.size + 2) (by omega) (.int .i64 0) (.int .i64 0) (.int .i64 0) (.int .i64 0) (.int .i64 0) ((.slice none 0 0))
          generalize (((((w4.setCell ⟨w.heap.size + 2, 0, none⟩ (.int .i64 0)).setCell ⟨w.heap.size + 2, 1, none⟩ (.int .i64 0)).setCell ⟨w.heap.size + 2, 2, none⟩ (.int .i64 0)).setCell ⟨w.heap.size + 2, 3, none⟩ (.int .i64 0)).setCell ⟨w.heap.size + 2, 4, none⟩ (.int .i64 0)).setCell ⟨w.heap.size + 2, 5, none⟩ ((.slice none 0 0)) = W2 at P Q ⊢
          have y0 := P.cell 0; have y1 := P.cell 1; have y2 := P.cell 2; have y3 := P.cell 3; have y4 := P.cell 4; have y5 := P.cell 5
          simp only [List.getElem?_cons_zero, List.getElem?_cons_succ] at y0 y1 y2 y3 y4 y5
          refine bodyPost_ret (v := .tuple #[aP ⟨0, 0, 0, 0, 0⟩ (.slice none 0 0), .int .i64 0, .int .i64 E4]) (by simp [results, Try.results21, go_sem, y0, y1, y2, y3, y4, y5]) rfl ⟨_, rfl, rd_nil _, fun _ _ _ => off_nil _, Q⟩
      · have hFe : F = en := by rw [← hF, Int.max_def]; split <;> omega
        subst hFe
        clear hF
        go_enter Try.func21, Try.ntmps21
        go_wp2_with fail
        refine (C1.out _ (by first | exact HA.out | exact bn HA.out _)).mono ?_
        rintro en w2 ⟨rfl, b2⟩
        have HB := Lib.hid (bt HA.out b2)
        have hx := HX.out.next b2
        have hy := HY.out.next b2
        have ht := HT.out.next b2
        have hlt := hy.lt
        have hlt0 := hx.lt
        have hlt1 := ht.lt
        have k0 := hx.cell 0; have k1 := hx.cell 1; have k2 := hx.cell 2; have k3 := hx.cell 3; have k4 := hx.cell 4; have k5 := hx.cell 5
        simp only [List.getElem?_cons_zero, List.getElem?_cons_succ] at k0 k1 k2 k3 k4 k5
        have t0 := ht.cell 0; have t1 := ht.cell 1
        simp only [List.getElem?_cons_zero, List.getElem?_cons_succ] at t0 t1
        have HX2 := Lib.hid hx; have HY2 := Lib.hid hy; have HT2 := Lib.hid ht
        clear b2 hx hy ht HX HA HY HT C1
        go_wp2_with (first | (go_at_call 32; (with_reducible refine (HI.out _).mono ?_); rintro en w3 ⟨rfl, rfl⟩))
        refine (C3.out _ HB.out).mono ?_
        rintro en2 w3 ⟨rfl, b3⟩
        have HB3 := Lib.hid (bt HB.out b3)
        have hx := HX2.out.next b3
        have ht := HT2.out.next b3
        have HY3 := Lib.hid (HY2.out.next b3)
        clear k0 k1 k2 k3 k4 k5 t0 t1 b3 HX2 HT2 HY2 HB hlt hlt0 hlt1
        have k0 := hx.cell 0; have k1 := hx.cell 1; have k2 := hx.cell 2; have k3 := hx.cell 3; have k4 := hx.cell 4; have k5 := hx.cell 5
        simp only [List.getElem?_cons_zero, List.getElem?_cons_succ] at k0 k1 k2 k3 k4 k5
        have t0 := ht.cell 0; have t1 := ht.cell 1
        simp only [List.getElem?_cons_zero, List.getElem?_cons_succ] at t0 t1
        have HX3 := Lib.hid hx; have HT3 := Lib.hid ht
        clear hx ht
        go_wp2_with fail
        refine (C4.out _).mono ?_
        rintro en3 w4 ⟨rfl, b4⟩
        have HB4 := Lib.hid (bt HB3.out b4)
        have hx := HX3.out.next b4
        have HY4 := Lib.hid (HY3.out.next b4)
        clear k0 k1 k2 k3 k4 k5 t0 t1 b4 HX3 HT3 HY3 HB3
        have k0 := hx.cell 0; have k1 := hx.cell 1; have k2 := hx.cell 2; have k3 := hx.cell 3; have k4 := hx.cell 4; have k5 := hx.cell 5
        simp only [List.getElem?_cons_zero, List.getElem?_cons_succ] at k0 k1 k2 k3 k4 k5
        have HX4 := Lib.hid hx
        have hlt := hx.lt
        clear hx
        have hR := HR.out
        clear HR
        by_cases c4 : E4 = 0
        · subst c4
          have hbd := HB1.out T rfl
          rw [if_pos rfl, if_pos rfl] at hR
          obtain ⟨E5, hE5⟩ : ∃ E, bothE 0 l [(F, T)] = E := ⟨_, rfl⟩
          obtain ⟨M0, hM0⟩ : ∃ E, bothR 0 l [(F, T)] = E := ⟨_, rfl⟩
          have c5q := fun f w' hb hf => C5.out f [(F, T)] w' hb hf
          rw [hE5, hM0] at c5q hR
          obtain ⟨E6, hE6⟩ : ∃ E, passE ⟨id, born, a, b, ser⟩ M0 = E := ⟨_, rfl⟩
          have c6q := fun f w' hf => C6.out f M0 w' hf
          rw [hE6] at c6q hR
          have HC5 := Lib.hid c5q; have HC6 := Lib.hid c6q
          have HL := Lib.hid (rd_lit elS [(F, T)] w4 51 (0, 0) w4.heap.size rfl (by simp [maxLen]))
          have HR2 := Lib.hid hR
          clear hE5 hM0 hE6 c5q c6q C5 C6 hR
          go_wp2_with fail
          refine (HC5.out _ _ (HB4.out.alloc HB4.out.size _) HL.out).mono ?_
          rintro en4 w5 ⟨v5, rfl, ho5, b5⟩
          have HB5 := Lib.hid (bt (HB4.out.alloc HB4.out.size _) b5)
          have hx := (HX4.out.alloc _).next b5
          have HY5 := Lib.hid ((HY4.out.alloc _).next b5)
          have HV5 := Lib.hid ho5.rd
          have hlt4 := HY4.out.lt
          have HO5 := Lib.hid (fun b (hb : b < w.heap.size + 3) => off_own ho5 (b := b) (by simp; omega))
          obtain ⟨x5, cap5, rfl, _, _, _⟩ := ho5.rd
          clear ho5 b5 k0 k1 k2 k3 k4 k5 HL HX4 HY4 HC5
          have k0 := hx.cell 0; have k1 := hx.cell 1; have k2 := hx.cell 2; have k3 := hx.cell 3; have k4 := hx.cell 4; have k5 := hx.cell 5
          simp only [List.getElem?_cons_zero, List.getElem?_cons_succ] at k0 k1 k2 k3 k4 k5
          have hlt := hx.lt
          clear hx
          have hR := HR2.out
          clear HR2
          by_cases c5 : E5 = 0
          · subst c5
            rw [if_pos rfl] at hR
            have HR3 := Lib.hid hR
            clear hR
            go_wp2_with fail
            have hq : Pb (w5.alloc (.cells #[.int .i64 id, .int .i64 born, .int .i64 a, .int .i64 b, .int .i64 ser, .slice x5 M0.length cap5] 24)) w5.heap.size ⟨id, born, a, b, ser⟩ (.slice x5 M0.length cap5) := Box.new w5 _ _
            refine (HC6.out _ _ (HV5.out.below ((br w5).alloc (Nat.le_refl _) _))).mono ?_
            rintro en5 w6 ⟨rfl, b6⟩
            have HB6 := Lib.hid (bt (HB5.out.alloc HB5.out.size _) b6)
            have hq6 := hq.next b6
            have hy := (HY5.out.alloc _).next b6
            have HV6 := Lib.hid (Rd.below (HV5.out.below ((br w5).alloc (Nat.le_refl _) (.cells #[.int .i64 id, .int .i64 born, .int .i64 a, .int .i64 b, .int .i64 ser, .slice x5 M0.length cap5] 24))) b6)
            have hlt2 := hy.lt
            have hlt3 := hq6.lt
            clear k0 k1 k2 k3 k4 k5 b6 hq
          
            have k0 := hq6.cell 0; have k1 := hq6.cell 1; have k2 := hq6.cell 2; have k3 := hq6.cell 3; have k4 := hq6.cell 4; have k5 := hq6.cell 5
            simp only [List.getElem?_cons_zero, List.getElem?_cons_succ] at k0 k1 k2 k3 k4 k5
            have z0 := hy.cell 0; have z1 := hy.cell 1; have z2 := hy.cell 2; have z3 := hy.cell 3; have z4 := hy.cell 4; have z5 := hy.cell 5
            simp only [List.getElem?_cons_zero, List.getElem?_cons_succ] at z0 z1 z2 z3 z4 z5
            have f0 := hy.froz 0; have f1 := hy.froz 1; have f2 := hy.froz 2; have f3 := hy.froz 3; have f4 := hy.froz 4; have f5 := hy.froz 5
            have HY6 := Lib.hid hy
            have hR := HR3.out
            clear HR3 hq6 hy HY5 HB5 HC6 HV5
            by_cases c6 : E6 = 0
            · rw [if_pos c6] at hR
              subst c6
              subst hR
              go_wp2
              have P := Pb.put HY6.out ⟨id, born, a, b, ser⟩ (.slice x5 M0.length cap5)
              have Q := below6 HB6.out (b := w.heap.size + 2) (by omega) (.int .i64 id) (.int .i64 born) (.int .i64 a) (.int .i64 b) (.int .i64 ser) ((.slice x5 M0.length cap5))
              have R := rd_put6 (b := w.heap.size + 2) HV6.out (HO5.out _ (by omega)) (.int .i64 id) (.int .i64 born) (.int .i64 a) (.int .i64 b) (.int .i64 ser) ((.slice x5 M0.length cap5))
              generalize (((((w6.setCell ⟨w.heap.size + 2, 0, none⟩ (.int .i64 id)).setCell ⟨w.heap.size + 2, 1, none⟩ (.int .i64 born)).setCell ⟨w.heap.size + 2, 2, none⟩ (.int .i64 a)).setCell ⟨w.heap.size + 2, 3, none⟩ (.int .i64 b)).setCell ⟨w.heap.size + 2, 4, none⟩ (.int .i64 ser)).setCell ⟨w.heap.size + 2, 5, none⟩ ((.slice x5 M0.length cap5)) = W2 at P Q R ⊢
              have y0 := P.cell 0; have y1 := P.cell 1; have y2 := P.cell 2; have y3 := P.cell 3; have y4 := P.cell 4; have y5 := P.cell 5
              simp only [List.getElem?_cons_zero, List.getElem?_cons_succ] at y0 y1 y2 y3 y4 y5
              refine bodyPost_ret (v := .tuple #[aP ⟨id, born, a, b, ser⟩ (.slice x5 M0.length cap5), .int .i64 (T - F), .int .i64 0]) (by simp [results, Try.results21, go_sem, y0, y1, y2, y3, y4, y5]) rfl ⟨_, rfl, R, fun b hb _ => HO5.out b (by omega), Q⟩
            · rw [if_neg c6] at hR
              subst hR
              have hz : (E6 == 0) = false := by simpa using c6
              go_wp2
              have P := Pb.put HY6.out ⟨0, 0, 0, 0, 0⟩ (.slice none 0 0)
              have Q := below6 HB6.out (b := w.heap.size + 2) (by omega) (.int .i64 0) (.int .i64 0) (.int .i64 0) (.int .i64 0) (.int .i64 0) ((.slice none 0 0))
              generalize (((((w6.setCell ⟨w.heap.size + 2, 0, none⟩ (.int .i64 0)).setCell ⟨w.heap.size + 2, 1, none⟩ (.int .i64 0)).setCell ⟨w.heap.size + 2, 2, none⟩ (.int .i64 0)).setCell ⟨w.heap.size + 2, 3, none⟩ (.int .i64 0)).setCell ⟨w.heap.size + 2, 4, none⟩ (.int .i64 0)).setCell ⟨w.heap.size + 2, 5, none⟩ ((.slice none 0 0)) = W2 at P Q ⊢
              have y0 := P.cell 0; have y1 := P.cell 1; have y2 := P.cell 2; have y3 := P.cell 3; have y4 := P.cell 4; have y5 := P.cell 5
              simp only [List.getElem?_cons_zero, List.getElem?_cons_succ] at y0 y1 y2 y3 y4 y5
              refine bodyPost_ret (v := .tuple #[aP ⟨0, 0, 0, 0, 0⟩ (.slice none 0 0), .int .i64 0, .int .i64 E6]) (by simp [results, Try.results21, go_sem, y0, y1, y2, y3, y4, y5]) rfl ⟨_, rfl, rd_nil _, fun _ _ _ => off_nil _, Q⟩
          · rw [if_neg c5] at hR
            subst hR
            have hz : (E5 == 0) = false := by simpa using c5
            have hy := HY5.out
            have hlt2 := hy.lt
            have z0 := hy.cell 0; have z1 := hy.cell 1; have z2 := hy.cell 2; have z3 := hy.cell 3; have z4 := hy.cell 4; have z5 := hy.cell 5
            simp only [List.getElem?_cons_zero, List.getElem?_cons_succ] at z0 z1 z2 z3 z4 z5
            have f0 := hy.froz 0; have f1 := hy.froz 1; have f2 := hy.froz 2; have f3 := hy.froz 3; have f4 := hy.froz 4; have f5 := hy.froz 5
            clear hy HC6
            go_wp2
            have P := Pb.put HY5.out ⟨0, 0, 0, 0, 0⟩ (.slice none 0 0)
            have Q := below6 HB5.out (b := w.heap.size + 2) (by omega) (.int .i64 0) (.int .i64 0) (.int .i64 0) (.int .i64 0) (.int .i64 0) ((.slice none 0 0))
            generalize (((((w5.setCell ⟨w.heap.size + 2, 0, none⟩ (.int .i64 0)).setCell ⟨w.heap.size + 2, 1, none⟩ (.int .i64 0)).setCell ⟨w.heap.size + 2, 2, none⟩ (.int .i64 0)).setCell ⟨w.heap.size + 2, 3, none⟩ (.int .i64 0)).setCell ⟨w.heap.size + 2, 4, none⟩ (.int .i64 0)).setCell ⟨w.heap.size + 2, 5, none⟩ ((.slice none 0 0)) = W2 at P Q ⊢
            have y0 := P.cell 0; have y1 := P.cell 1; have y2 := P.cell 2; have y3 := P.cell 3; have y4 := P.cell 4; have y5 := P.cell 5
            simp only [List.getElem?_cons_zero, List.getElem?_cons_succ] at y0 y1 y2 y3 y4 y5
            refine bodyPost_ret (v := .tuple #[aP ⟨0, 0, 0, 0, 0⟩ (.slice none 0 0), .int .i64 0, .int .i64 E5]) (by simp [results, Try.results21, go_sem, y0, y1, y2, y3, y4, y5]) rfl ⟨_, rfl, rd_nil _, fun _ _ _ => off_nil _, Q⟩
        · rw [if_neg c4] at hR
          subst hR
          have hz : (E4 == 0) = false := by simpa using c4
          have hy := HY4.out
          have hlt2 := hy.lt
          have z0 := hy.cell 0; have z1 := hy.cell 1; have z2 := hy.cell 2; have z3 := hy.cell 3; have z4 := hy.cell 4; have z5 := hy.cell 5
          simp only [List.getElem?_cons_zero, List.getElem?_cons_succ] at z0 z1 z2 z3 z4 z5
          have f0 := hy.froz 0; have f1 := hy.froz 1; have f2 := hy.froz 2; have f3 := hy.froz 3; have f4 := hy.froz 4; have f5 := hy.froz 5
          clear hy C5 C6
          go_wp2
          have P := Pb.put HY4.out ⟨0, 0, 0, 0, 0⟩ (.slice none 0 0)
          have Q := below6 HB4.out (b := w.heap.size + 2) (by omega) (.int .i64 0) (.int .i64 0) (.int .i64 0) (.int .i64 0) (.int .i64 0) ((.slice none 0 0))
          generalize (((((w4.setCell ⟨w.heap.size + 2, 0, none⟩ (.int .i64 0)).setCell ⟨w.heap.size + 2, 1, none⟩ (.int .i64 0)).setCell ⟨w.heap.size + 2, 2, none⟩ (.int .i64 0)).setCell ⟨w.heap.size + 2, 3, none⟩ (.int .i64 0)).setCell ⟨w.heap.size + 2, 4, none⟩ (.int .i64 0)).setCell ⟨w.heap.size + 2, 5, none⟩ ((.slice none 0 0)) = W2 at P Q ⊢
          have y0 := P.cell 0; have y1 := P.cell 1; have y2 := P.cell 2; have y3 := P.cell 3; have y4 := P.cell 4; have y5 := P.cell 5
          simp only [List.getElem?_cons_zero, List.getElem?_cons_succ] at y0 y1 y2 y3 y4 y5
          refine bodyPost_ret (v := .tuple #[aP ⟨0, 0, 0, 0, 0⟩ (.slice none 0 0), .int .i64 0, .int .i64 E4]) (by simp [results, Try.results21, go_sem, y0, y1, y2, y3, y4, y5]) rfl ⟨_, rfl, rd_nil _, fun _ _ _ => off_nil _, Q⟩
  · rw [if_neg c]
    have hz : (E == 0) = false := by simpa using c
    clear C6 C3 C4 C5 HB1
    go_enter Try.func21, Try.ntmps21
    go_wp2_with fail
    refine (C1.out _ (by first | exact HA.out | exact bn HA.out _)).mono ?_
    rintro en w2 ⟨rfl, b2⟩
    have HB := Lib.hid (bt HA.out b2)
    have hx := HX.out.next b2
    have hy := HY.out.next b2
    have ht := HT.out.next b2
    have hlt := hy.lt
    have hlt0 := hx.lt
    have hlt1 := ht.lt
    have z0 := hy.cell 0; have z1 := hy.cell 1; have z2 := hy.cell 2; have z3 := hy.cell 3; have z4 := hy.cell 4; have z5 := hy.cell 5
    simp only [List.getElem?_cons_zero, List.getElem?_cons_succ] at z0 z1 z2 z3 z4 z5
    have f0 := hy.froz 0; have f1 := hy.froz 1; have f2 := hy.froz 2; have f3 := hy.froz 3; have f4 := hy.froz 4; have f5 := hy.froz 5
    have HX2 := Lib.hid hx; have HY2 := Lib.hid hy; have HT2 := Lib.hid ht
    clear b2 hx hy ht HX HA HY HT C1
    go_wp2
    have P := Pb.put HY2.out ⟨0, 0, 0, 0, 0⟩ (.slice none 0 0)
    have Q := below6 HB.out (b := w.heap.size + 2) (by omega) (.int .i64 0) (.int .i64 0) (.int .i64 0) (.int .i64 0) (.int .i64 0) ((.slice none 0 0))
    generalize (((((w2.setCell ⟨w.heap.size + 2, 0, none⟩ (.int .i64 0)).setCell ⟨w.heap.size + 2, 1, none⟩ (.int .i64 0)).setCell ⟨w.heap.size + 2, 2, none⟩ (.int .i64 0)).setCell ⟨w.heap.size + 2, 3, none⟩ (.int .i64 0)).setCell ⟨w.heap.size + 2, 4, none⟩ (.int .i64 0)).setCell ⟨w.heap.size + 2, 5, none⟩ ((.slice none 0 0)) = W2 at P Q ⊢
    have y0 := P.cell 0; have y1 := P.cell 1; have y2 := P.cell 2; have y3 := P.cell 3; have y4 := P.cell 4; have y5 := P.cell 5
    simp only [List.getElem?_cons_zero, List.getElem?_cons_succ] at y0 y1 y2 y3 y4 y5
    refine bodyPost_ret (v := .tuple #[aP ⟨0, 0, 0, 0, 0⟩ (.slice none 0 0), .int .i64 0, .int .i64 E]) (by simp [results, Try.results21, go_sem, y0, y1, y2, y3, y4, y5]) rfl ⟨_, rfl, rd_nil _, fun _ _ _ => off_nil _, Q⟩
end Pa
end Go.Proofs.Ytdacnefklcmckaa
