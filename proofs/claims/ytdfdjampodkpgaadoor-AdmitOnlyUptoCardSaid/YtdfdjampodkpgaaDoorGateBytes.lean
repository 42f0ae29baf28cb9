/- Gate: the document's functions on a token's bytes. -/
import Derived.Test.YtdfdjampodkpgaaDoorGateRead
import Derived.Test.YtdfdjampodkpgaaDoorJFrame
import Derived.Test.YtdfdjampodkpgaaDoorJRingR
import Derived.Test.YtdfdjampodkpgaaDoorAnyOrder
set_option linter.unusedSimpArgs false
set_option linter.unusedVariables false
namespace Go.Proofs.YtdfdjampodkpgaaDoor
open Go.RowKit
namespace Gt
open Sn Pa Rg Tg
theorem big_succ (n k : Nat) : big (k + 1) n = byt n k :: big k n := by
  unfold big; rw [List.range_succ, List.reverse_append]; rfl
theorem bigL_big (n : Nat) : ∀ k, Fr.bigL n k = big k n
  | 0 => rfl
  | k + 1 => by
    rw [big_succ, ← bigL_big n k]
    show UInt8.ofNat (n / 256 ^ k % 256) :: _ = UInt8.ofNat (n / 2 ^ (8 * k) % 256) :: _
    rw [show (256 : Nat) ^ k = 2 ^ (8 * k) by rw [Nat.pow_mul]]
theorem bigR_any (N K : Nat) (hN : N ≤ 4611686018427387904) (hK : K ≤ 8) (w : World) : Calls Tryd.prog 66 #[.int .i64 N, .int .i64 K] w fun e w' => e = .returned (.string (bS (big K N))) ∧ Below w.heap.size w w' := by
  have h := Fr.big_any N K hN hK w
  rw [bigL_big] at h
  exact h
theorem oneG_any (n : Nat) (w : World) (h1 : n ≤ 255) : Calls Tryd.prog 45 #[.int .i64 n] w fun e w' => e = .returned (.string (bS (big 1 n))) ∧ Below w.heap.size w w' := by
  have h := Rg.one_any (n : Int) w (by omega) (by omega)
  have e : oneB (n : Int) = bS (big 1 n) := by
    rw [big_succ]
    show bS [UInt8.ofNat (n : Int).toNat] = bS (byt n 0 :: big 0 n)
    rw [Int.toNat_natCast]
    unfold byt
    rw [Nat.mul_zero, Nat.pow_zero, Nat.div_one, Nat.mod_eq_of_lt (by omega)]
    rfl
  rw [e] at h
  exact h
theorem bS_app (a b : List UInt8) : bS a ++ bS b = bS (a ++ b) := by
  apply ByteArray.ext; simp
theorem add_bS (a b : List UInt8) (h : a.length + b.length ≤ 1000000) (w : World) : (Op.stringOp .add (bS a) (bS b)).run Tryd.prog w = .ok (.string (bS (a ++ b))) w := by
  have := run_string_add_sum (P := Tryd.prog) (w := w) (bS a) (bS b) (by rw [bS_size, bS_size]; omega)
  rw [bS_app] at this
  exact this
theorem flat_snoc (l : List Sp) (k : Nat) (h : k < l.length) : (l.take (k + 1)).flatMap spB = (l.take k).flatMap spB ++ spB l[k] := by
  rw [List.take_succ_eq_append_getElem h, List.flatMap_append]; simp
set_option maxRecDepth 100000 in
set_option maxHeartbeats 4000000 in
theorem bytes_any (nid na nb ns : Nat) (born : Int) (d : Value) (l : List Sp) (w : World) (h : RdE elS w d l) (g1 : nid < 1000000) (g2 : na < 6) (g3 : nb < 6) (g4 : ns < 1000) (gl : l.length ≤ 100) (hs : ∀ s ∈ l, 0 ≤ s.1 ∧ s.1 < 1099511627776 ∧ 0 ≤ s.2 ∧ s.2 < 1099511627776) :
    Calls Tryd.prog 32 #[aP ⟨nid, born, na, nb, ns⟩ d] w (fun e w' => e = .returned (.string (bodyS ⟨nid, born, na, nb, ns⟩ l)) ∧ Below w.heap.size w w') := by
  obtain ⟨pa, pc, rfl, h1, h2, h3⟩ := h
  have H3 := Lib.hid h3
  have hl16 : l.length ≤ 9223372036854775807 := by omega
  have HS := Lib.hid hs
  clear h3 h1 h2 hs
  have hX := Box.new w 25 [.int .i64 nid, .int .i64 born, .int .i64 na, .int .i64 nb, .int .i64 ns, .slice pa l.length pc]
  have hB := (br w).alloc (Nat.le_refl _) (.cells #[.int .i64 nid, .int .i64 born, .int .i64 na, .int .i64 nb, .int .i64 ns, .slice pa l.length pc] 25)
  have C1 := Lib.hid (fun w => bigR_any nid 3 (by omega) (by omega) w)
  have C2 := Lib.hid (fun w => bigR_any ns 2 (by omega) (by omega) w)
  have C3 := Lib.hid (fun w => oneG_any na w (by omega))
  have C4 := Lib.hid (fun w => oneG_any nb w (by omega))
  have C5 := Lib.hid (fun w => oneG_any l.length w (by omega))
  have a1 := Lib.hid (big_len 3 nid); have a2 := Lib.hid (big_len 2 ns); have a3 := Lib.hid (big_len 1 na); have a4 := Lib.hid (big_len 1 nb); have a5 := Lib.hid (big_len 1 l.length)
  have HH : RowKit.Hid (headB nid ns na nb l.length = big 3 nid ++ big 2 ns ++ big 1 na ++ big 1 nb ++ big 1 l.length) := Lib.hid rfl
  have hbs : bodyS ⟨(nid : Int), born, na, nb, ns⟩ l = bS (headB nid ns na nb l.length ++ l.flatMap spB) := by
    unfold bodyS bodyL tkOf; simp
  rw [hbs]
  clear hbs
  have HHL := Lib.hid (headB_len nid ns na nb l.length)
  generalize headB nid ns na nb l.length = HD at *
  generalize big 3 nid = b1 at *; generalize big 2 ns = b2 at *; generalize big 1 na = b3 at *; generalize big 1 nb = b4 at *; generalize big 1 l.length = b5 at *
  have s1 := fun w => add_bS b1 b2 (by rw [a1.out, a2.out]; omega) w
  have s2 := fun w => add_bS (b1 ++ b2) b3 (by rw [List.length_append, a1.out, a2.out, a3.out]; omega) w
  have s3 := fun w => add_bS (b1 ++ b2 ++ b3) b4 (by simp only [List.length_append, a1.out, a2.out, a3.out, a4.out]; omega) w
  have s4 := fun w => add_bS (b1 ++ b2 ++ b3 ++ b4) b5 (by simp only [List.length_append, a1.out, a2.out, a3.out, a4.out, a5.out]; omega) w
  clear a1 a2 a3 a4 a5
  generalize bS b1 = T1 at *; generalize bS b2 = T2 at *; generalize bS b3 = T3 at *; generalize bS b4 = T4 at *; generalize bS b5 = T5 at *
  generalize bS (b1 ++ b2) = T12 at *; generalize bS (b1 ++ b2 ++ b3) = T13 at *; generalize bS (b1 ++ b2 ++ b3 ++ b4) = T14 at *
  rw [← HH.out] at s4
  clear HH
  show Calls Tryd.prog 32 #[.agg #[.int .i64 nid, .int .i64 born, .int .i64 na, .int .i64 nb, .int .i64 ns, .slice pa l.length pc]] w _
  go_enter Tryd.func32, Tryd.ntmps32
  go_wp2_with fail
  have x0 := hX.cell 0; have x2 := hX.cell 2; have x3 := hX.cell 3; have x4 := hX.cell 4; have x5 := hX.cell 5
  simp only [List.getElem?_cons_zero, List.getElem?_cons_succ] at x0 x2 x3 x4 x5
  generalize hW : w.alloc (.cells #[.int .i64 nid, .int .i64 born, .int .i64 na, .int .i64 nb, .int .i64 ns, .slice pa l.length pc] 25) = W at *
  have HX := Lib.hid hX; have HB := Lib.hid hB; clear hX hB hW
  refine wp_region_U (S := fun w' => Below W.heap.size W w') (by kernel_rfl) (bn (br W) 1) ?_
  refine wpU_take (i := 0) (v := ?_) rfl (by kernel_rfl) (by kernel_rfl) (by kernel_rfl) (Carries.of_yields (Or.inl ⟨by rfl, ?_⟩)) ?_
  rotate_left
  · (intro w9 hSw; go_simp; try (with_reducible rfl))
  try simp only [Act.put, List.setIfInBounds_toArray, List.set_cons_zero, List.set_cons_succ]
  refine wpU_take (i := 1) (v := ?_) rfl (by kernel_rfl) (by kernel_rfl) (by kernel_rfl) (Carries.of_yields (Or.inl ⟨by rfl, ?_⟩)) ?_
  rotate_left
  · (intro w9 hSw; have q0 := kp hSw x0; have q2 := kp hSw x2; have q3 := kp hSw x3; have q4 := kp hSw x4; have q5 := kp hSw x5; go_simp; try (with_reducible rfl))
  try simp only [Act.put, List.setIfInBounds_toArray, List.set_cons_zero, List.set_cons_succ]
  refine wpU_take (i := 2) rfl (by kernel_rfl) (by kernel_rfl) (by kernel_rfl) (Carries.of_call (by rfl) ?_ (fun w9 hSw => (C1.out w9).mono (fun e w8 hh => ⟨hh.1, bt hSw hh.2⟩))) ?_
  · (intro w9 hSw; go_simp)
  try simp only [Act.put, List.setIfInBounds_toArray, List.set_cons_zero, List.set_cons_succ]
  refine wpU_take (i := 3) (v := ?_) rfl (by kernel_rfl) (by kernel_rfl) (by kernel_rfl) (Carries.of_yields (Or.inl ⟨by rfl, ?_⟩)) ?_
  rotate_left
  · (intro w9 hSw; go_simp; try (with_reducible rfl))
  try simp only [Act.put, List.setIfInBounds_toArray, List.set_cons_zero, List.set_cons_succ]
  refine wpU_take (i := 4) (v := ?_) rfl (by kernel_rfl) (by kernel_rfl) (by kernel_rfl) (Carries.of_yields (Or.inl ⟨by rfl, ?_⟩)) ?_
  rotate_left
  · (intro w9 hSw; have q0 := kp hSw x0; have q2 := kp hSw x2; have q3 := kp hSw x3; have q4 := kp hSw x4; have q5 := kp hSw x5; go_simp; try (with_reducible rfl))
  try simp only [Act.put, List.setIfInBounds_toArray, List.set_cons_zero, List.set_cons_succ]
  refine wpU_take (i := 5) rfl (by kernel_rfl) (by kernel_rfl) (by kernel_rfl) (Carries.of_call (by rfl) ?_ (fun w9 hSw => (C2.out w9).mono (fun e w8 hh => ⟨hh.1, bt hSw hh.2⟩))) ?_
  · (intro w9 hSw; go_simp)
  try simp only [Act.put, List.setIfInBounds_toArray, List.set_cons_zero, List.set_cons_succ]
  refine wpU_take (i := 6) (v := ?_) rfl (by kernel_rfl) (by kernel_rfl) (by kernel_rfl) (Carries.of_yields (Or.inl ⟨by rfl, ?_⟩)) ?_
  rotate_left
  · (intro w9 hSw; go_simp; try (with_reducible rfl))
  try simp only [Act.put, List.setIfInBounds_toArray, List.set_cons_zero, List.set_cons_succ]
  refine wpU_take (i := 7) (v := ?_) rfl (by kernel_rfl) (by kernel_rfl) (by kernel_rfl) (Carries.of_yields (Or.inl ⟨by rfl, ?_⟩)) ?_
  rotate_left
  · (intro w9 hSw; go_simp; try (with_reducible rfl))
  try simp only [Act.put, List.setIfInBounds_toArray, List.set_cons_zero, List.set_cons_succ]
  refine wpU_take (i := 8) (v := ?_) rfl (by kernel_rfl) (by kernel_rfl) (by kernel_rfl) (Carries.of_yields (Or.inl ⟨by rfl, ?_⟩)) ?_
  rotate_left
  · (intro w9 hSw; have q0 := kp hSw x0; have q2 := kp hSw x2; have q3 := kp hSw x3; have q4 := kp hSw x4; have q5 := kp hSw x5; go_simp; try (with_reducible rfl))
  try simp only [Act.put, List.setIfInBounds_toArray, List.set_cons_zero, List.set_cons_succ]
  refine wpU_take (i := 9) rfl (by kernel_rfl) (by kernel_rfl) (by kernel_rfl) (Carries.of_call (by rfl) ?_ (fun w9 hSw => (C3.out w9).mono (fun e w8 hh => ⟨hh.1, bt hSw hh.2⟩))) ?_
  · (intro w9 hSw; go_simp)
  try simp only [Act.put, List.setIfInBounds_toArray, List.set_cons_zero, List.set_cons_succ]
  refine wpU_take (i := 10) (v := ?_) rfl (by kernel_rfl) (by kernel_rfl) (by kernel_rfl) (Carries.of_yields (Or.inl ⟨by rfl, ?_⟩)) ?_
  rotate_left
  · (intro w9 hSw; go_simp; try (with_reducible rfl))
  try simp only [Act.put, List.setIfInBounds_toArray, List.set_cons_zero, List.set_cons_succ]
  refine wpU_take (i := 11) (v := ?_) rfl (by kernel_rfl) (by kernel_rfl) (by kernel_rfl) (Carries.of_yields (Or.inl ⟨by rfl, ?_⟩)) ?_
  rotate_left
  · (intro w9 hSw; go_simp; try (with_reducible rfl))
  try simp only [Act.put, List.setIfInBounds_toArray, List.set_cons_zero, List.set_cons_succ]
  refine wpU_take (i := 12) (v := ?_) rfl (by kernel_rfl) (by kernel_rfl) (by kernel_rfl) (Carries.of_yields (Or.inl ⟨by rfl, ?_⟩)) ?_
  rotate_left
  · (intro w9 hSw; have q0 := kp hSw x0; have q2 := kp hSw x2; have q3 := kp hSw x3; have q4 := kp hSw x4; have q5 := kp hSw x5; go_simp; try (with_reducible rfl))
  try simp only [Act.put, List.setIfInBounds_toArray, List.set_cons_zero, List.set_cons_succ]
  refine wpU_take (i := 13) rfl (by kernel_rfl) (by kernel_rfl) (by kernel_rfl) (Carries.of_call (by rfl) ?_ (fun w9 hSw => (C4.out w9).mono (fun e w8 hh => ⟨hh.1, bt hSw hh.2⟩))) ?_
  · (intro w9 hSw; go_simp)
  try simp only [Act.put, List.setIfInBounds_toArray, List.set_cons_zero, List.set_cons_succ]
  refine wpU_take (i := 14) (v := ?_) rfl (by kernel_rfl) (by kernel_rfl) (by kernel_rfl) (Carries.of_yields (Or.inl ⟨by rfl, ?_⟩)) ?_
  rotate_left
  · (intro w9 hSw; go_simp; try (with_reducible rfl))
  try simp only [Act.put, List.setIfInBounds_toArray, List.set_cons_zero, List.set_cons_succ]
  refine wpU_take (i := 15) (v := ?_) rfl (by kernel_rfl) (by kernel_rfl) (by kernel_rfl) (Carries.of_yields (Or.inl ⟨by rfl, ?_⟩)) ?_
  rotate_left
  · (intro w9 hSw; go_simp; try (with_reducible rfl))
  try simp only [Act.put, List.setIfInBounds_toArray, List.set_cons_zero, List.set_cons_succ]
  refine wpU_take (i := 16) (v := ?_) rfl (by kernel_rfl) (by kernel_rfl) (by kernel_rfl) (Carries.of_yields (Or.inl ⟨by rfl, ?_⟩)) ?_
  rotate_left
  · (intro w9 hSw; have q0 := kp hSw x0; have q2 := kp hSw x2; have q3 := kp hSw x3; have q4 := kp hSw x4; have q5 := kp hSw x5; go_simp; try (with_reducible rfl))
  try simp only [Act.put, List.setIfInBounds_toArray, List.set_cons_zero, List.set_cons_succ]
  refine wpU_take (i := 17) (v := ?_) rfl (by kernel_rfl) (by kernel_rfl) (by kernel_rfl) (Carries.of_yields (Or.inl ⟨by rfl, ?_⟩)) ?_
  rotate_left
  · (intro w9 hSw; go_simp; try (with_reducible rfl))
  try simp only [Act.put, List.setIfInBounds_toArray, List.set_cons_zero, List.set_cons_succ]
  refine wpU_take (i := 18) rfl (by kernel_rfl) (by kernel_rfl) (by kernel_rfl) (Carries.of_call (by rfl) ?_ (fun w9 hSw => (C5.out w9).mono (fun e w8 hh => ⟨hh.1, bt hSw hh.2⟩))) ?_
  · (intro w9 hSw; go_simp)
  try simp only [Act.put, List.setIfInBounds_toArray, List.set_cons_zero, List.set_cons_succ]
  refine wpU_take (i := 19) (v := ?_) rfl (by kernel_rfl) (by kernel_rfl) (by kernel_rfl) (Carries.of_yields (Or.inl ⟨by rfl, ?_⟩)) ?_
  rotate_left
  · (intro w9 hSw; go_simp; try (with_reducible rfl))
  try simp only [Act.put, List.setIfInBounds_toArray, List.set_cons_zero, List.set_cons_succ]
  refine wpU_take (i := 20) (v := ?_) rfl (by kernel_rfl) (by kernel_rfl) (by kernel_rfl) (Carries.of_yields (Or.inl ⟨by rfl, ?_⟩)) ?_
  rotate_left
  · (intro w9 hSw; go_simp; try (with_reducible rfl))
  try simp only [Act.put, List.setIfInBounds_toArray, List.set_cons_zero, List.set_cons_succ]
  refine wpU_done (by kernel_rfl) ?_ _
  intro w2 hb2
  have hb2 : Below W.heap.size W w2 := hb2
  clear s1 s2 s3 s4 x0 x2 x3 x4
  have HX5 := Lib.hid x5
  clear x5 C1 C2 C3 C4 C5
  go_wp2
  go_loopw [3, 4] (fun s i wr => ∃ k : Nat, k ≤ l.length ∧ i = .int .i64 k ∧ s = .string (bS (HD ++ (l.take k).flatMap spB)) ∧ Below W.heap.size W wr) (fun _ i _ => l.length - (intOf i).toNat)
  case atStart => exact ⟨0, Nat.zero_le _, rfl, by simp, hb2⟩
  case round =>
    obtain ⟨k, hk, rfl, rfl, hbw⟩ := hrel
    have x5 := kp hbw HX5.out
    have HBW := Lib.hid hbw
    by_cases hlt : k < l.length
    · obtain ⟨g, off, rfl, hbl, hc⟩ := H3.out (by omega)
      obtain ⟨q0, q1⟩ := eS_at hc k hlt
      have hww : Below w.heap.size w wr := HB.out.trans (hbw.mono HB.out.size)
      have d0 := (hww.cell (p := ⟨g, off + k * 2, none⟩) hbl).trans q0
      have d1 := (hww.cell (p := ⟨g, off + k * 2 + 1, none⟩) hbl).trans q1
      obtain ⟨r1, r2, r3, r4⟩ := HS.out _ (List.getElem_mem hlt)
      have hsp : spB l[k] = big 3 l[k].1.toNat ++ big 3 l[k].2.toNat := rfl
      have hsn := flat_snoc l k hlt
      rw [hsp] at hsn
      have HSN := Lib.hid hsn
      have hfl := flatB_len (l.take k)
      have hln : (HD ++ (l.take k).flatMap spB).length ≤ 1000 := by rw [List.length_append, HHL.out, hfl, List.length_take]; omega
      clear hsp hsn hc q0 q1 hww hfl hbw
      obtain ⟨n1, hn1⟩ : ∃ n : Nat, l[k].1 = (n : Int) := ⟨l[k].1.toNat, by omega⟩
      obtain ⟨n2, hn2⟩ : ∃ n : Nat, l[k].2 = (n : Int) := ⟨l[k].2.toNat, by omega⟩
      rw [hn1] at d0 r1 r2
      rw [hn2] at d1 r3 r4
      rw [hn1, hn2, Int.toNat_natCast, Int.toNat_natCast] at HSN
      clear hn1 hn2
      have C1 := Lib.hid (fun w => bigR_any n1 3 (by omega) (by omega) w)
      have C2 := Lib.hid (fun w => bigR_any n2 3 (by omega) (by omega) w)
      have a1 := big_len 3 n1; have a2 := big_len 3 n2
      generalize (l.take k).flatMap spB = FK at *
      generalize big 3 n1 = b1 at *; generalize big 3 n2 = b2 at *
      have s1 := fun w => add_bS b1 b2 (by omega) w
      have s2 := fun w => add_bS (HD ++ FK) (b1 ++ b2) (Nat.le_trans (Nat.add_le_add hln (Nat.le_of_eq (show (b1 ++ b2).length = 6 by rw [List.length_append, a1, a2]))) (by omega)) w
      have HE : RowKit.Hid ((HD ++ FK) ++ (b1 ++ b2) = HD ++ (FK ++ (b1 ++ b2))) := Lib.hid (List.append_assoc _ _ _)
      clear a1 a2 hln r1 r2 r3 r4
      rw [HE.out, ← HSN.out] at s2
      clear HE HSN
      generalize bS (HD ++ FK) = T0 at *
      generalize bS (b1 ++ b2) = T12 at *
      generalize bS b1 = T1 at *; generalize bS b2 = T2 at *
      have i0 : (0 : Int) ≤ (k : Int) := by omega
      have i1 : (k : Int) < (l.length : Int) := by omega
      go_wp2_with fail
      refine wp_region_U (S := fun w' => Below wr.heap.size wr w') (by kernel_rfl) (bn (br wr) 1) ?_
      refine wpU_take (i := 0) (v := ?_) rfl (by kernel_rfl) (by kernel_rfl) (by kernel_rfl) (Carries.of_yields (Or.inl ⟨by rfl, ?_⟩)) ?_
      rotate_left
      · (intro w9 hSw; go_simp; try (with_reducible rfl))
      try simp only [Act.put, List.setIfInBounds_toArray, List.set_cons_zero, List.set_cons_succ]
      refine wpU_take (i := 1) (v := ?_) rfl (by kernel_rfl) (by kernel_rfl) (by kernel_rfl) (Carries.of_yields (Or.inl ⟨by rfl, ?_⟩)) ?_
      rotate_left
      · (intro w9 hSw; go_simp; try (with_reducible rfl))
      try simp only [Act.put, List.setIfInBounds_toArray, List.set_cons_zero, List.set_cons_succ]
      refine wpU_take (i := 2) (v := ?_) rfl (by kernel_rfl) (by kernel_rfl) (by kernel_rfl) (Carries.of_yields (Or.inl ⟨by rfl, ?_⟩)) ?_
      rotate_left
      · (intro w9 hSw; have q5 := kp hSw x5; have q0 := kp hSw d0; have q1 := kp hSw d1; go_simp; try (with_reducible rfl))
      try simp only [Act.put, List.setIfInBounds_toArray, List.set_cons_zero, List.set_cons_succ]
      refine wpU_take (i := 3) (v := ?_) rfl (by kernel_rfl) (by kernel_rfl) (by kernel_rfl) (Carries.of_yields (Or.inl ⟨by rfl, ?_⟩)) ?_
      rotate_left
      · (intro w9 hSw; go_simp; try (with_reducible rfl))
      try simp only [Act.put, List.setIfInBounds_toArray, List.set_cons_zero, List.set_cons_succ]
      refine wpU_take (i := 4) (v := ?_) rfl (by kernel_rfl) (by kernel_rfl) (by kernel_rfl) (Carries.of_yields (Or.inl ⟨by rfl, ?_⟩)) ?_
      rotate_left
      · (intro w9 hSw; go_simp; try (with_reducible rfl))
      try simp only [Act.put, List.setIfInBounds_toArray, List.set_cons_zero, List.set_cons_succ]
      refine wpU_take (i := 5) (v := ?_) rfl (by kernel_rfl) (by kernel_rfl) (by kernel_rfl) (Carries.of_yields (Or.inl ⟨by rfl, ?_⟩)) ?_
      rotate_left
      · (intro w9 hSw; go_simp; try (with_reducible rfl))
      try simp only [Act.put, List.setIfInBounds_toArray, List.set_cons_zero, List.set_cons_succ]
      refine wpU_take (i := 6) (v := ?_) rfl (by kernel_rfl) (by kernel_rfl) (by kernel_rfl) (Carries.of_yields (Or.inl ⟨by rfl, ?_⟩)) ?_
      rotate_left
      · (intro w9 hSw; have q5 := kp hSw x5; have q0 := kp hSw d0; have q1 := kp hSw d1; go_simp; try (with_reducible rfl))
      try simp only [Act.put, List.setIfInBounds_toArray, List.set_cons_zero, List.set_cons_succ]
      refine wpU_take (i := 7) rfl (by kernel_rfl) (by kernel_rfl) (by kernel_rfl) (Carries.of_call (by rfl) ?_ (fun w9 hSw => (C1.out w9).mono (fun e w8 hh => ⟨hh.1, bt hSw hh.2⟩))) ?_
      · (intro w9 hSw; go_simp)
      try simp only [Act.put, List.setIfInBounds_toArray, List.set_cons_zero, List.set_cons_succ]
      refine wpU_take (i := 8) (v := ?_) rfl (by kernel_rfl) (by kernel_rfl) (by kernel_rfl) (Carries.of_yields (Or.inl ⟨by rfl, ?_⟩)) ?_
      rotate_left
      · (intro w9 hSw; go_simp; try (with_reducible rfl))
      try simp only [Act.put, List.setIfInBounds_toArray, List.set_cons_zero, List.set_cons_succ]
      refine wpU_take (i := 9) (v := ?_) rfl (by kernel_rfl) (by kernel_rfl) (by kernel_rfl) (Carries.of_yields (Or.inl ⟨by rfl, ?_⟩)) ?_
      rotate_left
      · (intro w9 hSw; have q5 := kp hSw x5; have q0 := kp hSw d0; have q1 := kp hSw d1; go_simp; try (with_reducible rfl))
      try simp only [Act.put, List.setIfInBounds_toArray, List.set_cons_zero, List.set_cons_succ]
      refine wpU_take (i := 10) (v := ?_) rfl (by kernel_rfl) (by kernel_rfl) (by kernel_rfl) (Carries.of_yields (Or.inl ⟨by rfl, ?_⟩)) ?_
      rotate_left
      · (intro w9 hSw; go_simp; try (with_reducible rfl))
      try simp only [Act.put, List.setIfInBounds_toArray, List.set_cons_zero, List.set_cons_succ]
      refine wpU_take (i := 11) (v := ?_) rfl (by kernel_rfl) (by kernel_rfl) (by kernel_rfl) (Carries.of_yields (Or.inl ⟨by rfl, ?_⟩)) ?_
      rotate_left
      · (intro w9 hSw; go_simp; try (with_reducible rfl))
      try simp only [Act.put, List.setIfInBounds_toArray, List.set_cons_zero, List.set_cons_succ]
      refine wpU_take (i := 12) (v := ?_) rfl (by kernel_rfl) (by kernel_rfl) (by kernel_rfl) (Carries.of_yields (Or.inl ⟨by rfl, ?_⟩)) ?_
      rotate_left
      · (intro w9 hSw; go_simp; try (with_reducible rfl))
      try simp only [Act.put, List.setIfInBounds_toArray, List.set_cons_zero, List.set_cons_succ]
      refine wpU_take (i := 13) (v := ?_) rfl (by kernel_rfl) (by kernel_rfl) (by kernel_rfl) (Carries.of_yields (Or.inl ⟨by rfl, ?_⟩)) ?_
      rotate_left
      · (intro w9 hSw; have q5 := kp hSw x5; have q0 := kp hSw d0; have q1 := kp hSw d1; go_simp; try (with_reducible rfl))
      try simp only [Act.put, List.setIfInBounds_toArray, List.set_cons_zero, List.set_cons_succ]
      refine wpU_take (i := 14) rfl (by kernel_rfl) (by kernel_rfl) (by kernel_rfl) (Carries.of_call (by rfl) ?_ (fun w9 hSw => (C2.out w9).mono (fun e w8 hh => ⟨hh.1, bt hSw hh.2⟩))) ?_
      · (intro w9 hSw; go_simp)
      try simp only [Act.put, List.setIfInBounds_toArray, List.set_cons_zero, List.set_cons_succ]
      refine wpU_take (i := 15) (v := ?_) rfl (by kernel_rfl) (by kernel_rfl) (by kernel_rfl) (Carries.of_yields (Or.inl ⟨by rfl, ?_⟩)) ?_
      rotate_left
      · (intro w9 hSw; go_simp; try (with_reducible rfl))
      try simp only [Act.put, List.setIfInBounds_toArray, List.set_cons_zero, List.set_cons_succ]
      refine wpU_take (i := 16) (v := ?_) rfl (by kernel_rfl) (by kernel_rfl) (by kernel_rfl) (Carries.of_yields (Or.inl ⟨by rfl, ?_⟩)) ?_
      rotate_left
      · (intro w9 hSw; go_simp; try (with_reducible rfl))
      try simp only [Act.put, List.setIfInBounds_toArray, List.set_cons_zero, List.set_cons_succ]
      refine wpU_take (i := 17) (v := ?_) rfl (by kernel_rfl) (by kernel_rfl) (by kernel_rfl) (Carries.of_yields (Or.inl ⟨by rfl, ?_⟩)) ?_
      rotate_left
      · (intro w9 hSw; go_simp; try (with_reducible rfl))
      try simp only [Act.put, List.setIfInBounds_toArray, List.set_cons_zero, List.set_cons_succ]
      refine wpU_done (by kernel_rfl) ?_ _
      intro w3 hb3
      have hb3 : Below wr.heap.size wr w3 := hb3
      clear d0 d1 x5 s1 s2
      have HB3 := Lib.hid (bt HBW.out hb3)
      clear hb3
      go_wp2
      go_roundw
      case rel => exact ⟨k + 1, by omega, by go_num, rfl, HB3.out⟩
      case measure => simp [intOf]; omega
    · have e : k = l.length := by omega
      subst e
      rw [List.take_of_length_le (Nat.le_refl _)]
      go_wp2
      go_ret
      exact ⟨rfl, HB.out.trans (HBW.out.mono HB.out.size)⟩
end Gt
end Go.Proofs.YtdfdjampodkpgaaDoor
