/- Spelling: numbers regrouped. (gen_spell.py) -/
import Derived.Test.YtkanlfgomfibdaaDoorSpellNum
import Derived.Test.YtkanlfgomfibdaaDoorShareEl
import Derived.Test.YtkanlfgomfibdaaDoorStrs
set_option linter.unusedSimpArgs false
set_option linter.unusedVariables false
namespace Go.Proofs.YtkanlfgomfibdaaDoor
open Go.RowKit
namespace Sl
open Bt
def zs (l : List Nat) : List Int := l.map (fun n : Nat => (n : Int))
def by8 (l : List Nat) : List UInt8 := l.map (fun n : Nat => n.toUInt8)
theorem u8_nat {n : Nat} (h : n < 256) : n.toUInt8.toNat = n := by simp [Nat.toUInt8, UInt8.toNat_ofNat']; omega
theorem mask_w (c : Nat) (h : c < 13) : wrap64 (wrap64 (2 ^ c) - 1) = 2 ^ c - 1 := by
  rcases (show c = 0 ∨ c = 1 ∨ c = 2 ∨ c = 3 ∨ c = 4 ∨ c = 5 ∨ c = 6 ∨ c = 7 ∨ c = 8 ∨ c = 9 ∨ c = 10 ∨ c = 11 ∨ c = 12 by omega) with rfl | rfl | rfl | rfl | rfl | rfl | rfl | rfl | rfl | rfl | rfl | rfl | rfl
  all_goals (unfold wrap64; decide)
theorem and_i64 (V c : Nat) (hV : V < 4611686018427387904) (hc : c < 13) : bits .and .i64 (V : Int) (wrap64 (wrap64 (2 ^ c) - 1)) = ((V % 2 ^ c : Nat) : Int) := by
  rw [mask_w c hc, bits_mask .i64 62 (by decide) (fun n h0 h1 => IntWalk.i64_in _ (by omega)) c (by omega) V (by omega) (by omega)]
  simp
set_option maxRecDepth 100000 in
set_option maxHeartbeats 2000000 in
theorem regA_any (v : Value) (bs : List UInt8) (w : World) (h : RdE elB w v bs) (hl : bs.length ≤ 100000) : Calls Tryd.prog 20 #[v, .int .i64 8, .int .i64 5] w fun e w' => ∃ u, e = .returned (.tuple #[u, .int .i64 (val (bitL 8 (bs.map UInt8.toNat)) (5 * many 8 5 bs.length) (rest 8 5 bs.length) : Nat), .int .i64 (rest 8 5 bs.length : Nat)]) ∧ ROwn elZ w' w.heap.size u (zs (grp (bitL 8 (bs.map UInt8.toNat)) 5 (many 8 5 bs.length))) ∧ Below w.heap.size w w' := by
  obtain ⟨a, cap, rfl, h1, h2, h3⟩ := h
  have H3 := Lib.hid h3; clear h3
  obtain ⟨f, hf⟩ : ∃ f, bitL 8 (bs.map UInt8.toNat) = f := ⟨_, rfl⟩
  rw [hf]
  have HF := Lib.hid hf
  have HL := Lib.hid (fun i => hf ▸ bitL_lt 8 (bs.map UInt8.toNat) i)
  have hle : (bs.length : Int) ≤ 100000 := by omega
  clear hf
  go_enter Tryd.func20, Tryd.ntmps20
  go_wp2
  go_loopw [6, 7, 8, 13] (fun o L b i wr => ∃ k : Nat, k ≤ bs.length ∧ L = .int .i64 (val f (5 * many 8 5 k) (rest 8 5 k) : Nat) ∧ b = .int .i64 (rest 8 5 k : Nat) ∧ i = .int .i64 k ∧ ROwn elZ wr w.heap.size o (zs (grp f 5 (many 8 5 k))) ∧ Below w.heap.size w wr) (fun _ _ _ i _ => bs.length - (intOf i).toNat)
  case atStart => exact ⟨0, Nat.zero_le _, rfl, rfl, rfl, (ROwn.nil _ _ : ROwn elZ w w.heap.size (.slice none 0 0) []), br _⟩
  case round =>
    obtain ⟨k, hk, rfl, rfl, rfl, hown, hbw⟩ := hrel
    by_cases hkl : k < bs.length
    · obtain ⟨g, off, rfl, hbl, hc⟩ := H3.out (by omega)
      have d0 := (hbw.cell (p := ⟨g, off + (k * 1 + 0), none⟩) hbl).trans (hc k (by omega) 0 _ rfl)
      simp only [Nat.mul_one, Nat.add_zero] at d0
      have i1 : (k : Int) < (bs.length : Int) := by omega
      have i0 : (0 : Int) ≤ (k : Int) := by omega
      have hqr := many_rest 8 5 k
      have hr5 : rest 8 5 k < 5 := Nat.mod_lt _ (by omega)
      have hx : bs[k].toNat < 256 := bs[k].toNat_lt
      have hin := val_in (fr := 8) (by omega) (xs := (bs.map UInt8.toNat)) (k := k) (a := 5 * many 8 5 k) (r := rest 8 5 k) (by rw [getD_lt (by simpa using hkl)]; simpa using hx) hqr
      rw [HF.out, getD_lt (by simpa using hkl)] at hin
      try simp only [List.getElem_map] at hin
      generalize bs[k].toNat = x at *
      generalize many 8 5 k = q at *
      generalize rest 8 5 k = r at *
      have hL : val f (5 * q) r < 2 ^ r := val_lt HL.out _ _
      have hL2 : val f (5 * q) r < 16 := Nat.lt_of_lt_of_le hL (Nat.le_trans (Nat.pow_le_pow_right (by omega) (show r ≤ 4 by omega)) (by decide))
      generalize val f (5 * q) r = L at *
      have ho := or_i64 L x 8 (by omega) (by omega)
      have hw1 : IntKind.i64.wrap ((L : Int) * 256) = (L : Int) * 256 := IntWalk.i64_in _ (by omega)
      have ho2 : bits .or .i64 ((L : Int) * 256) (x : Int) = ((L * 256 + x : Nat) : Int) := by rw [← ho]; congr 1
      have hB := Lib.hid hbw
      have hst : (L : Int) * 256 + (x : Int) = ((val f (5 * q) (r + 8) : Nat) : Int) := by rw [hin]; simp
      have HST := Lib.hid hst
      clear ho hL hc hst hbw hin
      go_wp2_with fail
      rw [HST.out]
      go_loopw [6, 7, 8] (fun o y b wy => ∃ q' b' : Nat, 5 * q' + b' = 8 * (k + 1) ∧ b' ≤ 12 ∧ y = .int .i64 (val f (5 * q') b' : Nat) ∧ b = .int .i64 b' ∧ ROwn elZ wy w.heap.size o (zs (grp f 5 q')) ∧ Below w.heap.size w wy) (fun _ _ b _ => (intOf b).toNat)
      case atStart => exact ⟨q, r + 8, by omega, by omega, rfl, by simp, hown, hB.out⟩
      case round =>
        obtain ⟨q', b', hqb, hb12, rfl, rfl, hown, hbw⟩ := hrel
        clear d0 hB
        by_cases hb5 : 5 ≤ b'
        · obtain ⟨c, rfl⟩ : ∃ c, b' = c + 5 := ⟨b' - 5, by omega⟩
          have hc1 : ((c + 5 : Nat) : Int) = (c : Int) + 5 := by simp
          have hc2 : (c : Int) + 5 - 5 = (c : Int) := by omega
          have hc5 : (5 : Int) ≤ (c : Int) + 5 := by omega
          rw [hc1]
          clear hc1
          obtain ⟨o1, o2⟩ := val_out HL.out (5 * q') 5 c
          have o3 : 5 * q' + 5 = 5 * (q' + 1) := by omega
          rw [o3, Nat.add_comm 5 c] at o2
          rw [Nat.add_comm 5 c] at o1
          have hg := grp_succ f 5 q'
          have hglen := grp_len f 5 q'
          have hVlt : val f (5 * q') (c + 5) < 4096 := Nat.lt_of_lt_of_le (val_lt HL.out _ _) (Nat.le_trans (Nat.pow_le_pow_right (by omega) (show c + 5 ≤ 12 by omega)) (by decide))
          have hGlt : val f (5 * q') 5 < 32 := val_lt HL.out _ _
          generalize val f (5 * q') (c + 5) = V at *
          generalize val f (5 * q') 5 = G at *
          have hsh : (V : Int) / 2 ^ c = (G : Int) := by rw [← o1]; simp
          have hand := and_i64 V c (by omega) (by omega)
          rw [o2] at hand
          have HG := Lib.hid hg; have HGL := Lib.hid hglen; have HBW := Lib.hid hbw; have HON := Lib.hid hown; have HAND := Lib.hid hand
          have HLIT := Lib.hid (fun W : World => rd_lit elZ [(G : Int)] W 3 (0, 0) W.heap.size rfl (by simp [maxLen]))
          obtain ⟨u6, c6, rfl⟩ := own_shapeZ hown
          clear o1 o2 hg hglen hbw hown hand
          go_wp2_with (at_builtin; refine appE elZ rfl (.tmp 32) (.tmp 36) rfl w.heap.size _ _ rfl (HON.out.next ((br _).alloc (Nat.le_refl _) _)) _ [(G : Int)] rfl (HLIT.out wr) (by unfold zs; rw [List.length_map, HGL.out]; show q' + 1 ≤ _; unfold maxLen; omega) (by unfold zs; rw [List.length_map, HGL.out]; show (q' + 1) * 8 ≤ _; omega) (by have := HBW.out.size; simp; omega) ?_; intro v5 w5 hown5 hb5 hfar5; have HO5 := Lib.hid hown5; have HB5 := Lib.hid hb5; clear hown5 hb5 hfar5)
          go_roundw
          case rel =>
            refine ⟨q' + 1, c, by omega, by omega, by rw [HAND.out], by go_num, ?_, (HBW.out.alloc HBW.out.size _).trans HB5.out⟩
            have := HO5.out
            unfold zs at this ⊢
            rw [HG.out, List.map_append]
            exact this
          case measure => simp [intOf]; omega
        · have hbr : b' = rest 8 5 (k + 1) ∧ q' = many 8 5 (k + 1) := by unfold rest many; omega
          have HBR := Lib.hid hbr
          have hb5' : b' < 5 := by omega
          have HBW := Lib.hid hbw; have HON := Lib.hid hown
          obtain ⟨u6, c6, rfl⟩ := own_shapeZ hown
          clear hbw hown hbr
          obtain ⟨Y, hY⟩ : ∃ Y, val f (5 * q') b' = Y := ⟨_, rfl⟩
          have HY := Lib.hid hY
          rw [hY]
          clear hY
          go_wp2
          go_roundw
          case rel => exact ⟨k + 1, by omega, by rw [← HBR.out.1, ← HBR.out.2, HY.out], by rw [← HBR.out.1], by go_num, by rw [← HBR.out.2]; exact HON.out, HBW.out⟩
          case measure => simp [intOf]; omega
    · have e : k = bs.length := by omega
      subst e
      have HBW := Lib.hid hbw; have HON := Lib.hid hown
      obtain ⟨u6, c6, hsh⟩ := own_shapeZ hown
      clear hbw hown
      go_wp2
      refine bodyPost_ret (v := .tuple #[_, _, _]) (by simp [results, Tryd.results20, go_sem]) rfl ⟨_, rfl, HON.out, HBW.out⟩
set_option maxRecDepth 100000 in
set_option maxHeartbeats 2000000 in
theorem regB_any (v : Value) (xs : List Nat) (w : World) (h : RdE elZ w v (zs xs)) (hx32 : ∀ x ∈ xs, x < 32) (hl : xs.length ≤ 2000000) : Calls Tryd.prog 16 #[v, .int .i64 5, .int .i64 8] w fun e w' => ∃ u, e = .returned (.tuple #[u, .int .i64 (val (bitL 5 xs) (8 * many 5 8 xs.length) (rest 5 8 xs.length) : Nat), .int .i64 (rest 5 8 xs.length : Nat)]) ∧ ROwn elB w' w.heap.size u (by8 (grp (bitL 5 xs) 8 (many 5 8 xs.length))) ∧ Below w.heap.size w w' := by
  obtain ⟨a, cap, rfl, h1, h2, h3⟩ := h
  have H3 := Lib.hid h3; clear h3
  obtain ⟨f, hf⟩ : ∃ f, bitL 5 xs = f := ⟨_, rfl⟩
  rw [hf]
  have HF := Lib.hid hf
  have HL := Lib.hid (fun i => hf ▸ bitL_lt 5 xs i)
  have hle : (xs.length : Int) ≤ 2000000 := by omega
  clear hf
  have HZL : (zs xs).length = xs.length := by unfold zs; rw [List.length_map]
  rw [HZL] at h1 ⊢
  go_enter Tryd.func16, Tryd.ntmps16
  go_wp2
  go_loopw [6, 7, 8, 13] (fun o L b i wr => ∃ k : Nat, k ≤ xs.length ∧ L = .int .i64 (val f (8 * many 5 8 k) (rest 5 8 k) : Nat) ∧ b = .int .i64 (rest 5 8 k : Nat) ∧ i = .int .i64 k ∧ ROwn elB wr w.heap.size o (by8 (grp f 8 (many 5 8 k))) ∧ Below w.heap.size w wr) (fun _ _ _ i _ => xs.length - (intOf i).toNat)
  case atStart => exact ⟨0, Nat.zero_le _, rfl, rfl, rfl, (ROwn.nil _ _ : ROwn elB w w.heap.size (.slice none 0 0) []), br _⟩
  case round =>
    obtain ⟨k, hk, rfl, rfl, rfl, hown, hbw⟩ := hrel
    by_cases hkl : k < xs.length
    · obtain ⟨g, off, rfl, hbl, hc⟩ := H3.out (by rw [HZL]; omega)
      have d0 := (hbw.cell (p := ⟨g, off + (k * 1 + 0), none⟩) hbl).trans (hc k (by rw [HZL]; omega) 0 _ rfl)
      simp only [Nat.mul_one, Nat.add_zero, zs, List.getElem_map] at d0
      have i1 : (k : Int) < (xs.length : Int) := by omega
      have i0 : (0 : Int) ≤ (k : Int) := by omega
      have hqr := many_rest 5 8 k
      have hr5 : rest 5 8 k < 8 := Nat.mod_lt _ (by omega)
      have hx : xs[k] < 32 := hx32 _ (List.getElem_mem hkl)
      have hin := val_in (fr := 5) (by omega) (xs := xs) (k := k) (a := 8 * many 5 8 k) (r := rest 5 8 k) (by rw [getD_lt (by simpa using hkl)]; simpa using hx) hqr
      rw [HF.out, getD_lt (by simpa using hkl)] at hin
      try simp only [List.getElem_map] at hin
      generalize xs[k] = x at *
      generalize many 5 8 k = q at *
      generalize rest 5 8 k = r at *
      have hL : val f (8 * q) r < 2 ^ r := val_lt HL.out _ _
      have hL2 : val f (8 * q) r < 128 := Nat.lt_of_lt_of_le hL (Nat.le_trans (Nat.pow_le_pow_right (by omega) (show r ≤ 7 by omega)) (by decide))
      generalize val f (8 * q) r = L at *
      have ho := or_i64 L x 5 (by omega) (by omega)
      have hw1 : IntKind.i64.wrap ((L : Int) * 32) = (L : Int) * 32 := IntWalk.i64_in _ (by omega)
      have ho2 : bits .or .i64 ((L : Int) * 32) (x : Int) = ((L * 32 + x : Nat) : Int) := by rw [← ho]; congr 1
      have hB := Lib.hid hbw
      have hst : (L : Int) * 32 + (x : Int) = ((val f (8 * q) (r + 5) : Nat) : Int) := by rw [hin]; simp
      have HST := Lib.hid hst
      clear ho hL hc hst hbw hin
      go_wp2_with fail
      rw [HST.out]
      go_loopw [6, 7, 8] (fun o y b wy => ∃ q' b' : Nat, 8 * q' + b' = 5 * (k + 1) ∧ b' ≤ 12 ∧ y = .int .i64 (val f (8 * q') b' : Nat) ∧ b = .int .i64 b' ∧ ROwn elB wy w.heap.size o (by8 (grp f 8 q')) ∧ Below w.heap.size w wy) (fun _ _ b _ => (intOf b).toNat)
      case atStart => exact ⟨q, r + 5, by omega, by omega, rfl, by simp, hown, hB.out⟩
      case round =>
        obtain ⟨q', b', hqb, hb12, rfl, rfl, hown, hbw⟩ := hrel
        clear d0 hB
        by_cases hb5 : 8 ≤ b'
        · obtain ⟨c, rfl⟩ : ∃ c, b' = c + 8 := ⟨b' - 8, by omega⟩
          have hc1 : ((c + 8 : Nat) : Int) = (c : Int) + 8 := by simp
          have hc2 : (c : Int) + 8 - 8 = (c : Int) := by omega
          have hc5 : (8 : Int) ≤ (c : Int) + 8 := by omega
          rw [hc1]
          clear hc1
          obtain ⟨o1, o2⟩ := val_out HL.out (8 * q') 8 c
          have o3 : 8 * q' + 8 = 8 * (q' + 1) := by omega
          rw [o3, Nat.add_comm 8 c] at o2
          rw [Nat.add_comm 8 c] at o1
          have hg := grp_succ f 8 q'
          have hglen := grp_len f 8 q'
          have hVlt : val f (8 * q') (c + 8) < 4096 := Nat.lt_of_lt_of_le (val_lt HL.out _ _) (Nat.le_trans (Nat.pow_le_pow_right (by omega) (show c + 8 ≤ 12 by omega)) (by decide))
          have hGlt : val f (8 * q') 8 < 256 := val_lt HL.out _ _
          generalize val f (8 * q') (c + 8) = V at *
          generalize val f (8 * q') 8 = G at *
          have hsh : (V : Int) / 2 ^ c = (G : Int) := by rw [← o1]; simp
          have hand := and_i64 V c (by omega) (by omega)
          rw [o2] at hand
          have HG := Lib.hid hg; have HGL := Lib.hid hglen; have HBW := Lib.hid hbw; have HON := Lib.hid hown; have HAND := Lib.hid hand
          have hwu : IntKind.u8.wrap (G : Int) = (G : Int) := wraps_u8 _ (by omega) (by omega)
          have HLIT := Lib.hid (fun W : World => show RdE elB (W.alloc (.cells #[.int .u8 (G : Int)] 5)) (.slice (some ⟨W.heap.size, 0, none⟩) 1 1) [G.toUInt8] from (by
            have := rd_lit elB [G.toUInt8] W 5 (0, 0) W.heap.size rfl (by simp [maxLen])
            simp only [List.flatMap_cons, List.flatMap_nil, eB, u8_nat hGlt] at this
            exact this))
          obtain ⟨u6, c6, rfl⟩ := own_shapeZ hown
          clear o1 o2 hg hglen hbw hown hand
          go_wp2_with (at_builtin; refine appE elB rfl (.tmp 31) (.tmp 36) rfl w.heap.size _ _ rfl (HON.out.next ((br _).alloc (Nat.le_refl _) _)) _ [G.toUInt8] rfl (HLIT.out wr) (by unfold by8; rw [List.length_map, HGL.out]; show q' + 1 ≤ _; unfold maxLen; omega) (by unfold by8; rw [List.length_map, HGL.out]; show (q' + 1) * 1 ≤ _; omega) (by have := HBW.out.size; simp; omega) ?_; intro v5 w5 hown5 hb5 hfar5; have HO5 := Lib.hid hown5; have HB5 := Lib.hid hb5; clear hown5 hb5 hfar5)
          go_roundw
          case rel =>
            refine ⟨q' + 1, c, by omega, by omega, by rw [HAND.out], by go_num, ?_, (HBW.out.alloc HBW.out.size _).trans HB5.out⟩
            have := HO5.out
            unfold by8 at this ⊢
            rw [HG.out, List.map_append]
            exact this
          case measure => simp [intOf]; omega
        · have hbr : b' = rest 5 8 (k + 1) ∧ q' = many 5 8 (k + 1) := by unfold rest many; omega
          have HBR := Lib.hid hbr
          have hb5' : b' < 8 := by omega
          have HBW := Lib.hid hbw; have HON := Lib.hid hown
          obtain ⟨u6, c6, rfl⟩ := own_shapeZ hown
          clear hbw hown hbr
          obtain ⟨Y, hY⟩ : ∃ Y, val f (8 * q') b' = Y := ⟨_, rfl⟩
          have HY := Lib.hid hY
          rw [hY]
          clear hY
          go_wp2
          go_roundw
          case rel => exact ⟨k + 1, by omega, by rw [← HBR.out.1, ← HBR.out.2, HY.out], by rw [← HBR.out.1], by go_num, by rw [← HBR.out.2]; exact HON.out, HBW.out⟩
          case measure => simp [intOf]; omega
    · have e : k = xs.length := by omega
      subst e
      have HBW := Lib.hid hbw; have HON := Lib.hid hown
      obtain ⟨u6, c6, hsh⟩ := own_shapeZ hown
      clear hbw hown
      go_wp2
      refine bodyPost_ret (v := .tuple #[_, _, _]) (by simp [results, Tryd.results16, go_sem]) rfl ⟨_, rfl, HON.out, HBW.out⟩
end Sl
end Go.Proofs.YtkanlfgomfibdaaDoor
