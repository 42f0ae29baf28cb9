/- Frames are written. -/
import Derived.Test.YtlpefkbgdbiinaaFrameRef2
import Derived.Test.YtlpefkbgdbiinaaBuild
set_option linter.unusedVariables false
namespace Go.Proofs.Ytlpefkbgdbiinaa
open Go.RowKit
namespace Fr
theorem enc_take (xs : List Bs) (k : Nat) (h : k < xs.length) : encL (xs.take (k + 1)) = (encL (xs.take k) ++ hd xs[k].size) ++ xs[k].data.toList := by
  rw [List.take_succ_eq_append_getElem h, encL_app]
  simp [encL]
theorem Bld.next {B b : Nat} {l : List UInt8} {w w' : World} (h : Bld B b l w) (hb : Below w.heap.size w w') : Bld B b l w' := by
  have key : ∀ {p : Value}, Lib.BuilderAt 50 5 B b p (l.flatMap eB) w → Lib.BuilderAt 50 5 B b p (l.flatMap eB) w' := fun {p} ⟨h1, v, h2, h3, h4⟩ => by
    have hlt : b < w.heap.size := by
      rcases Nat.lt_or_ge b w.heap.size with h' | h'
      · exact h'
      · simp [Array.getElem?_eq_none h'] at h2
    refine ⟨h1, v, by rw [hb.block b hlt]; exact h2, ?_, h4⟩
    have h5 : ROwn elB w B v l := by rw [flatB_len] at h3; exact h3
    have h6 := h5.next hb
    rw [flatB_len]; exact h6
  rcases h with h | h
  · exact .inl (key h)
  · exact .inr (key h)
theorem hd_cells (n : Nat) (h : n ≤ 400) : ((hd n).flatMap eB).toArray = #[.int .u8 ((n : Int) / 256), .int .u8 ((n : Int) % 256)] := by
  have h1 : (UInt8.ofNat (n / 256)).toNat = n / 256 % 256 := by simp
  have h2 : (UInt8.ofNat n).toNat = n % 256 := by simp
  have e1 : (((UInt8.ofNat (n / 256)).toNat : Nat) : Int) = (n : Int) / 256 := by rw [h1]; omega
  have e2 : (((UInt8.ofNat n).toNat : Nat) : Int) = (n : Int) % 256 := by rw [h2]; omega
  unfold hd
  simp only [List.flatMap_cons, List.flatMap_nil, eB, e1, e2]
  rfl
set_option maxHeartbeats 2000000 in
theorem write_any (v : Value) (xs : List Bs) (w : World) (h : RdE elS w v xs) (hz : ∀ s ∈ xs, s.size ≤ 9223372036854775807) : Calls Try.prog 11 #[v] w (TextQ (writeF xs) w) := by
  have hle := h.len_le
  obtain ⟨a, cap, rfl, h1, h2, h3⟩ := h
  have H3 := Lib.hid h3; clear h3
  have HZ := Lib.hid hz; clear hz
  by_cases hm : 64 < xs.length
  · rw [write_many xs hm]
    go_enter Try.func11, Try.ntmps11
    go_wp2
    go_ret2
    exact ⟨rfl, br _⟩
  · obtain ⟨RES, hRES⟩ : ∃ RES, writeF xs = RES := ⟨_, rfl⟩
    rw [hRES]
    have HRES := Lib.hid hRES; clear hRES
    have HB0 := Lib.hid (bld_new w)
    go_enter Try.func11, Try.ntmps11
    go_wp2
    go_loopw [13] (fun i wr => ∃ k : Nat, k ≤ xs.length ∧ i = .int .i64 k ∧ RowKit.Hid (Bld w.heap.size w.heap.size (encL (xs.take k)) wr) ∧ (∀ j (hj : j < xs.length), j < k → xs[j].size ≤ 400) ∧ Below w.heap.size w wr) (fun i _ => xs.length - (intOf i).toNat)
    case atStart => exact ⟨0, Nat.zero_le _, rfl, HB0, fun j hj hk => by omega, (br w).alloc (Nat.le_refl _) _⟩
    case round =>
      obtain ⟨k, hk, rfl, HB, hall, hbw⟩ := hrel
      by_cases hlt : k < xs.length
      · obtain ⟨g, off, rfl, hbl, hc⟩ := H3.out (by omega)
        have d0 := (hbw.cell (p := ⟨g, off + k, none⟩) hbl).trans (eS_at hc k hlt)
        have hsz := HZ.out _ (List.getElem_mem hlt)
        have i1 : (k : Int) < (xs.length : Int) := by omega
        have i0 : (0 : Int) ≤ (k : Int) := by omega
        have HBW := Lib.hid hbw; have HALL := Lib.hid hall
        clear hbw hall hc H3 HZ HB0
        by_cases hb : 400 < xs[k].size
        · have hR := HRES.out
          rw [write_big xs k hlt hb] at hR
          have HR := Lib.hid hR
          clear hR HRES HALL HB
          generalize xs[k] = t at *
          have hb' : (400 : Int) < (t.size : Int) := by omega
          go_wp2
          go_ret2
          exact ⟨by rw [← HR.out]; rfl, HBW.out⟩
        · have hstep : ∀ i (hi : i < xs.length), i < k + 1 → xs[i].size ≤ 400 := fun i hi hji => by
            by_cases e : i = k
            · subst e; omega
            · exact HALL.out i hi (by omega)
          have HS := Lib.hid hstep
          have HE := Lib.hid (enc_take xs k hlt)
          have hb' : (xs[k].size : Int) ≤ 400 := by omega
          have hsS : (encL (xs.take k)).length ≤ 25728 := by
            have h := encL_len (xs.take k) (fun t ht => by
              obtain ⟨i, hi, rfl⟩ := List.getElem_of_mem ht
              rw [List.getElem_take]
              rw [List.length_take] at hi
              exact HALL.out _ (by omega) (by omega))
            have h2 : (xs.take k).length ≤ 64 := by rw [List.length_take]; omega
            omega
          clear hstep HALL HRES
          generalize xs[k] = t at *
          generalize encL (xs.take k) = S at *
          have HSS := Lib.hid hsS; clear hsS
          have n0 : (0 : Int) ≤ (t.size : Int) := by omega
          have hblt : w.heap.size < wr.heap.size := by rcases HB.out with h | h <;> exact h.lt
          have hal := (br wr).alloc (Nat.le_refl _) (.cells #[.int .u8 ((t.size : Int) / 256), .int .u8 ((t.size : Int) % 256)] 5)
          have hl0 : RdE elB (wr.alloc (.cells #[.int .u8 ((t.size : Int) / 256), .int .u8 ((t.size : Int) % 256)] 5)) (.slice (some ⟨wr.heap.size, 0, none⟩) 2 2) (hd t.size) := by
            rw [← hd_cells t.size (by omega)]
            exact rd_lit elB (hd t.size) wr 5 (0, 0) wr.heap.size rfl (by unfold maxLen; simp [hd])
          have HC := Lib.hid (bwrite_any w.heap.size w.heap.size S (hd t.size) wr.heap.size 2 (by omega) _ (Bld.next HB.out hal) hl0 (by have := HSS.out; simp [hd]; omega) (by simp; omega))
          have HAL := Lib.hid hal
          clear hal hl0 hblt
          go_wp2_with fail
          refine HC.out.mono ?_
          rintro en w1 ⟨⟨r1, rfl⟩, hb1, b1⟩
          have HB1 := Lib.hid hb1
          have B1 := Lib.hid ((HBW.out.alloc HBW.out.size _).trans b1)
          have HC2 := Lib.hid (bstring_any w.heap.size w.heap.size (S ++ hd t.size) t w1 hb1 (by have := HSS.out; simp [hd]; omega) B1.out.size)
          clear hb1 b1 HC HB
          go_wp2_with fail
          refine HC2.out.mono ?_
          rintro en w2 ⟨⟨r2, rfl⟩, hb2, b2⟩
          have HB2 := Lib.hid hb2
          rw [← HE.out] at HB2
          have B2 := Lib.hid (B1.out.trans b2)
          clear hb2 b2 HC2 HB1
          go_wp2
          go_roundw
          case rel => exact ⟨k + 1, by omega, by go_num, HB2, HS.out, B2.out⟩
          case measure => simp [intOf]; omega
      · have e : k = xs.length := by omega
        subst e
        have hsm : small xs := fun t ht => by obtain ⟨j, hj, rfl⟩ := List.getElem_of_mem ht; exact hall j hj hj
        have hR := HRES.out
        rw [write_ok xs (by omega) hsm] at hR
        have HR := Lib.hid hR
        have hsS := encL_len xs hsm
        rw [List.take_length] at HB
        have HC := Lib.hid (btext_any w.heap.size w.heap.size (encL xs) wr HB.out (by omega) hbw.size)
        have HBW := Lib.hid hbw
        clear hR HRES hsS hall H3 HZ HB0 hsm hbw
        go_wp2_with fail
        refine HC.out.mono ?_
        rintro en w1 ⟨rfl, b1⟩
        go_wp2
        go_ret2
        exact ⟨by rw [← HR.out]; rfl, HBW.out.trans b1⟩
end Fr
end Go.Proofs.Ytlpefkbgdbiinaa
