/- Fares: the document's mended fares. -/
import Derived.Test.YtcppeligeodomaaFareCover
import Derived.Test.YtcppeligeodomaaFareRef
import Derived.Deep.RegionHeld3
set_option linter.unusedVariables false
namespace Go.Proofs.Ytcppeligeodomaa
open Go.RowKit
namespace Fa
theorem own_shape {α : Type} {E : El α} {w : World} {base : Nat} {v : Value} {xs : List α} (h : ROwn E w base v xs) : ∃ a c, v = .slice a xs.length c := by
  obtain ⟨_, ⟨rfl, h⟩ | ⟨g, cap, cur, rfl, _⟩⟩ := h
  · exact ⟨none, 0, by rw [h]⟩
  · exact ⟨_, _, rfl⟩
/-- what is own stays behind an append elsewhere -/
theorem own_far {α : Type} {E : El α} {w w' : World} {base : Nat} {u v : Value} {ys : List α} (h : ROwn E w base u ys) (hfar : ∀ k : Nat, k < w.heap.size → v.ownBlock ≠ some k → w'.heap[k]? = w.heap[k]?)
    (hne : ∀ g, u.ownBlock = some g → v.ownBlock ≠ some g) : ROwn E w' base u ys := by
  obtain ⟨hl, h | ⟨g, cap, cur, rfl, h2, h3, h4, h5, h6, h7⟩⟩ := h
  · exact ⟨hl, .inl h⟩
  · refine ⟨hl, .inr ⟨g, cap, cur, rfl, h2, ?_, h4, h5, h6, h7⟩⟩
    have hlt : g < w.heap.size := by
      rcases Nat.lt_or_ge g w.heap.size with hlt | hge
      · exact hlt
      · rw [Array.getElem?_eq_none hge] at h3; cases h3
    rw [hfar g hlt (hne g rfl)]; exact h3
/-- blocks of different element types are different -/
theorem own_ne {α β : Type} {E : El α} {F : El β} {w : World} {b b' : Nat} {u v : Value} {xs : List α} {ys : List β} (h : ROwn E w b v xs) (h' : ROwn F w b' u ys) (ht : E.te ≠ F.te) : ∀ g, u.ownBlock = some g → v.ownBlock ≠ some g := by
  intro g hg hv
  obtain ⟨_, ⟨rfl, _⟩ | ⟨g1, cap, cur, rfl, _, h3, _⟩⟩ := h
  · cases hv
  obtain ⟨_, ⟨rfl, _⟩ | ⟨g2, cap', cur', rfl, _, h3', _⟩⟩ := h'
  · cases hg
  injection hg with hg; injection hv with hv
  simp only at hg hv
  subst hg; subst hv
  rw [h3] at h3'
  injection h3' with e; injection e with e1 e2
  exact ht e2
set_option maxHeartbeats 4000000 in
theorem mendR_bad (v : Value) (rs : List Rw) (w : World) (h : RdF w v rs) (hbad : chkF (mat rs) ≠ 0) : Calls Try.prog 22 #[v] w fun e w' => e = .returned (.tuple #[.slice none 0 0, .int .i64 (chkF (mat rs))]) ∧ Below w.heap.size w w' := by
  have C1 := Lib.hid (checkR_any v rs w h)
  have hn : (chkF (mat rs) != 0) = true := by simpa using hbad
  clear hbad h
  generalize chkF (mat rs) = ec at *
  go_enter Try.func22, Try.ntmps22
  go_wp2_with fail
  refine C1.out.mono ?_
  rintro en w1 ⟨rfl, hb1⟩
  go_wp2
  go_ret2
  exact ⟨rfl, hb1⟩
set_option maxRecDepth 100000 in
set_option maxHeartbeats 8000000 in
theorem mendR_any (v : Value) (rs : List Rw) (w : World) (h : RdF w v rs) (hok : Ok (mat rs)) : Calls Try.prog 22 #[v] w fun e w' => ∃ v' qs, e = .returned (.tuple #[v', .int .i64 0]) ∧ RdF w' v' qs ∧ mat qs = mendL (mat rs) (rngN rs.length) ∧ Below w.heap.size w w' := by
  have hml : (mat rs).length = rs.length := List.length_map _
  have hsix := hok.six
  rw [hml] at hsix
  have hch := (chkF_ok _).2 hok
  have C1 := checkR_any v rs w h
  rw [hch] at C1
  have HC1 := Lib.hid C1
  have hSL := mendL_shape hok (rngN rs.length) (fun q hq => by rw [hml]; exact (mem_rngN _ _).1 hq)
  rw [hml] at hSL
  have CV : RowKit.Hid (∀ (a b : Nat) (w' : World), a ≤ b → b < rs.length → Below w.heap.size w w' → Calls Try.prog 41 #[v, .int .i64 a, .int .i64 b] w' fun e w'' => e = .returned (.int .i64 (price (mendL (mat rs) (rngN rs.length)) a b)) ∧ ∃ m, w'' = w'.drewN m) := Lib.hid (fun a b w' h1 h2 h3 => by
    have := cover_any v rs hok rs.length a b w' (by omega) (by omega) h2 (h.next h3)
    unfold covL at this
    rw [if_neg (by omega), hml] at this
    exact this)
  obtain ⟨a0, cap, rfl, -, -, -⟩ := h.rd
  obtain ⟨O, hO⟩ : ∃ O, mendL (mat rs) (rngN rs.length) = O := ⟨_, rfl⟩
  rw [hO] at hSL CV ⊢
  have HSL := Lib.hid hSL
  clear hSL hO C1 hch hok h hml
  go_enter Try.func22, Try.ntmps22
  go_wp2_with fail
  refine HC1.out.mono ?_
  rintro en w1 ⟨rfl, hb1⟩
  go_wp2
  go_loopw [5, 6] (fun s i wr => ∃ (a : Nat) (qs : List Rw), a ≤ rs.length ∧ i = .int .i64 a ∧ ROwn elR wr w.heap.size s qs ∧ (∀ q ∈ qs, ROwn elI wr w.heap.size q.v q.ls) ∧ mat qs = O.take a ∧ Below w.heap.size w wr) (fun _ i _ => rs.length - (intOf i).toNat)
  case atStart => exact ⟨0, [], Nat.zero_le _, rfl, ROwn.nil _ _, by simp, by simp [mat], hb1⟩
  case round =>
    obtain ⟨a, qs, ha, rfl, hown, hqs, hmt, hbw⟩ := hrel
    have HOWN := Lib.hid hown; have HQS := Lib.hid hqs; have HMT := Lib.hid hmt; have HBW := Lib.hid hbw
    have HQL : RowKit.Hid (qs.length = a) := Lib.hid (by have := congrArg List.length hmt; rw [List.length_take, HSL.out.1.len] at this; simp at this; omega)
    obtain ⟨wr0, rfl⟩ : ∃ wr0, wr0 = wr := ⟨_, rfl⟩
    by_cases hla : a < rs.length
    · have ia : (a : Int) < (rs.length : Int) := by omega
      clear hown hqs hmt hbw
      go_wp2
      go_loopw [7, 8] (fun s i wy => ∃ (b : Nat), a ≤ b ∧ b ≤ rs.length ∧ i = .int .i64 b ∧ ROwn elI wy wr0.heap.size s ((O.getD a []).take (b - a)) ∧ Below wr0.heap.size wr0 wy) (fun _ i _ => rs.length - (intOf i).toNat)
      case atStart => exact ⟨a, Nat.le_refl _, by omega, rfl, by rw [Nat.sub_self]; exact ROwn.nil _ _, br _⟩
      case round =>
        obtain ⟨b, hab, hb, rfl, hrow, hbr⟩ := hrel
        have HROW := Lib.hid hrow; have HBR := Lib.hid hbr
        have hOl := HSL.out.1.row a hla
        by_cases hlb : b < rs.length
        · have ib : (b : Int) < (rs.length : Int) := by omega
          have HBZ : RowKit.Hid (Below w.heap.size w wr) := Lib.hid (HBW.out.trans (hbr.mono HBW.out.size))
          have hbd := HSL.out.2 a b hab hlb
          have hnx : (O.getD a []).take (b - a) ++ [price O a b] = (O.getD a []).take (b + 1 - a) := by
            rw [show b + 1 - a = b - a + 1 by omega, List.take_succ_eq_append_getElem (by omega)]
            congr 2
            unfold price
            rw [List.getD_eq_getElem?_getD (l := O.getD a []), List.getElem?_eq_getElem (by omega)]; rfl
          have HNX := Lib.hid hnx
          have hrl : ((O.getD a []).take (b - a)).length = b - a := by rw [List.length_take]; omega
          have HRL := Lib.hid hrl
          have CVab := fun w' h => CV.out a b w' hab hlb h
          obtain ⟨c, hc⟩ : ∃ c, price O a b = c := ⟨_, rfl⟩
          rw [hc] at CVab hbd
          have HCV := Lib.hid CVab; have HC := Lib.hid hc
          clear CVab hrow hbr hnx hrl hc
          generalize hls : (O.getD a []).take (b - a) = ls at *
          go_wp2_with (first | (go_at_call 41; refine (HCV.out _ HBZ.out).mono ?_; rintro e w' ⟨rfl, m, rfl⟩) | (at_builtin; refine appE elI rfl (.tmp 27) (.tmp 32) rfl wr0.heap.size _ ls rfl ((HROW.out.next (bn (br wr) m)).next ((br _).alloc (Nat.le_refl _) _)) _ [c] rfl (rd_lit elI [c] _ _ _ _ rfl (by simp [maxLen])) (by rw [HRL.out]; show b - a + 1 ≤ _; unfold maxLen; omega) (by rw [HRL.out]; show (b - a + 1) * 8 ≤ _; omega) (by have := HBR.out.size; rw [World.size_alloc]; exact Nat.le_succ_of_le this) ?_; intro v1 w5 hown1 hb5 hfar5; have HO1 := Lib.hid hown1; have HB5 := Lib.hid (((bn HBR.out m).alloc HBR.out.size _).trans hb5); clear hown1 hfar5 hb5))
          go_roundw
          case rel => exact ⟨b + 1, by omega, by omega, by go_num, by rw [← HNX.out, HC.out]; exact HO1.out, HB5.out⟩
          case measure => simp [intOf]; omega
        · have eb : b = rs.length := by omega
          subst eb
          rw [List.take_of_length_le (by omega)] at hrow
          have HROW2 := Lib.hid hrow
          clear HROW hrow hbr
          have hOa : O.getD a [] = O[a]'(by rw [HSL.out.1.len]; exact hla) := by
            rw [List.getD_eq_getElem?_getD, List.getElem?_eq_getElem (by rw [HSL.out.1.len]; exact hla)]; rfl
          have htk : O.take (a + 1) = O.take a ++ [O.getD a []] := by
            rw [List.take_succ_eq_append_getElem (by rw [HSL.out.1.len]; exact hla), hOa]
          have HTK := Lib.hid htk
          clear hOa htk
          obtain ⟨ra, rc, e7⟩ := own_shape HROW2.out
          generalize hls : O.getD a [] = ls at *
          generalize hll : ls.length = ll at *
          have HLL := Lib.hid hll
          clear hll hls
          subst e7
          go_wp2_with (at_builtin; refine appE elR rfl (.tmp 34) (.tmp 36) rfl w.heap.size _ qs rfl ((HOWN.out.next HBR.out).next ((br _).alloc (Nat.le_refl _) _)) _ [⟨ra, rc, ls⟩] rfl (by have e2 : ls.length = rs.length - a := by { rw [HLL.out, hOl] }; rw [← e2]; exact rd_lit elR [⟨ra, rc, ls⟩] wr _ _ _ rfl (by simp [maxLen])) (by rw [HQL.out]; show a + 1 ≤ _; unfold maxLen; omega) (by rw [HQL.out]; show (a + 1) * 24 ≤ _; omega) (by have := HBW.out.size; have := HBR.out.size; rw [World.size_alloc]; omega) ?_; intro v1 w5 hown1 hb5 hfar5; have HO1 := Lib.hid hown1; have HB5 := Lib.hid hb5; have HF5 := Lib.hid hfar5; clear hown1 hfar5 hb5)
          have HQ5 : RowKit.Hid (∀ q ∈ qs ++ [(⟨ra, rc, ls⟩ : Rw)], ROwn elI w5 w.heap.size q.v q.ls) := Lib.hid (fun q hq => by
            have hal := (br wr).alloc (Nat.le_refl _) (.cells #[.slice ra (rs.length - a) rc] 37)
            have hP := (HOWN.out.next HBR.out).next hal
            rcases List.mem_append.1 hq with hq | hq
            · have hN := ((HQS.out q hq).next HBR.out).next hal
              exact own_far hN HF5.out (own_ne hP hN (by decide))
            · have : q = ⟨ra, rc, ls⟩ := by simpa using hq
              subst this
              have hR := HROW2.out
              rw [← HLL.out] at hR
              have hN := (hR.base (base' := w.heap.size) HBW.out.size).next hal
              exact own_far hN HF5.out (own_ne hP hN (by decide)))
          have HB6 : RowKit.Hid (Below w.heap.size w w5) := Lib.hid (((HBW.out.trans (HBR.out.mono HBW.out.size)).alloc (by have := HBW.out.size; have := HBR.out.size; omega) _).trans HB5.out)
          have HM5 : RowKit.Hid (mat (qs ++ [(⟨ra, rc, ls⟩ : Rw)]) = O.take (a + 1)) := Lib.hid (by rw [HTK.out, ← HMT.out]; exact List.map_append)
          go_roundw
          case rel => exact ⟨a + 1, _, by omega, by go_num, HO1.out, HQ5.out, HM5.out, HB6.out⟩
          case measure => simp [intOf]; omega
    · have ea : a = rs.length := by omega
      subst ea
      rw [List.take_of_length_le (by rw [HSL.out.1.len]; exact Nat.le_refl _)] at hmt
      have HMT2 := Lib.hid hmt
      clear hmt hown hqs hbw
      go_wp2
      go_ret2
      exact ⟨_, qs, rfl, ⟨HOWN.out.rd, fun q hq => (HQS.out q hq).rd⟩, HMT2.out, HBW.out⟩
end Fa
end Go.Proofs.Ytcppeligeodomaa
