/- The document's table of prices. -/
import Derived.Test.YtogohocokmhjcaaCoverBest
import Derived.Test.YtogohocokmhjcaaOwn
import Derived.Deep.RegionWith
set_option linter.unusedVariables false
namespace Go.Proofs.Ytogohocokmhjcaa
open Go.RowKit
namespace Cv
/-- the document's table, when the first i offers are done -/
def pt (xs : List Offer) (i d : Nat) : Int := if i = 0 then (if d = 0 then 0 else -1) else best (xs.take i) d
theorem ok_take {xs : List Offer} (h : Ok xs) (i : Nat) (hi : 1 ≤ i) : Ok (xs.take i) :=
  ⟨fun e => h.ne (by
    have : (xs.take i).length = 0 := by rw [e]; rfl
    rw [List.length_take] at this
    exact List.eq_nil_of_length_eq_zero (by omega)), fun o ho => h.all o (List.mem_of_mem_take ho)⟩
theorem pt_bd {xs : List Offer} (h : Ok xs) (i d : Nat) (hd : d ≤ 400) : -1 ≤ pt xs i d ∧ pt xs i d ≤ 400000000 := by
  unfold pt
  by_cases h0 : i = 0
  · rw [if_pos h0]; split <;> omega
  · rw [if_neg h0]
    have := best_bd (ok_take h i (by omega)) d
    omega
theorem pt_zero (xs : List Offer) (i : Nat) : pt xs i 0 = 0 := by
  unfold pt; split <;> simp [best_zero]
theorem pt_all (xs : List Offer) (h : Ok xs) (d : Nat) : pt xs xs.length d = best xs d := by
  unfold pt
  have : xs.length ≠ 0 := fun e => h.ne (List.eq_nil_of_length_eq_zero e)
  rw [if_neg this, List.take_length]
theorem pt_step {xs : List Offer} (h : Ok xs) (i d : Nat) (hi : i < xs.length) (h1 : 1 ≤ d) (hd : d ≤ 400) :
    0 ≤ pt xs (i + 1) (d - xs[i].1.toNat) ∧ pt xs (i + 1) (d - xs[i].1.toNat) ≤ 400000000 ∧
    ((pt xs i d < 0 ∧ pt xs (i + 1) d = pt xs (i + 1) (d - xs[i].1.toNat) + xs[i].2) ∨ (0 ≤ pt xs i d ∧ pt xs (i + 1) d = min (pt xs i d) (pt xs (i + 1) (d - xs[i].1.toNat) + xs[i].2))) := by
  have ho := h.all _ (List.getElem_mem hi)
  have hok := ok_take h (i + 1) (by omega)
  have hb := best_bd hok (d - xs[i].1.toNat)
  have e1 : ∀ k, pt xs (i + 1) k = best (xs.take (i + 1)) k := fun k => by unfold pt; rw [if_neg (by omega)]
  refine ⟨by rw [e1]; exact hb.1, by rw [e1]; omega, ?_⟩
  rw [e1, e1, take_snocO xs i hi]
  by_cases h0 : i = 0
  · subst h0
    refine .inl ⟨by unfold pt; rw [if_pos rfl, if_neg (by omega)]; omega, ?_⟩
    simp only [List.take_zero, List.nil_append]
    rw [best_one _ ho d h1 (by omega)]; omega
  · have hok' := ok_take h i (by omega)
    have hp : pt xs i d = best (xs.take i) d := by unfold pt; rw [if_neg h0]
    refine .inr ⟨by rw [hp]; exact (best_bd hok' d).1, ?_⟩
    rw [hp, best_snoc hok' _ ho d h1 (by omega)]; omega
def PricesQ (xs : List Offer) (n : Nat) (w : World) (e : Ending) (w' : World) : Prop :=
  ∃ g cap T, e = .returned (.slice (some ⟨g, 0, none⟩) (n + 1) cap) ∧ n + 1 ≤ cap ∧ cap ≤ maxLen ∧ Tr w w' g n T ∧ ∀ j, j ≤ n → T j = best xs j
set_option maxHeartbeats 2000000 in
theorem prices_any (v : Value) (xs : List Offer) (n : Nat) (hn : n ≤ 400) (w : World) (h : Rd 2 eO w v xs) (hl8 : xs.length ≤ 8) (ok : Ok xs) : Calls Try.prog 31 #[v, .int .i64 n] w (PricesQ xs n w) := by
  have hle := h.len_le
  obtain ⟨a, cap, rfl, h1, h2, h3⟩ := h
  have H3 := Lib.hid h3; clear h3
  have OK := Lib.hid ok; clear ok
  go_enter Try.func31, Try.ntmps31
  go_wp2_with fail
  have h0 : OwnI (w.alloc (.cells #[.int .i64 0] 3)) w.heap.size (.slice (some ⟨w.heap.size, 0, none⟩) 1 1) [0] := World.ownsRow_lit (base := w.heap.size) (e := 3) (size := 1) w #[.int .i64 0] 1 (Nat.le_refl _) (by unfold maxLen; omega) (by rfl)
  have Hb := Lib.hid h0; clear h0
  go_loopw [5, 6] (fun v d wr => ∃ D : Nat, 1 ≤ D ∧ D ≤ n + 1 ∧ d = .int .i64 D ∧ OwnI wr w.heap.size v (0 :: List.replicate (D - 1) (-1)) ∧ Below w.heap.size w wr) (fun _ d _ => (n + 1 - intOf d).toNat)
  case atStart => exact ⟨1, by omega, by omega, rfl, Hb.out, (br w).alloc (Nat.le_refl _) _⟩
  case round =>
    obtain ⟨D, hD1, hD2, rfl, hown, hB⟩ := hrel
    clear Hb
    by_cases hDn : D ≤ n
    · have HO := Lib.hid hown; clear hown
      have hsz := hB.size
      go_wp2_with (at_builtin; refine app_int rfl (.tmp 16) (.tmp 17) rfl w.heap.size _ (0 :: List.replicate (D - 1) (-1)) rfl (HO.out.next ((br wr).alloc (Nat.le_refl _) (.cells #[.int .i64 (-1)] 3))) wr.heap.size 1 (-1) rfl (by rw [World.cell?_alloc_mark]; rfl) (by simp; omega) (by simp; omega) ?_; intro v1 w1 hown1 hb1; have HO1 := Lib.hid hown1; clear hown1)
      go_roundw
      case rel =>
        refine ⟨D + 1, by omega, by omega, by go_num, ?_, (hB.alloc hsz _).trans hb1⟩
        have := HO1.out
        rw [show (0 :: List.replicate (D - 1) (-1 : Int)) ++ [-1] = 0 :: List.replicate (D + 1 - 1) (-1) by rw [List.cons_append, ← List.replicate_succ', show D + 1 - 1 = D - 1 + 1 by omega]] at this
        exact this
      case measure => simp [intOf]; omega
    · obtain rfl : D = n + 1 := by omega
      obtain ⟨g, cp, hv, g1, g2, hT⟩ := hown.tr (by simp) hB (Nat.le_refl _)
      have hlen : (0 :: List.replicate (n + 1 - 1) (-1 : Int)).length = n + 1 := by simp
      rw [hlen] at hv g1 hT
      subst hv
      have HT0 : Tr w wr g n (pt xs 0) := ⟨hT.below, hT.ge, hT.lt, fun j hj => by
        rw [hT.cell j (by omega)]
        unfold pt
        rw [if_pos rfl]
        match j with
        | 0 => rfl
        | j + 1 =>
          have hj' : j < n := by omega
          simp [List.getD_eq_getElem?_getD, List.getElem?_replicate, hj'], fun j hj => hT.froz j (by omega)⟩
      have HT := Lib.hid HT0; clear hT hown hlen HT0
      have hcast : ((n + 1 : Nat) : Int) = (n : Int) + 1 := by omega
      have hdec : decide ((n : Int) + 1 ≤ (n : Int)) = false := decide_eq_false (by omega)
      rw [hcast]
      clear hcast
      go_wp2_with fail
      go_loopw [7] (fun i wr => ∃ k : Nat, k ≤ xs.length ∧ i = .int .i64 k ∧ Tr w wr g n (pt xs k)) (fun i _ => (xs.length - (intOf i).toNat))
      case atStart => exact ⟨0, Nat.zero_le _, rfl, HT.out⟩
      case round =>
        obtain ⟨k, hk, rfl, hT⟩ := hrel
        have HT2 := Lib.hid hT; clear hT HT hB
        by_cases hlt : k < xs.length
        · go_wp2_with fail
          go_loopw [8] (fun d wr => ∃ D : Nat, 1 ≤ D ∧ D ≤ n + 1 ∧ d = .int .i64 D ∧ ∃ T, Tr w wr g n T ∧ (∀ j, j < D → T j = pt xs (k + 1) j) ∧ ∀ j, D ≤ j → j ≤ n → T j = pt xs k j) (fun d _ => (n + 1 - intOf d).toNat)
          case atStart =>
            refine ⟨1, by omega, by omega, rfl, _, HT2.out, fun j hj => ?_, fun j _ _ => rfl⟩
            obtain rfl : j = 0 := by omega
            rw [pt_zero, pt_zero]
          case round =>
            obtain ⟨D, hD1, hD2, rfl, T, hT, hA, hC⟩ := hrel
            clear HT2
            by_cases hDn : D ≤ n
            · obtain ⟨b, off, rfl, hbl, hc⟩ := H3.out (by omega)
              obtain ⟨c0, c1⟩ := eO_at hc k hlt
              have c0 := (hT.below.cell (p := ⟨b, off + k * 2, none⟩) hbl).trans c0
              have c1 := (hT.below.cell (p := ⟨b, off + k * 2 + 1, none⟩) hbl).trans c1
              have hok := OK.out.all _ (List.getElem_mem hlt)
              obtain ⟨s1, s2, s3⟩ := pt_step OK.out k D hlt hD1 (by omega)
              have pb := pt_bd OK.out k D (by omega)
              clear hc H3
              generalize xs[k] = c at *
              obtain ⟨cd, cp'⟩ := c
              obtain ⟨q1, q2, q3, q4⟩ := hok
              obtain ⟨kk, hkk⟩ : ∃ kk : Nat, kk = D - cd.toNat := ⟨_, rfl⟩
              simp only at q1 q2 q3 q4 s1 s2 s3 c0 c1
              rw [← hkk] at s1 s2 s3
              have cD := hT.cell D hDn
              have fD := hT.froz D hDn
              have cK := hT.cell kk (by omega)
              rw [hC D (Nat.le_refl _) hDn] at cD
              rw [hA kk (by omega)] at cK
              have HT := Lib.hid hT; have HA := Lib.hid hA; have HC := Lib.hid hC; have S3 := Lib.hid s3
              clear hT hA hC s3 OK
              have i0 : (0 : Int) ≤ (kk : Int) := by omega
              have i1 : (0 : Int) ≤ (D : Int) := by omega
              have i2 : (D : Int) < (n : Int) + 1 := by omega
              have i3 : (kk : Int) < (n : Int) + 1 := by omega
              have hcase : (cd > (D : Int) ∧ kk = 0) ∨ (cd ≤ (D : Int) ∧ (D : Int) - cd = (kk : Int)) := by omega
              have hkn : kk ≤ n := by omega
              clear hkk
              have hfin : ∀ Z : Int, Z = pt xs (k + 1) D → ∀ wz, Tr w wz g n (fun j => if j = D then Z else T j) → ∃ T', Tr w wz g n T' ∧ (∀ j, j < D + 1 → T' j = pt xs (k + 1) j) ∧ ∀ j, D + 1 ≤ j → j ≤ n → T' j = pt xs k j := fun Z hZ wz hz =>
                ⟨_, hz, fun j hj => by
                  by_cases e : j = D
                  · subst e; simpa using hZ
                  · simp only [if_neg e]; exact HA.out j (by omega), fun j h5 h6 => by simp only [if_neg (show ¬ j = D by omega)]; exact HC.out j (by omega) h6⟩
              have hkeep : pt xs k D = pt xs (k + 1) D → ∀ m, ∃ T', Tr w (wr.drewN m) g n T' ∧ (∀ j, j < D + 1 → T' j = pt xs (k + 1) j) ∧ ∀ j, D + 1 ≤ j → j ≤ n → T' j = pt xs k j := fun hZ m =>
                ⟨T, HT.out.dr m, fun j hj => by
                  by_cases e : j = D
                  · subst e; rw [HC.out j (Nat.le_refl _) hDn]; exact hZ
                  · exact HA.out j (by omega), fun j h5 h6 => HC.out j (by omega) h6⟩
              have HFin := Lib.hid hfin; have HKeep := Lib.hid hkeep
              have HSet := fun m Z => (HT.out.dr m).set D hDn Z
              have HSET := Lib.hid HSet
              clear hfin hkeep HSet
              generalize pt xs k D = X at *
              generalize pt xs (k + 1) kk = Y at *
              have s3 := S3.out
              generalize pt xs (k + 1) D = V at *
              have s4 : (X < 0 ∧ V = Y + cp') ∨ (0 ≤ X ∧ Y + cp' < X ∧ V = Y + cp') ∨ (0 ≤ X ∧ X ≤ Y + cp' ∧ X = V) := by omega
              clear s3 S3
              have w1 : IntKind.i64.wrap (Y + cp') = Y + cp' := IntWalk.i64_in _ (by omega)
              rcases hcase with ⟨g3, rfl⟩ | ⟨g3, g4⟩
              all_goals
                rcases s4 with ⟨t1, t2⟩ | ⟨t1, t2, t3⟩ | ⟨t1, t2, t3⟩
                · have HV := Lib.hid t2; clear t2
                  go_wp2_with fail
                  go_quiet (fail)
                  go_wp2_with fail
                  go_region_with (fail)
                  all_goals
                    go_wp2
                    go_roundw
                    case rel => exact ⟨D + 1, by omega, by omega, by go_num, HFin.out _ HV.out.symm _ (HSET.out _ _)⟩
                    case measure => simp [intOf]; omega
                · have HV := Lib.hid t3; clear t3
                  go_wp2_with fail
                  go_quiet (fail)
                  go_wp2_with fail
                  go_region_with (fail)
                  all_goals
                    go_wp2
                    go_roundw
                    case rel => exact ⟨D + 1, by omega, by omega, by go_num, HFin.out _ HV.out.symm _ (HSET.out _ _)⟩
                    case measure => simp [intOf]; omega
                · have HV := Lib.hid t3; clear t3
                  go_wp2_with fail
                  go_quiet (fail)
                  go_wp2
                  go_roundw
                  case rel => exact ⟨D + 1, by omega, by omega, by go_num, HKeep.out HV.out _⟩
                  case measure => simp [intOf]; omega
            · obtain rfl : D = n + 1 := by omega
              have HT := Lib.hid hT; have HA := Lib.hid hA
              clear hT hA hC OK H3
              go_wp2
              go_roundw
              case rel => exact ⟨k + 1, by omega, by go_num, HT.out.below, HT.out.ge, HT.out.lt, fun j hj => by rw [← HA.out j (by omega)]; exact HT.out.cell j hj, HT.out.froz⟩
              case measure => simp [intOf]; omega
        · obtain rfl : k = xs.length := by omega
          have HP := Lib.hid (fun j => pt_all xs OK.out j)
          clear OK H3
          go_wp2
          go_ret
          exact ⟨g, cp, _, rfl, g1, g2, HT2.out, fun j _ => HP.out j⟩
end Cv
end Go.Proofs.Ytogohocokmhjcaa
