/- Spelling: a text is spelled. (gen_spell2.py) -/
import Derived.Test.YtkanlfgomfibdaaDoorSpellConv
set_option linter.unusedSimpArgs false
set_option linter.unusedVariables false
namespace Go.Proofs.YtkanlfgomfibdaaDoor
open Go.RowKit
namespace Sl
open Bt
theorem wrapsN (V : Nat) (h : V < 256) : wrap64 (V : Int) = (V : Int) ∧ IntKind.i64.wrap (V : Int) = (V : Int) := ⟨by unfold wrap64; omega, IntWalk.i64_in _ (by omega)⟩
theorem zs_len (l : List Nat) : (zs l).length = l.length := by unfold zs; rw [List.length_map]
def csL (xs : List Nat) (k : Nat) : List Value := (xs.take k).map lv ++ List.replicate (xs.length - k) (.int .u8 0)
theorem cs_zero (xs : List Nat) : csL xs 0 = List.replicate xs.length (.int .u8 0) := by unfold csL; simp
theorem cs_at {xs : List Nat} {k : Nat} (h : k < xs.length) : (csL xs k)[k]? = some (.int .u8 0) := by
  unfold csL
  rw [List.getElem?_append_right (by simp; omega)]
  have : k - ((xs.take k).map lv).length = 0 := by simp; omega
  rw [this, List.getElem?_replicate]
  rw [if_pos (by omega)]
theorem cs_set {xs : List Nat} {k : Nat} (h : k < xs.length) : (csL xs k).set k (lv xs[k]) = csL xs (k + 1) := by
  unfold csL
  have hl : ((xs.take k).map lv).length = k := by simp; omega
  rw [List.set_append_right _ _ (by rw [hl]; exact Nat.le_refl _), hl, Nat.sub_self, List.take_succ_eq_append_getElem h, List.map_append]
  have : xs.length - k = (xs.length - (k + 1)) + 1 := by omega
  rw [this, List.replicate_succ, List.set_cons_zero]
  simp
theorem cs_all (xs : List Nat) : csL xs xs.length = xs.map lv := by unfold csL; simp
set_option maxRecDepth 100000 in
set_option maxHeartbeats 2000000 in
theorem raw_any (s : ByteArray) (hs : s.size ≤ 1000) (w : World) : Calls Tryd.prog 14 #[.string s] w fun e w' => e = .returned (.string (sB (rawF (nt s)))) ∧ Below w.heap.size w w' := by
  obtain ⟨cap, W, hcv, hrd, hbW⟩ := conv_sb s w (by unfold maxLen; omega)
  have hlb : s.data.toList.length = s.size := Array.length_toList
  have cr := fun v w' h => regA_any v s.data.toList w' h (by rw [hlb]; omega)
  rw [hlb] at cr
  have hqr := many_rest 8 5 s.size
  have hr5 : rest 8 5 s.size < 5 := Nat.mod_lt _ (by omega)
  have hfit : fit s.size ≤ 2000 := by unfold fit; omega
  have hfl : (fives (nt s)).length = fit s.size := by rw [fives_len, nt_len]
  have hf0 : rest 8 5 s.size = 0 → fives (nt s) = grp (bitL 8 (nt s)) 5 (many 8 5 s.size) := fun h => by
    unfold fives
    rw [nt_len]
    have : fit s.size = many 8 5 s.size := by unfold fit; omega
    rw [this]
  have hf1 : 0 < rest 8 5 s.size → fives (nt s) = grp (bitL 8 (nt s)) 5 (many 8 5 s.size) ++ [val (bitL 8 (nt s)) (5 * many 8 5 s.size) (rest 8 5 s.size) * 2 ^ (5 - rest 8 5 s.size)] := fun h => by
    unfold fives
    rw [nt_len]
    have : fit s.size = many 8 5 s.size + 1 := by unfold fit; omega
    rw [this, grp_succ, ← val_pad (by omega) (nt s) (by rw [nt_len]; omega)]
    have : rest 8 5 s.size + (5 - rest 8 5 s.size) = 5 := by omega
    rw [this]
  have hLlt := val_lt (bitL_lt 8 (nt s)) (5 * many 8 5 s.size) (rest 8 5 s.size)
  have hL16 : val (bitL 8 (nt s)) (5 * many 8 5 s.size) (rest 8 5 s.size) < 16 := Nat.lt_of_lt_of_le hLlt (Nat.le_trans (Nat.pow_le_pow_right (by omega) (show rest 8 5 s.size ≤ 4 by omega)) (by decide))
  have hx32 := fives_lt (nt s)
  have hgl := grp_len (bitL 8 (nt s)) 5 (many 8 5 s.size)
  have hraw : rawF (nt s) = (fives (nt s)).map letter := rfl
  have hrl : ∀ x ∈ rawF (nt s), x < 256 := rawF_lt _
  unfold nt at hf0 hf1 hL16 hx32 hfl hraw hrl hgl ⊢
  generalize s.data.toList.map UInt8.toNat = N at *
  generalize hF : fives N = F at *
  clear hF hLlt
  obtain ⟨RES, hRES⟩ : ∃ R, sB (rawF N) = R := ⟨_, rfl⟩
  have hconv : ∀ g W t, Box W g t (F.map lv) → (convert 31 9 (.slice (some ⟨g, 0, none⟩) F.length F.length)).run Tryd.prog W = .ok (.string RES) W := fun g W t hb => by
    have := conv_bs (rawF N) hrl g W t (by rw [hraw, List.map_map]; exact hb)
    rw [hRES, hraw, List.length_map] at this
    exact this
  rw [hRES]
  have HCONV := Lib.hid hconv
  clear hRES hraw hrl hconv
  have hle : F.length ≤ 2000 := by omega
  generalize many 8 5 s.size = q at *
  generalize rest 8 5 s.size = r at *
  generalize val (bitL 8 N) (5 * q) r = L at *
  have CR := Lib.hid cr
  have HRD := Lib.hid hrd; have HBW := Lib.hid hbW; have HX := Lib.hid hx32
  have hsz : (s.size : Int) ≤ 1000 := by omega
  rw [hlb] at HRD
  clear cr hrd hbW hx32 hqr hlb hfl hfit
  by_cases hr0 : r = 0
  · subst hr0
    have hF0 := hf0 rfl
    rw [← hF0] at CR
    clear hf0 hf1 hF0 hgl
    go_enter Tryd.func14, Tryd.ntmps14
    go_wp2_with fail
    refine (CR.out _ _ HRD.out).mono ?_
    rintro en w3 ⟨u, rfl, hF, hb3⟩
    have hB3 := bt HBW.out hb3
    have hF := hF.base (Nat.le_refl _)
    clear hb3 CR HRD HBW
    obtain ⟨x3, c3, hsh3⟩ := own_shapeZ hF
    rw [zs_len] at hsh3
    subst hsh3
    obtain ⟨a4, c4, e4, _, _, g4⟩ := hF.rd
    injection e4 with e5 e7 e6
    clear e7
    subst e5 e6
    have G4 := Lib.hid g4
    have HB3 := Lib.hid hB3
    clear g4 hF hB3
    have hmk := fun W => make_u8 F.length (by omega) W
    have HMK := Lib.hid hmk
    generalize hm : F.length = m at *
    have HM := Lib.hid hm
    clear hm
    have hmle : (m : Int) ≤ 2000 := by omega
    have hbx0 := Lib.hid (Box.new w3 5 (List.replicate m (.int .u8 0)))
    go_wp2_with fail
    go_loopw [30] (fun i wr => ∃ k : Nat, k ≤ m ∧ i = .int .i64 k ∧ Box wr w3.heap.size 5 (csL F k) ∧ Below w3.heap.size w3 wr) (fun i _ => m - (intOf i).toNat)
    case atStart => exact ⟨0, Nat.zero_le _, rfl, by rw [cs_zero, HM.out]; exact hbx0.out, (br _).alloc (Nat.le_refl _) _⟩
    case round =>
      obtain ⟨k, hk, rfl, hbox, hbw⟩ := hrel
      by_cases hkl : k < m
      · obtain ⟨g, off, rfl, hbl, hc⟩ := G4.out (by rw [zs_len, HM.out]; omega)
        have hkF : k < F.length := by rw [HM.out]; exact hkl
        have d0 := (hbw.cell (p := ⟨g, off + (k * 1 + 0), none⟩) hbl).trans (hc k (by rw [zs_len]; exact hkF) 0 _ rfl)
        simp only [Nat.mul_one, Nat.add_zero, zs, List.getElem_map] at d0
        have hx := HX.out _ (List.getElem_mem hkF)
        have hs0 := hbox.cell k
        rw [cs_at hkF] at hs0
        have hf0 := hbox.froz k
        have hset := hbox.set k (lv F[k])
        rw [cs_set hkF] at hset
        unfold lv at hset
        have hlt := hbox.lt
        have hix := fun W => letters_at F[k] hx W
        unfold lettersB at hix
        generalize F[k] = x at *
        have i1 : (k : Int) < (m : Int) := by omega
        have i0 : (0 : Int) ≤ (k : Int) := by omega
        have HSET := Lib.hid hset; have HBW2 := Lib.hid hbw
        clear hc hset hbw hbox G4 hmk
        go_wp2
        go_roundw
        case rel => exact ⟨k + 1, by omega, by go_num, HSET.out, HBW2.out.setCell (Nat.le_refl _) _⟩
        case measure => simp [intOf]; omega
      · have e : k = m := by omega
        subst e
        rw [← HM.out, cs_all] at hbox
        have hcv2 := HCONV.out _ _ _ hbox
        have HBW2 := Lib.hid (HB3.out.trans (hbw.mono HB3.out.size))
        clear hbox hbw G4 hmk
        go_wp2
        go_ret
        exact ⟨rfl, HBW2.out⟩
  · obtain ⟨c, hrc, hc1, hc4⟩ : ∃ c : Nat, r + c = 5 ∧ 1 ≤ c ∧ c ≤ 4 := ⟨5 - r, by omega, by omega, by omega⟩
    have hF1 := hf1 (by omega)
    rw [show 5 - r = c by omega] at hF1
    have hI : (5 : Int) - (r : Int) = (c : Int) := by omega
    have hgt : (0 : Int) < (r : Int) := by omega
    obtain ⟨V, hV⟩ : ∃ V, L * 2 ^ c = V := ⟨_, rfl⟩
    have hVlt : V < 256 := by
      rw [← hV]
      have h1 : 2 ^ c ≤ 16 := Nat.le_trans (Nat.pow_le_pow_right (by omega) hc4) (by decide)
      have := Nat.mul_le_mul (show L ≤ 15 by omega) h1
      omega
    have hVI : (L : Int) * 2 ^ c = (V : Int) := by rw [← hV]; simp
    have hw64 : wrap64 ((L : Int) * 2 ^ c) = (V : Int) := by rw [hVI]; exact (wrapsN V hVlt).1
    have hwi : IntKind.i64.wrap ((L : Int) * 2 ^ c) = (V : Int) := by rw [hVI]; exact (wrapsN V hVlt).2
    rw [hV] at hF1
    have HF1 := Lib.hid hF1
    have HGL := Lib.hid hgl
    have HLT := Lib.hid (fun W : World => rd_lit elZ [(V : Int)] W 3 (0, 0) W.heap.size rfl (by simp [maxLen]))
    clear hf0 hf1 hF1 hV hVI hgl
    generalize hG : grp (bitL 8 N) 5 q = G at *
    clear hG
    have hGle : G.length ≤ 2000 := by have := HF1.out; rw [this, List.length_append] at hle; simp at hle; omega
    go_enter Tryd.func14, Tryd.ntmps14
    go_wp2_with fail
    refine (CR.out _ _ HRD.out).mono ?_
    rintro en w3 ⟨u, rfl, hu, hb3⟩
    have HB3 := Lib.hid (bt HBW.out hb3)
    have HU := Lib.hid hu
    have HS := Lib.hid (Nat.le_trans hb3.size (Nat.le_refl _))
    obtain ⟨xu, cu, hsu⟩ := own_shapeZ hu
    subst hsu
    clear hb3 CR hu
    go_wp2_with (at_builtin; refine appE elZ rfl (.tmp 18) (.tmp 23) rfl W.heap.size _ _ rfl (HU.out.next ((br _).alloc (Nat.le_refl _) _)) _ [(V : Int)] rfl (HLT.out w3) (by rw [zs_len]; show G.length + 1 ≤ _; unfold maxLen; omega) (by rw [zs_len]; show (G.length + 1) * 8 ≤ _; omega) (by have := HS.out; simp; omega) ?_; intro v5 w5 hown5 hb5 hfar5; have HO5 := Lib.hid hown5; have HB5 := Lib.hid hb5; clear hown5 hb5 hfar5)
    have hF : ROwn elZ w5 W.heap.size v5 (zs F) := by
      rw [HF1.out]
      unfold zs
      rw [List.map_append]
      exact HO5.out
    have hB3 : Below w.heap.size w w5 := (HB3.out.alloc HB3.out.size _).trans (HB5.out.mono HBW.out.size)
    clear HO5 HB5 HB3 HRD HBW HU HS
    obtain ⟨x3, c3, hsh3⟩ := own_shapeZ hF
    rw [zs_len] at hsh3
    subst hsh3
    obtain ⟨a4, c4, e4, _, _, g4⟩ := hF.rd
    injection e4 with e5 e7 e6
    clear e7
    subst e5 e6
    have G4 := Lib.hid g4
    have HB3 := Lib.hid hB3
    clear g4 hF hB3
    have hmk := fun W => make_u8 F.length (by omega) W
    have HMK := Lib.hid hmk
    generalize hm : F.length = m at *
    have HM := Lib.hid hm
    clear hm
    have hmle : (m : Int) ≤ 2000 := by omega
    have hbx0 := Lib.hid (Box.new w5 5 (List.replicate m (.int .u8 0)))
    go_wp2_with fail
    go_loopw [30] (fun i wr => ∃ k : Nat, k ≤ m ∧ i = .int .i64 k ∧ Box wr w5.heap.size 5 (csL F k) ∧ Below w5.heap.size w5 wr) (fun i _ => m - (intOf i).toNat)
    case atStart => exact ⟨0, Nat.zero_le _, rfl, by rw [cs_zero, HM.out]; exact hbx0.out, (br _).alloc (Nat.le_refl _) _⟩
    case round =>
      obtain ⟨k, hk, rfl, hbox, hbw⟩ := hrel
      by_cases hkl : k < m
      · obtain ⟨g, off, rfl, hbl, hc⟩ := G4.out (by rw [zs_len, HM.out]; omega)
        have hkF : k < F.length := by rw [HM.out]; exact hkl
        have d0 := (hbw.cell (p := ⟨g, off + (k * 1 + 0), none⟩) hbl).trans (hc k (by rw [zs_len]; exact hkF) 0 _ rfl)
        simp only [Nat.mul_one, Nat.add_zero, zs, List.getElem_map] at d0
        have hx := HX.out _ (List.getElem_mem hkF)
        have hs0 := hbox.cell k
        rw [cs_at hkF] at hs0
        have hf0 := hbox.froz k
        have hset := hbox.set k (lv F[k])
        rw [cs_set hkF] at hset
        unfold lv at hset
        have hlt := hbox.lt
        have hix := fun W => letters_at F[k] hx W
        unfold lettersB at hix
        generalize F[k] = x at *
        have i1 : (k : Int) < (m : Int) := by omega
        have i0 : (0 : Int) ≤ (k : Int) := by omega
        have HSET := Lib.hid hset; have HBW2 := Lib.hid hbw
        clear hc hset hbw hbox G4 hmk
        go_wp2
        go_roundw
        case rel => exact ⟨k + 1, by omega, by go_num, HSET.out, HBW2.out.setCell (Nat.le_refl _) _⟩
        case measure => simp [intOf]; omega
      · have e : k = m := by omega
        subst e
        rw [← HM.out, cs_all] at hbox
        have hcv2 := HCONV.out _ _ _ hbox
        have HBW2 := Lib.hid (HB3.out.trans (hbw.mono HB3.out.size))
        clear hbox hbw G4 hmk
        go_wp2
        go_ret
        exact ⟨rfl, HBW2.out⟩
end Sl
end Go.Proofs.YtkanlfgomfibdaaDoor
