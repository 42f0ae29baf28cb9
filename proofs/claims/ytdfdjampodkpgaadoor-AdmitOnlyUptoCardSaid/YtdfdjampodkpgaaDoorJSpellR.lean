/- Joined by shake.py: SpellRead SpellRead2. -/
import Derived.Test.YtdfdjampodkpgaaDoorJSpell
import Derived.Laws.BytesArg
set_option linter.unusedSimpArgs false
set_option linter.unusedVariables false

/-! SpellRead -/
section
/- Spelling: letters are read. -/
set_option linter.unusedSimpArgs false
set_option linter.unusedVariables false
namespace Go.Proofs.YtdfdjampodkpgaaDoor
open Go.RowKit
namespace Sl
open Bt
theorem conv_rd {w : World} {v : Value} {xs : List UInt8} (h : RdE elB w v xs) : (convert 84 9 v).run Tryd.prog w = .ok (.string ⟨xs.toArray⟩) w := by
  obtain ⟨a, cap, rfl, _, _, h3⟩ := h
  by_cases hn : 0 < xs.length
  · obtain ⟨b, off, rfl, hb, hc⟩ := h3 hn
    exact run_convert_bytes_back (P := Tryd.prog) w 84 9 5 ⟨b, off, none⟩ cap xs Tryd.underlying84 Tryd.underlying5 Tryd.underlying9 (fun j hj => by
      have ha : (⟨b, off, none⟩ : Addr).add j = ⟨b, off + j, none⟩ := by unfold Addr.add; split <;> simp_all
      rw [ha]
      have := hc j hj 0 _ rfl
      simpa using this)
  · have e : xs = [] := List.eq_nil_of_length_eq_zero (by omega)
    subst e
    cases a with
    | none =>
      have := run_convert_bytes_nil (P := Tryd.prog) (w := w) (dst := 9) 84 5 Tryd.underlying84 Tryd.underlying5 0 cap
      first
        | exact this
        | exact this Tryd.underlying9
        | simpa using this
    | some a =>
      exact run_convert_bytes_back (P := Tryd.prog) w 84 9 5 a cap [] Tryd.underlying84 Tryd.underlying5 Tryd.underlying9 (fun j hj => by cases hj)
theorem nums_snoc (l : List Nat) (c : Nat) : nums (l ++ [c]) = if num c = 33 then none else if num c = 32 then nums l else (nums l).map (· ++ [num c]) := by
  rw [nums_app]
  have : nums [c] = if num c = 33 then none else if num c = 32 then some [] else some [num c] := by
    rw [nums]
    rfl
  rw [this]
  by_cases h1 : num c = 33
  · rw [if_pos h1, if_pos h1]; cases nums l <;> rfl
  · rw [if_neg h1, if_neg h1]
    by_cases h2 : num c = 32
    · rw [if_pos h2, if_pos h2]
      cases nums l with
      | none => rfl
      | some a => simp
    · rw [if_neg h2, if_neg h2]
      cases nums l <;> rfl
theorem nums_none {l : List Nat} (k : Nat) (h : nums (l.take k) = none) : nums l = none := by
  have := nums_app (l.take k) (l.drop k)
  rw [List.take_append_drop, h] at this
  exact this
theorem nums_take {l : List Nat} {k : Nat} (h : k < l.length) : nums (l.take (k + 1)) = if num l[k] = 33 then none else if num l[k] = 32 then nums (l.take k) else (nums (l.take k)).map (· ++ [num l[k]]) := by
  rw [List.take_succ_eq_append_getElem h, nums_snoc]
theorem readF_none {l : List Nat} (h : nums l = none) : readF l = ([], 1) := by unfold readF; rw [h]
theorem readF_some {l xs : List Nat} (h : nums l = some xs) : readF l = if xs.length % 8 = 1 ∨ xs.length % 8 = 3 ∨ xs.length % 8 = 6 then ([], 1) else if 120 < 5 * xs.length / 8 then ([], 2)
    else if val (bitL 5 xs) (8 * (5 * xs.length / 8)) (5 * xs.length % 8) ≠ 0 then ([], 1) else (grp (bitL 5 xs) 8 (5 * xs.length / 8), 0) := by unfold readF; rw [h]
theorem sB_nil : sB [] = ⟨#[]⟩ := rfl
abbrev RQ (r : List Nat × Int) (w : World) (e : Ending) (w' : World) : Prop := e = .returned (.tuple #[.string (sB r.1), .int .i64 r.2]) ∧ Below w.heap.size w w'
end Sl
end Go.Proofs.YtdfdjampodkpgaaDoor
end

/-! SpellRead2 -/
section
/- Spelling: Read, Write, Fair. -/
set_option linter.unusedSimpArgs false
set_option linter.unusedVariables false
namespace Go.Proofs.YtdfdjampodkpgaaDoor
open Go.RowKit
namespace Sl
open Bt
theorem i32_byte {x : Nat} (h : x < 256) : IntKind.i32.wrap (x : Int) = (x : Int) := wraps_i32 _ (by omega) (by omega)
set_option maxRecDepth 100000 in
set_option maxHeartbeats 4000000 in
theorem read_any (s : ByteArray) (hs : s.size ≤ 1100000) (w : World) (hT : Tab w) : Calls Tryd.prog 27 #[.string s] w (RQ (readF (nt s)) w) := by
  obtain ⟨cap, W, hcv, hrd, hbW⟩ := conv_sb s w (by unfold maxLen; omega)
  have hlb : s.data.toList.length = s.size := Array.length_toList
  obtain ⟨a, cap0, e0, _, _, g3⟩ := hrd
  rw [hlb] at e0
  injection e0 with e1 e2 e3
  subst e1 e3
  clear e2
  have hcell : ∀ k (hk : k < s.size), W.cell? ⟨w.heap.size, k, none⟩ = some (.int .u8 ((nt s).getD k 0 : Nat)) := fun k hk => by
    obtain ⟨b, off, e, hb, hc⟩ := g3 (by rw [hlb]; omega)
    injection e with e
    injection e with e4 e5
    subst e4 e5
    have := hc k (by rw [hlb]; exact hk) 0 _ rfl
    simp only [Nat.mul_one, Nat.add_zero, Nat.zero_add] at this
    rw [getD_lt (by rw [nt_len]; exact hk)]
    unfold nt
    rw [List.getElem_map]
    exact this
  have HC := Lib.hid hcell
  have HWlt : RowKit.Hid (0 < s.size → w.heap.size < W.heap.size) := Lib.hid (fun h => World.block_lt_of_cell? W _ (hcell 0 h))
  have hTW := hT.below hbW
  have HT := Lib.hid hTW
  have HN := Lib.hid (nt_lt s)
  have hnl := nt_len s
  have HBW := Lib.hid hbW
  clear g3 hcell hlb hT hTW hbW
  generalize nt s = N at *
  have HNL := Lib.hid hnl
  have hle : (s.size : Int) ≤ 1100000 := by omega
  clear hnl
  obtain ⟨R, hR⟩ : ∃ R, readF N = R := ⟨_, rfl⟩
  rw [hR]
  have HR := Lib.hid hR
  clear hR
  obtain ⟨RL, RE⟩ := R
  go_enter Tryd.func27, Tryd.ntmps27
  go_wp2
  go_loopw [4, 14] (fun v i wr => ∃ (k : Nat) (xs : List Nat), k ≤ s.size ∧ i = .int .i64 k ∧ RowKit.Hid (nums (N.take k) = some xs) ∧ ROwn elZ wr W.heap.size v (zs xs) ∧ Below W.heap.size W wr) (fun _ i _ => s.size - (intOf i).toNat)
  case atStart => exact ⟨0, [], Nat.zero_le _, rfl, Lib.hid rfl, (ROwn.nil _ _ : ROwn elZ W W.heap.size (.slice none 0 0) []), br _⟩
  case round =>
    obtain ⟨k, xs, hk, rfl, hnum, hown, hbw⟩ := hrel
    by_cases hkl : k < s.size
    · have hkN : k < N.length := by rw [HNL.out]; exact hkl
      have d0 := (hbw.cell (p := ⟨w.heap.size, k, none⟩) (HWlt.out (by omega))).trans (HC.out k hkl)
      rw [getD_lt hkN] at d0
      have hx := HN.out _ (List.getElem_mem hkN)
      have hnt := nums_take hkN
      rw [hnum.out] at hnt
      have hna := number_any N[k] hx
      have HTr := Lib.hid (HT.out.below hbw)
      have hxs := nums_len hnum.out
      rw [List.length_take] at hxs
      generalize N[k] = x at *
      have HNA := Lib.hid (fun W h => hna W h)
      have hcw := i32_byte hx
      have i1 : (k : Int) < (s.size : Int) := by omega
      have i0 : (0 : Int) ≤ (k : Int) := by omega
      have HBR := Lib.hid hbw; have HON := Lib.hid hown
      unfold numC at HNA
      clear hna hbw HC
      by_cases c1 : num x = 33
      · rw [if_pos c1] at HNA hnt
        have hrr := readF_none (nums_none (k + 1) hnt)
        rw [HR.out] at hrr
        injection hrr with hr1 hr2
        subst hr1 hr2
        clear hnt hown
        go_wp2_with fail
        refine (HNA.out _ HTr.out).mono ?_
        rintro en w2 ⟨rfl, b2⟩
        have HB2 := Lib.hid (bt (HBW.out.trans (HBR.out.mono HBW.out.size)) b2)
        clear b2
        go_wp2
        go_ret2
        exact ⟨rfl, HB2.out⟩
      · rw [if_neg c1] at HNA hnt
        by_cases c2 : num x = 32
        · rw [if_pos c2] at HNA hnt
          have HNT := Lib.hid hnt
          clear hnt hown
          go_wp2_with fail
          refine (HNA.out _ HTr.out).mono ?_
          rintro en w2 ⟨rfl, b2⟩
          have HB2 := Lib.hid (bt HBR.out b2)
          have HO2 := Lib.hid (HON.out.next b2)
          clear b2
          go_wp2
          go_roundw
          case rel => exact ⟨k + 1, xs, by omega, by go_num, HNT, HO2.out, HB2.out⟩
          case measure => simp [intOf]; omega
        · rw [if_neg c2] at HNA hnt
          simp only [Option.map_some] at hnt
          have HNT := Lib.hid hnt
          have hd2 : ((num x : Int) == -2) = false := by simp
          have hd1 : ((num x : Int) == -1) = false := by simp
          generalize num x = y at *
          have HLT := Lib.hid (fun W : World => rd_lit elZ [(y : Int)] W 3 (0, 0) W.heap.size rfl (by simp [maxLen]))
          have hxl : xs.length ≤ 1100000 := by omega
          clear hnt c1 c2
          go_wp2_with fail
          refine (HNA.out _ HTr.out).mono ?_
          rintro en w2 ⟨rfl, b2⟩
          have HB2 := Lib.hid (bt HBR.out b2)
          have HO2 := Lib.hid (HON.out.next b2)
          have HS := Lib.hid HB2.out.size
          obtain ⟨x6, c6, hsh⟩ := own_shapeZ hown
          subst hsh
          clear b2 hown HON
          go_wp2_with (at_builtin; refine appE elZ rfl (.tmp 22) (.tmp 24) rfl W.heap.size _ _ rfl (HO2.out.next ((br _).alloc (Nat.le_refl _) _)) _ [(y : Int)] rfl (HLT.out w2) (by rw [zs_len]; show xs.length + 1 ≤ _; unfold maxLen; omega) (by rw [zs_len]; show (xs.length + 1) * 8 ≤ _; omega) (by have := HS.out; simp; omega) ?_; intro v5 w5 hown5 hb5 hfar5; have HO5 := Lib.hid hown5; have HB5 := Lib.hid hb5; clear hown5 hb5 hfar5)
          go_roundw
          case rel =>
            refine ⟨k + 1, xs ++ [y], by omega, by go_num, HNT, ?_, ?_⟩
            · unfold zs; rw [List.map_append]; exact HO5.out
            · exact (HB2.out.alloc HB2.out.size _).trans HB5.out
          case measure => simp [intOf]; omega
    · have e : k = s.size := by omega
      subst e
      have hall : N.take s.size = N := by rw [← HNL.out]; exact List.take_length
      have hn := hnum.out
      rw [hall] at hn
      have hrr := readF_some hn
      rw [HR.out] at hrr
      have hx32 := nums_lt HN.out hn
      have hxl := nums_len hn
      rw [HNL.out] at hxl
      obtain ⟨a6, c6, hsh⟩ := own_shapeZ hown
      obtain ⟨m, hm⟩ : ∃ m, xs.length = m := ⟨_, rfl⟩
      rw [zs_len, hm] at hsh
      subst hsh
      have HON := Lib.hid hown.rd
      have HBR := Lib.hid hbw
      have cr := fun v w' h => regB_any v xs w' h hx32 (by omega)
      rw [hm] at cr hrr hxl
      have e8 : (m : Int).tmod 8 = ((m % 8 : Nat) : Int) := by rw [Int.tmod_eq_emod_of_nonneg (by omega)]; omega
      have hm8 : m % 8 < 8 := Nat.mod_lt _ (by omega)
      have hmw : IntKind.i64.wrap ((m % 8 : Nat) : Int) = ((m % 8 : Nat) : Int) := IntWalk.i64_in _ (by omega)
      have hlen : (zs xs).length = m := by rw [zs_len, hm]
      have hgl := grp_len (bitL 5 xs) 8 (many 5 8 m)
      have hqb : many 5 8 m ≤ 2000000 := by unfold many; omega
      have hq : many 5 8 m = 5 * m / 8 := rfl
      have hr : rest 5 8 m = 5 * m % 8 := rfl
      rw [← hq, ← hr] at hrr
      generalize val (bitL 5 xs) (8 * many 5 8 m) (rest 5 8 m) = L at *
      generalize hG : grp (bitL 5 xs) 8 (many 5 8 m) = G at *
      clear hG hn hown hbw hnum hall HN HC HNL hxl hx32
      generalize many 5 8 m = q at *
      generalize rest 5 8 m = r at *
      have HRR := Lib.hid hrr
      have CR := Lib.hid cr
      have HM8 := Lib.hid hm8
      have hgl2 : (by8 G).length = q := by unfold by8; rw [List.length_map, hgl]
      have HGL := Lib.hid hgl2
      clear hrr cr hq hr hm hgl hgl2 hlen
      generalize m % 8 = d at *
      have hqle : (q : Int) ≤ 2000000 := by omega
      by_cases hd : d = 1 ∨ d = 3 ∨ d = 6
      · have hrr := HRR.out
        rw [if_pos hd] at hrr
        injection hrr with hr1 hr2
        subst hr1 hr2
        clear CR HON HM8
        rcases hd with rfl | rfl | rfl
        all_goals
          go_wp2
          go_ret2
          exact ⟨rfl, HBW.out.trans (HBR.out.mono HBW.out.size)⟩
      · have hrr := HRR.out
        rw [if_neg hd] at hrr
        have HRR2 := Lib.hid hrr
        have d1 : ((d : Int) == 1) = false := by simp; omega
        have d3 : ((d : Int) == 3) = false := by simp; omega
        have d6 : ((d : Int) == 6) = false := by simp; omega
        clear hrr hd HRR hm8
        go_wp2_with fail
        refine (CR.out _ _ HON.out).mono ?_
        rintro en w3 ⟨u, rfl, hu, b3⟩
        have HB3 := Lib.hid (bt (HBW.out.trans (HBR.out.mono HBW.out.size)) b3)
        have hcv := conv_rd hu.rd
        obtain ⟨x8, c8, hsh8⟩ := own_shapeZ hu
        rw [HGL.out] at hsh8
        subst hsh8
        have hrr := HRR2.out
        clear b3 hu HON HBW HBR HT HRR2 CR
        by_cases h120 : 120 < q
        · rw [if_pos h120] at hrr
          injection hrr with hr1 hr2
          subst hr1 hr2
          have hq1 : (120 : Int) < (q : Int) := by omega
          go_wp2
          go_ret2
          exact ⟨rfl, HB3.out⟩
        · rw [if_neg h120] at hrr
          have hq1 : ¬ (120 : Int) < (q : Int) := by omega
          by_cases hL : L = 0
          · subst hL
            rw [if_neg (by simp)] at hrr
            injection hrr with hr1 hr2
            subst hr1 hr2
            go_wp2
            go_ret2
            exact ⟨rfl, HB3.out⟩
          · rw [if_pos hL] at hrr
            injection hrr with hr1 hr2
            subst hr1 hr2
            have hL1 : ((L : Int) == 0) = false := by simp; omega
            clear hcv
            go_wp2
            go_ret2
            exact ⟨rfl, HB3.out⟩
end Sl
end Go.Proofs.YtdfdjampodkpgaaDoor
end
