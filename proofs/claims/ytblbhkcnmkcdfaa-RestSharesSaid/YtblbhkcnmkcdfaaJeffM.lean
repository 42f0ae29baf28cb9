/- Jefferson's way, whole. -/
import Derived.Test.YtblbhkcnmkcdfaaJeffF
set_option linter.unusedSimpArgs false
set_option linter.unusedVariables false
namespace Go.Proofs.Ytblbhkcnmkcdfaa
open Go.RowKit
namespace Sh
open Stb
def jefR (t : Int) (ws : List Int) : List Int := if allE t ws = 0 then lst ws.length (jf ws ws.length t.toNat) else []
/-- what each has, written by the order of the heap -/
def put (d : Arr) (hs : Nat → Int) : Nat → Nat → Int
  | 0, _ => 0
  | k + 1, i => if d k = i then hs i else put d hs k i
theorem put_is {d : Arr} {hs : Nat → Int} {i : Nat} : ∀ k, (∃ p, p < k ∧ d p = (i : Int)) → put d hs k i = hs i
  | 0, ⟨p, hp, _⟩ => by omega
  | k + 1, ⟨p, hp, he⟩ => by
    simp only [put]
    by_cases c : d k = (i : Int)
    · rw [if_pos c]
    · rw [if_neg c]
      exact put_is k ⟨p, by
        have : p ≠ k := fun e => c (by rw [← e]; exact he)
        omega, he⟩
theorem put_set (d : Arr) (hs : Nat → Int) (n k p : Nat) (hp : d k = (p : Int)) : (vals (lst n (put d hs k))).set p (.int .i64 (hs p)) = vals (lst n (put d hs (k + 1))) := by
  rw [lst_set]
  congr 1
  exact lst_congr (fun i _ => by
    simp only [put, hp]
    by_cases c : i = p
    · subst c; rw [if_pos rfl, if_pos rfl]
    · rw [if_neg c, if_neg (fun e => c (by omega))])
theorem put_all {d : Arr} {hs : Nat → Int} {n : Nat} (hp : Pm 0 n (fun k => (k : Int)) d) : lst n (put d hs n) = lst n hs := lst_congr (fun i hi => put_is n (stands hp i hi))
theorem bds_of {t : Int} {ws : List Int} (he : allE t ws = 0) (s : Nat) (hs : (s : Int) ≤ t) : Bds ws (jf ws ws.length s) := by
  obtain ⟨_, _, h3, h4, _⟩ := allE_ok he
  exact ⟨fun i => wv_ok h4 i, fun i => by have := jf_bd ws ws.length s i; omega⟩
set_option maxRecDepth 100000 in
set_option maxHeartbeats 4000000 in
theorem jef_bad (v : Value) (t : Int) (ws : List Int) (w : World) (h : RdE elZ w v ws) (he : allE t ws ≠ 0) : Calls Try.prog 12 #[.int .i64 t, v] w (PairZ (jefR t ws) (allE t ws) w) := by
  have hr : jefR t ws = [] := by unfold jefR; rw [if_neg he]
  rw [hr]
  have HA := Lib.hid (all_any v t ws w h)
  have hne : (allE t ws != 0) = true := by simp [he]
  obtain ⟨a, cap, rfl, _, _, _⟩ := h
  generalize allE t ws = er at *
  generalize allS t ws = es at *
  clear hr he
  have HOW : RowKit.Hid (ROwn elZ w w.heap.size (.slice none 0 0) []) := Lib.hid (ROwn.nil _ _)
  have HBR := Lib.hid (br w)
  go_enter Try.func12, Try.ntmps12
  go_wp2_with fail
  refine HA.out.mono ?_
  rintro en w1 ⟨rfl, rfl⟩
  go_wp2
  go_ret2
  exact ⟨_, rfl, HOW.out, HBR.out⟩
set_option maxRecDepth 100000 in
set_option maxHeartbeats 8000000 in
theorem jef_good (v : Value) (t : Int) (ws : List Int) (w : World) (h : RdE elZ w v ws) (he : allE t ws = 0) : Calls Try.prog 12 #[.int .i64 t, v] w (PairZ (jefR t ws) (allE t ws) w) := by
  obtain ⟨q1, q2, q3, q4, q5, q6⟩ := allE_ok he
  have hn0 := len_pos he
  have HA := Lib.hid (all_any v t ws w h)
  have HBD := Lib.hid (bds_of he)
  have HEND : RowKit.Hid (jefR t ws = lst ws.length (jf ws ws.length t.toNat)) := Lib.hid (by unfold jefR; rw [if_pos he])
  obtain ⟨a, cap, rfl, _, _, h3⟩ := h
  obtain ⟨gw, ow, rfl, hgl, hc⟩ := h3 hn0
  have HCW : RowKit.Hid (∀ i, i < ws.length → w.cell? ⟨gw, ow + i, none⟩ = some (.int .i64 (wv ws i))) := Lib.hid (fun i hi => by rw [wv_at hi]; exact eI_at hc i hi)
  have M1 := fun w => make_intsZ w ws.length (by omega)
  generalize jefR t ws = R at *
  rw [he] at HA ⊢
  obtain ⟨T, rfl⟩ : ∃ T : Nat, t = T := ⟨t.toNat, by omega⟩
  rw [Int.toNat_natCast] at HEND
  generalize allS (T : Int) ws = es at *
  clear he q6 h3 hc q4 q5
  have HST0 : RowKit.Hid (HSt w ws (jf ws ws.length 0) 0 (fun k => (k : Int)) (.slice none 0 0) (w.alloc (.cells #[.slice none 0 0] 41))) := Lib.hid (by
    have b := Box.new w 41 [.slice none 0 0]
    exact ⟨b.cell 0, b.froz 0, ROwn.nil _ _, (br w).alloc (Nat.le_refl _) _⟩)
  go_enter Try.func12, Try.ntmps12
  go_wp2_with fail
  refine HA.out.mono ?_
  rintro en w1 ⟨rfl, rfl⟩
  go_wp2
  go_loopw [26] (fun s26 wr => ∃ (k : Nat) (d : Arr) (v : Value), k ≤ ws.length ∧ s26 = .int .i64 k ∧ Pm 0 k (fun k => (k : Int)) d ∧ HOrd (lessP ws (jf ws ws.length 0)) d k ∧ HSt w ws (jf ws ws.length 0) k d v wr) (fun s26 _ => ws.length - (intOf s26).toNat)
  case atStart => exact ⟨0, _, _, Nat.zero_le _, rfl, Pm.refl _, fun i h1 h2 => by omega, HST0.out⟩
  case round =>
    obtain ⟨k, d, v, hk, rfl, hp, ho, hst⟩ := hrel
    have HP := Lib.hid hp; have HO := Lib.hid ho; have HS := Lib.hid hst
    by_cases hlt : k < ws.length
    · have d0 := (hst.bel.cell (p := ⟨gw, ow + k, none⟩) hgl).trans (HCW.out k hlt)
      have hdk : d k = (k : Int) := hp.out k (by omega)
      have PC := Lib.hid (hpush_st (HBD.out 0 (by omega)) hst (by omega) (k : Int) (wv ws k) 0 (by rw [hdk]; rfl) ho)
      have i1 : (k : Int) < (ws.length : Int) := by omega
      have i0 : (0 : Int) ≤ (k : Int) := by omega
      clear hp ho hst hdk
      generalize wv ws k = x at *
      go_wp2_with fail
      refine PC.out.mono ?_
      rintro en w2 ⟨rfl, d2, v2, p1, p2, p3⟩
      have HP2 := Lib.hid ((HP.out.mono (Nat.le_refl _) (Nat.le_succ k)).trans p1); have HO2 := Lib.hid p2; have HS2 := Lib.hid p3
      clear p1 p2 p3 PC
      go_wp2
      go_roundw
      case rel => exact ⟨k + 1, d2, v2, by omega, by go_num, HP2.out, HO2.out, HS2.out⟩
      case measure => simp [intOf]; omega
    · have ek : k = ws.length := by omega
      subst ek
      clear hp ho hst
      obtain ⟨wa, rfl⟩ : ∃ wa, wa = wr := ⟨_, rfl⟩
      go_wp2
      go_loopw [40] (fun s40 wr => ∃ (s : Nat) (d : Arr) (v : Value), s ≤ T ∧ s40 = .int .i64 s ∧ Pm 0 ws.length (fun k => (k : Int)) d ∧ HOrd (lessP ws (jf ws ws.length s)) d ws.length ∧ HSt w ws (jf ws ws.length s) ws.length d v wr) (fun s40 _ => T - (intOf s40).toNat)
      case atStart => exact ⟨0, d, v, Nat.zero_le _, rfl, HP.out, HO.out, HS.out⟩
      case round =>
        obtain ⟨s, d, v, hs, rfl, hp, ho, hst⟩ := hrel
        obtain ⟨g, c, e, hg⟩ := hst.shape hn0
        subst e
        have HP := Lib.hid hp; have HO := Lib.hid ho; have HS := Lib.hid hst
        by_cases hlt : s < T
        · have hB := HBD.out s (by omega)
          have hbest := root_best hn0 (fun i => (hB.w i).1) (fun i => (hB.h i).1) hp (fun i hi => HOrd.root hB.wo ho i hi)
          have c0 := hst.c
          have q2 := (eB_at hst.own 0 (by rw [lstB_len]; exact hn0)).2.2
          rw [lstB_at] at q2
          have f2 := fB_at hst.own 2
          have hj0 : jf ws ws.length (s + 1) (d 0).toNat = jf ws ws.length s (d 0).toNat + 1 := by
            simp only [jf]; rw [if_pos (by omega)]
          have hj1 : ∀ p, p < ws.length → p ≠ 0 → jf ws ws.length (s + 1) (d p).toNat = jf ws ws.length s (d p).toNat := fun p h1 h2 => by
            simp only [jf]
            rw [if_neg]
            intro e2
            have hv : 0 ≤ d p := hp.all (fun x => 0 ≤ x) (fun k _ _ => by omega) p (Nat.zero_le _) h1
            have hv0 : 0 ≤ d 0 := by omega
            exact h2 (Pm_inj hp id_inj p 0 (by omega))
          have hown := own_inc hst.own hn0 hj0 hj1
          have hjb := hB.h (d 0).toNat
          have HDN := Lib.hid (dn_inc ho hj1)
          have HS2 : RowKit.Hid (HSt w ws (jf ws ws.length (s + 1)) ws.length d (.slice (some ⟨g, 0, none⟩) ws.length c) (wr.setCell ⟨g, 2, none⟩ (.int .i64 (jf ws ws.length s (d 0).toNat + 1)))) := Lib.hid
            ⟨(World.cell?_setCell_other wr _ _ _ (by intro e3; injection e3 with e4; omega)).trans hst.c, by rw [World.frozen?_setCell]; exact hst.fz, hown, hst.bel.setCell (by show w.heap.size ≤ g; omega) _⟩
          have FC := Lib.hid (fix_st (HBD.out (s + 1) (by omega)) HS2.out hg (by omega) hn0 HDN.out)
          clear hp ho hst hj0 hj1 hown hbest hB
          unfold bid at q2
          simp only at q2
          generalize jf ws ws.length s (d 0).toNat = y at *
          obtain ⟨y0, y1⟩ := hjb
          have i1 : (s : Int) < (T : Int) := by omega
          have i2 : (0 : Int) < (ws.length : Int) := by omega
          go_wp2_with fail
          refine FC.out.mono ?_
          rintro en w2 ⟨rfl, d2, p1, p2, p3⟩
          have HP2 := Lib.hid (HP.out.trans p1); have HO2 := Lib.hid p2; have HS3 := Lib.hid p3
          clear p1 p2 p3 FC
          go_wp2
          go_roundw
          case rel => exact ⟨s + 1, d2, _, by omega, by go_num, HP2.out, HO2.out, HS3.out⟩
          case measure => simp [intOf]; omega
        · have ek : s = T := by omega
          subst ek
          have c0 := hst.c
          have HBX : RowKit.Hid (Box (wr.alloc (.cells (Array.replicate ws.length (.int .i64 0)) 3)) wr.heap.size 3 (vals (lst ws.length (put d (jf ws ws.length s) 0)))) := Lib.hid (by
            have e2 : lst ws.length (put d (jf ws ws.length s) 0) = List.replicate ws.length 0 := by
              apply List.ext_getElem
              · simp [lst]
              · intro i h1 h2
                simp [lst, put]
            have := Box.new wr 3 (vals (List.replicate ws.length 0))
            rw [e2]
            simpa [vals] using this)
          have HS2 := Lib.hid (hst.next ((br wr).alloc (Nat.le_refl _) (.cells (Array.replicate ws.length (.int .i64 0)) 3)))
          have hgl2 : g < wr.heap.size := World.block_lt_of_cell? wr _ (eB_at hst.own 0 (by rw [lstB_len]; exact hn0)).1
          have hwl := hst.lt
          have HOUT : RowKit.Hid (∀ k, k < ws.length → ∃ p : Nat, p < ws.length ∧ d k = (p : Int)) := Lib.hid (fun k hk => by
            have := hp.all (fun x => 0 ≤ x ∧ x < ws.length) (fun i _ hi => ⟨by omega, by omega⟩) k (Nat.zero_le _) hk
            exact ⟨(d k).toNat, by omega, by omega⟩)
          have HALL := Lib.hid (put_all (hs := jf ws ws.length s) hp)
          clear hp ho hst HO HP HS
          have c1 := HS2.out.c
          go_wp2
          have hBl : wr.heap.size < (wr.alloc (.cells (Array.replicate ws.length (.int .i64 0)) 3)).heap.size := by simp
          obtain ⟨W5, hW5⟩ : ∃ W5, W5 = wr.alloc (.cells (Array.replicate ws.length (.int .i64 0)) 3) := ⟨_, rfl⟩
          rw [← hW5] at HBX HS2 hBl ⊢
          have HB5 : RowKit.Hid (w.heap.size < W5.heap.size) := Lib.hid (by omega)
          clear hW5 c0 c1
          generalize wr.heap.size = B at *
          go_loopw [62] (fun s62 wx => ∃ k : Nat, k ≤ ws.length ∧ s62 = .int .i64 k ∧ Box wx B 3 (vals (lst ws.length (put d (jf ws ws.length s) k))) ∧ KeptB [B] W5 wx) (fun s62 _ => ws.length - (intOf s62).toNat)
          case atStart => exact ⟨0, Nat.zero_le _, rfl, HBX.out, KeptB.refl _ _⟩
          case round =>
            obtain ⟨k, hk3, rfl, hbx, hkp⟩ := hrel
            by_cases hlt3 : k < ws.length
            · obtain ⟨p, hpn, hpk⟩ := HOUT.out k hlt3
              have ee := eB_at HS2.out.own k (by rw [lstB_len]; exact hlt3)
              rw [lstB_at] at ee
              unfold bid at ee
              rw [hpk] at ee
              simp only [Int.toNat_natCast] at ee
              obtain ⟨e0, e1, e2⟩ := ee
              have r0 := hkp.keep e0 (by simp; omega)
              have r1 := hkp.keep e1 (by simp; omega)
              have r2 := hkp.keep e2 (by simp; omega)
              have hbx2 := hbx.alloc (.cells #[.int .i64 p, .int .i64 (wv ws p), .int .i64 (jf ws ws.length s p)] 44)
              have o0 := box_at hbx2 p hpn
              have o1 := hbx2.froz p
              have HSET := Lib.hid (hbx2.set p (.int .i64 (jf ws ws.length s p)))
              rw [put_set d (jf ws ws.length s) ws.length k p hpk] at HSET
              have HKP := Lib.hid ((hkp.alloc (.cells #[.int .i64 p, .int .i64 (wv ws p), .int .i64 (jf ws ws.length s p)] 44)).set B p (.int .i64 (jf ws ws.length s p)) (.inl (by simp)))
              clear hpk hbx hkp e0 e1 e2 hbx2
              generalize put d (jf ws ws.length s) k p = y0 at *
              generalize jf ws ws.length s p = hh at *
              generalize wv ws p = ww at *
              have i1 : (k : Int) < (ws.length : Int) := by omega
              have i0 : (0 : Int) ≤ (k : Int) := by omega
              have i2 : (p : Int) < (ws.length : Int) := by omega
              have i3 : (0 : Int) ≤ (p : Int) := by omega
              go_wp2
              go_roundw
              case rel => exact ⟨k + 1, by omega, by go_num, HSET.out, HKP.out⟩
              case measure => simp [intOf]; omega
            · have ek : k = ws.length := by omega
              subst ek
              rw [HALL.out, ← HEND.out] at hbx
              have hRl : R.length = ws.length := by rw [HEND.out]; exact lst_len _ _
              have hown := own_of_box (base := w.heap.size) hbx (by omega) (by rw [hRl]; unfold maxLen; omega)
              rw [hRl] at hown
              have HOWF := Lib.hid hown
              have HBF : RowKit.Hid (Below w.heap.size w wr) := Lib.hid (HS2.out.bel.trans (hkp.below (by have := HB5.out; omega) (by simp; omega)))
              clear hown hbx hkp hRl
              go_wp2
              go_ret2
              exact ⟨_, rfl, HOWF.out, HBF.out⟩
end Sh
end Go.Proofs.Ytblbhkcnmkcdfaa
