/- What is shared out: Hamilton's way. -/
import Derived.Test.YtblbhkcnmkcdfaaShareC
import Derived.Test.YtblbhkcnmkcdfaaBox
import Derived.Laws.MakeOwn
import Derived.Laws.EntriesVeiled
import Derived.Laws.OwnMore
set_option linter.unusedSimpArgs false
set_option linter.unusedVariables false
namespace Go.Proofs.Ytblbhkcnmkcdfaa
open Go.RowKit
theorem made_oneZ (z : Value) (hz : z.cells = #[z]) (n : Nat) : madeCells z.cells (n * 1) = (List.replicate n z).toArray := by
  unfold madeCells
  rw [hz, Nat.mul_one]
  apply Array.ext
  · simp
  · intro i h1 h2
    simp [Nat.mod_one]
theorem make_intsZ (w : World) (n : Nat) (hn : n ≤ 100) : (Instr.makeSlice 22 (.int .i64 n) (.int .i64 n)).run Try.prog w = .ok (.slice (some ⟨w.heap.size, 0, none⟩) n n) (w.alloc (.cells (List.replicate n (.int .i64 0)).toArray 3)) := by
  obtain ⟨i0, hi, hz0, hz1, hz2⟩ := info_parts elZ.info
  have := run_make (P := Try.prog) w 22 3 i0 _ Try.underlying22 hi hz0 .i64 .i64 n n (by omega) (Int.le_refl _) (by rw [hz2]; show (8 : Int) * n ≤ _; omega) (by omega)
  rw [this, Int.toNat_natCast, hz1]
  rw [made_oneZ _ rfl]
theorem KeptB.app {bs : List Nat} {X Y Z : World} {B : Nat} (h : KeptB bs X Y) (hb : Below B Y Z) (hB : X.heap.size ≤ B) : KeptB bs X Z :=
  ⟨hb.os.trans h.os, hb.tape.trans h.tape, hb.output.trans h.output, Nat.le_trans h.size hb.size, fun k hk hn => (hb.block k (Nat.lt_of_lt_of_le hk hB)).trans (h.block k hk hn)⟩
namespace Sh
open Stb
def lst (n : Nat) (f : Nat → Int) : List Int := (List.range n).map f
abbrev vals (l : List Int) : List Value := l.map (Value.int .i64)
theorem lst_len (n : Nat) (f : Nat → Int) : (lst n f).length = n := by simp [lst]
theorem lst_at (n : Nat) (f : Nat → Int) (i : Nat) (h : i < n) : (vals (lst n f))[i]? = some (.int .i64 (f i)) := by simp [vals, lst, h]
theorem lst_congr {n : Nat} {f g : Nat → Int} (h : ∀ i, i < n → f i = g i) : lst n f = lst n g := List.map_congr_left (fun i hi => h i (List.mem_range.1 hi))
theorem lst_set (n k : Nat) (f : Nat → Int) (v : Int) : (vals (lst n f)).set k (.int .i64 v) = vals (lst n (fun i => if i = k then v else f i)) := by
  apply List.ext_getElem
  · simp [lst]
  · intro i h1 h2
    simp only [List.getElem_set, lst, List.getElem_map, List.getElem_range, vals]
    by_cases c : k = i
    · rw [if_pos c, if_pos c.symm]
    · rw [if_neg c, if_neg (fun e => c e.symm)]
theorem lst_succ (k : Nat) (f : Nat → Int) : lst (k + 1) f = lst k f ++ [f k] := by unfold lst; rw [List.range_succ, List.map_append]; rfl
def outF (t : Int) (ws : List Int) (S : Int) (k i : Nat) : Int := if i < k then quo t ws S i else 0
theorem outF_set (t : Int) (ws : List Int) (S : Int) (n k : Nat) : (vals (lst n (outF t ws S k))).set k (.int .i64 (quo t ws S k)) = vals (lst n (outF t ws S (k + 1))) := by
  rw [lst_set]
  congr 1
  exact lst_congr (fun i _ => by
    unfold outF
    by_cases c : i = k
    · subst c; rw [if_pos rfl, if_pos (by omega)]
    · rw [if_neg c]
      by_cases c2 : i < k
      · rw [if_pos c2, if_pos (by omega)]
      · rw [if_neg c2, if_neg (by omega)])
theorem more_set (d : Arr) (q : Nat → Int) (n k p : Nat) (hp : d k = (p : Int)) : (vals (lst n (more d q k))).set p (.int .i64 (more d q k p + 1)) = vals (lst n (more d q (k + 1))) := by
  rw [lst_set]
  congr 1
  exact lst_congr (fun i _ => by
    simp only [more, hp]
    by_cases c : i = p
    · subst c; rw [if_pos rfl, if_pos rfl]
    · rw [if_neg c, if_neg (fun e => c (by omega))])
theorem ham_ok {t : Int} {ws : List Int} (h : allE t ws = 0) {d : Arr} {L : Nat} (hL : leftH t ws (sumW ws ws.length) ws.length = L) (hp : Pm 0 ws.length (fun k => (k : Int)) d) (hs : Srt (bef t ws (sumW ws ws.length)) d 0 ws.length) (hl : L ≤ ws.length) :
    lst ws.length (more d (quo t ws (sumW ws ws.length)) L) = hamR t ws := by
  unfold hamR hamL
  rw [if_pos h, hL]
  exact lst_congr (fun i hi => more_is _ hp hs L hl i hi)
theorem own_set {α : Type} {E : El α} {w : World} {base : Nat} {v : Value} {xs : List α} (h : ROwn E w base v xs) (b j : Nat) (x : Value) (hb : b < base) : ROwn E (w.setCell ⟨b, j, none⟩ x) base v xs := by
  obtain ⟨hl, h | ⟨g, cap, cur, h1, h2, h3, h4, h5, h6, h7⟩⟩ := h
  · exact ⟨hl, .inl h⟩
  · exact ⟨hl, .inr ⟨g, cap, cur, h1, h2, by rw [Below.heap_setCell _ _ _ _ (show g ≠ b by omega)]; exact h3, h4, h5, h6, h7⟩⟩
theorem own_someZ {α : Type} {E : El α} {w : World} {base : Nat} {v : Value} {xs : List α} (h : ROwn E w base v xs) (hn : 0 < xs.length) : ∃ g c, v = .slice (some ⟨g, 0, none⟩) xs.length c ∧ base ≤ g ∧ g < w.heap.size ∧ xs.length ≤ c := by
  obtain ⟨hl, h | ⟨g, cap, cur, h1, h2, h3, h4, h5, h6, h7⟩⟩ := h
  · omega
  · refine ⟨g, cap, h1, h2, ?_, h4⟩
    rcases Nat.lt_or_ge g w.heap.size with hlt | hge
    · exact hlt
    · rw [Array.getElem?_eq_none hge] at h3; cases h3
theorem flat_vals (xs : List Int) : xs.flatMap elZ.enc = vals xs := by
  induction xs with
  | nil => rfl
  | cons x xs ih => rw [List.flatMap_cons, ih]; rfl
theorem own_of_box {w : World} {b base : Nat} {xs : List Int} (h : Box w b 3 (vals xs)) (hb : base ≤ b) (hm : xs.length ≤ maxLen) : ROwn elZ w base (.slice (some ⟨b, 0, none⟩) xs.length xs.length) xs := by
  refine ⟨by rw [flat_vals]; simp, .inr ⟨b, xs.length, (vals xs).toArray, rfl, hb, h, Nat.le_refl _, hm, by simp, ?_⟩⟩
  rw [flat_vals, List.take_of_length_le (by simp)]
theorem at_of_own {w : World} {base g n c : Nat} {f : Nat → Int} (h : ROwn elZ w base (.slice (some ⟨g, 0, none⟩) n c) (lst n f)) : At w g n f := by
  have hl := lst_len n f
  have h2 : w.ownsRow base 3 1 (.slice (some ⟨g, 0, none⟩) n c) n (vals (lst n f)) := by
    have := h
    unfold ROwn at this
    rw [flat_vals, hl] at this
    exact this
  exact ⟨fun i hi => by rw [h2.cellAt i (by omega)]; exact lst_at n f i hi, fun i hi => h2.frozenAt i⟩
theorem box_at {w : World} {b n : Nat} {f : Nat → Int} (h : Box w b 3 (vals (lst n f))) (i : Nat) (hi : i < n) : w.cell? ⟨b, i, none⟩ = some (.int .i64 (f i)) := by rw [h.cell]; exact lst_at n f i hi
set_option maxRecDepth 100000 in
set_option maxHeartbeats 4000000 in
theorem ham_bad (v : Value) (t : Int) (ws : List Int) (w : World) (h : RdE elZ w v ws) (he : allE t ws ≠ 0) : Calls Try.prog 11 #[.int .i64 t, v] w (PairZ (hamR t ws) (allE t ws) w) := by
  have hr : hamR t ws = [] := by unfold hamR; rw [if_neg he]
  rw [hr]
  have HA := Lib.hid (fun w' h' => all_any v t ws w' h')
  have HB := Lib.hid (fun w' (hb : Below w.heap.size w w') => Rd.below h hb)
  have hne : (allE t ws != 0) = true := by simp [he]
  obtain ⟨a, cap, rfl, _, _, _⟩ := h
  generalize allE t ws = er at *
  generalize allS t ws = es at *
  clear hr he
  have H2 := Lib.hid (((br w).alloc (Nat.le_refl _) (.cells #[.int .i64 t] 3)).alloc (by simp) (.cells #[.slice a ws.length cap] 22))
  go_enter Try.func11, Try.ntmps11
  go_wp2_with fail
  refine (HA.out _ (HB.out _ H2.out)).mono ?_
  rintro en w1 ⟨rfl, rfl⟩
  have H3 := Lib.hid (H2.out.alloc (by simp; omega) (.cells #[.int .i64 es] 3))
  have HOW : RowKit.Hid (∀ w' : World, ROwn elZ w' w.heap.size (.slice none 0 0) []) := Lib.hid (fun w' => ROwn.nil _ _)
  go_wp2
  go_ret2
  exact ⟨_, rfl, HOW.out _, H3.out⟩
set_option maxRecDepth 100000 in
set_option maxHeartbeats 8000000 in
theorem ham_good (v : Value) (t : Int) (ws : List Int) (w : World) (h : RdE elZ w v ws) (he : allE t ws = 0) : Calls Try.prog 11 #[.int .i64 t, v] w (PairZ (hamR t ws) (allE t ws) w) := by
  obtain ⟨q1, q2, q3, q4, q5, q6⟩ := allE_ok he
  have hn0 := len_pos he
  have HA := Lib.hid (fun w' h' => all_any v t ws w' h')
  rw [q6] at HA
  have HB := Lib.hid (fun w' (hb : Below w.heap.size w w') => Rd.below h hb)
  have HQ := Lib.hid (fun i => quo_bd he i); have HPR := Lib.hid (fun i => prod_bd he i); have HLB := Lib.hid (left_bd he); have HLT := Lib.hid (left_lt he hn0)
  have HHAM := Lib.hid (fun (d : Arr) (L : Nat) h1 h2 h3 h4 => ham_ok he (d := d) (L := L) h1 h2 h3 h4)
  have HZ32 := Lib.hid (sumW_bd (ws := ws) (k := ws.length) (fun i _ => wv_ok q4 i)).2
  obtain ⟨a, cap, rfl, _, _, h3⟩ := h
  obtain ⟨gw, ow, rfl, hgl, hc⟩ := h3 hn0
  have HCW : RowKit.Hid (∀ i, i < ws.length → w.cell? ⟨gw, ow + i, none⟩ = some (.int .i64 (wv ws i))) := Lib.hid (fun i hi => by rw [wv_at hi]; exact eI_at hc i hi)
  have M1 := fun w => make_intsZ w ws.length (by omega)
  generalize hR : hamR t ws = R at *
  rw [he] at HA ⊢
  obtain ⟨S, hS⟩ : ∃ S, sumW ws ws.length = S := ⟨_, rfl⟩
  rw [hS] at HA HQ HLB HLT HHAM HZ32 q5
  have HSS := Lib.hid hS
  have HE := Lib.hid he
  clear hR hS he q6 h3 hc q4
  have H2 := Lib.hid (((br w).alloc (Nat.le_refl _) (.cells #[.int .i64 t] 3)).alloc (by simp) (.cells #[.slice (some ⟨gw, ow, none⟩) ws.length cap] 22))
  go_enter Try.func11, Try.ntmps11
  go_wp2_with fail
  refine (HA.out _ (HB.out _ H2.out)).mono ?_
  rintro en w1 ⟨rfl, rfl⟩
  go_wp2
  obtain ⟨W4, hW4⟩ : ∃ W4, W4 = (((w.alloc (.cells #[.int .i64 t] 3)).alloc (.cells #[.slice (some ⟨gw, ow, none⟩) ws.length cap] 22)).alloc (.cells #[.int .i64 S] 3)).alloc (.cells (Array.replicate ws.length (.int .i64 0)) 3) := ⟨_, rfl⟩
  rw [← hW4]
  have hsz : W4.heap.size = w.heap.size + 1 + 1 + 1 + 1 := by rw [hW4]; simp
  have hbw : Below w.heap.size w W4 := by rw [hW4]; exact ((H2.out.alloc (by simp; omega) _).alloc (by simp; omega) _)
  have hcau : Caught W4 w.heap.size (w.heap.size + 1) (w.heap.size + 1 + 1) gw ow ws.length cap t S ws := by
    refine ⟨?_, ?_, ?_, fun i hi => (hbw.cell (p := ⟨gw, ow + i, none⟩) hgl).trans (HCW.out i hi)⟩
    · rw [hW4]; exact (((Box.new w 3 [.int .i64 t]).alloc _).alloc _ |>.alloc _).cell 0
    · rw [hW4]
      have := (((Box.new (w.alloc (.cells #[.int .i64 t] 3)) 22 [.slice (some ⟨gw, ow, none⟩) ws.length cap]).alloc (.cells #[.int .i64 S] 3)).alloc (.cells (Array.replicate ws.length (.int .i64 0)) 3)).cell 0
      rw [World.size_alloc] at this
      exact this
    · rw [hW4]
      have := ((Box.new ((w.alloc (.cells #[.int .i64 t] 3)).alloc (.cells #[.slice (some ⟨gw, ow, none⟩) ws.length cap] 22)) 3 [.int .i64 S]).alloc (.cells (Array.replicate ws.length (.int .i64 0)) 3)).cell 0
      rw [World.size_alloc, World.size_alloc] at this
      exact this
  have hbx : Box W4 (w.heap.size + 1 + 1 + 1) 3 (vals (lst ws.length (outF t ws S 0))) := by
    have e : (Array.replicate ws.length (Value.int .i64 0)) = (vals (lst ws.length (outF t ws S 0))).toArray := by
      have e2 : lst ws.length (outF t ws S 0) = List.replicate ws.length 0 := by
        apply List.ext_getElem
        · simp [lst]
        · intro i h1 h2
          simp [lst, outF]
      rw [e2]; simp [vals]
    have := Box.new (((w.alloc (.cells #[.int .i64 t] 3)).alloc (.cells #[.slice (some ⟨gw, ow, none⟩) ws.length cap] 22)).alloc (.cells #[.int .i64 S] 3)) 3 (vals (lst ws.length (outF t ws S 0)))
    rw [← e] at this
    rw [hW4]
    simpa using this
  have HSZ := Lib.hid hsz; have HBW := Lib.hid hbw; have HCAU := Lib.hid hcau; have HBX := Lib.hid hbx
  have HL0 : RowKit.Hid (leftH t ws S 0 = t) := Lib.hid (by simp [leftH, sumN])
  clear hW4 hsz hbw hcau hbx H2 HA HB M1 HCW
  go_loopw [9, 10, 31] (fun s9 s10 s31 wr => ∃ k : Nat, k ≤ ws.length ∧ s31 = .int .i64 k ∧ s10 = .int .i64 (leftH t ws S k) ∧ ROwn elZ wr W4.heap.size s9 (lst k (fun i => (i : Int))) ∧ Box wr (w.heap.size + 1 + 1 + 1) 3 (vals (lst ws.length (outF t ws S k))) ∧ KeptB [w.heap.size + 1 + 1 + 1] W4 wr) (fun _ _ s31 _ => ws.length - (intOf s31).toNat)
  case atStart => exact ⟨0, Nat.zero_le _, rfl, by rw [HL0.out], ROwn.nil _ _, HBX.out, KeptB.refl _ _⟩
  case round =>
    obtain ⟨k, hk, rfl, rfl, hown, hbx, hkp⟩ := hrel
    have HOWN := Lib.hid hown; have HBX2 := Lib.hid hbx; have HKP := Lib.hid hkp
    by_cases hlt : k < ws.length
    · have c0 := hkp.keep HCAU.out.c0 (by simp; omega)
      have c2 := hkp.keep HCAU.out.c2 (by simp)
      have d0 := hkp.keep (HCAU.out.cw k hlt) (by simp; omega)
      have o0 := box_at hbx k hlt
      have o1 := hbx.froz k
      have HSET := Lib.hid (hbx.set k (.int .i64 (quo t ws S k)))
      rw [outF_set] at HSET
      have hpr := HPR.out k; have hqu := HQ.out k; have hlb := HLB.out k (by omega)
      have HLS : RowKit.Hid (leftH t ws S (k + 1) = leftH t ws S k - quo t ws S k) := Lib.hid (by unfold leftH; simp only [sumN]; omega)
      have HQQ : RowKit.Hid (quo t ws S k = t * wv ws k / S) := Lib.hid rfl
      have HLK : RowKit.Hid ((lst k (fun i => (i : Int))).length = k) := Lib.hid (lst_len _ _)
      have HLK2 : RowKit.Hid (lst (k + 1) (fun i => (i : Int)) = lst k (fun i => (i : Int)) ++ [(k : Int)]) := Lib.hid (lst_succ k _)
      obtain ⟨x, hx⟩ : ∃ x, wv ws k = x := ⟨_, rfl⟩
      rw [hx] at d0 hpr HQQ
      clear hx hown hbx hkp
      obtain ⟨p, hp⟩ : ∃ p, t * x = p := ⟨_, rfl⟩
      rw [hp] at hpr HQQ
      obtain ⟨q, hq⟩ : ∃ q, quo t ws S k = q := ⟨_, rfl⟩
      rw [hq] at HQQ hqu HLS HSET
      have hpq : p / S = q := HQQ.out.symm
      have HOUTK := Lib.hid hq
      clear hq HQQ
      obtain ⟨l, hl⟩ : ∃ l, leftH t ws S k = l := ⟨_, rfl⟩
      rw [hl] at hlb HLS ⊢
      clear hl
      generalize outF t ws S k k = o at *
      have i1 : (k : Int) < (ws.length : Int) := by omega
      have i0 : (0 : Int) ≤ (k : Int) := by omega
      obtain ⟨p0, p1⟩ := hpr; obtain ⟨r0, r1⟩ := hqu; obtain ⟨l0, l1⟩ := hlb
      go_wp2_with (at_builtin; refine appE elZ rfl (.tmp 50) (.tmp 52) rfl W4.heap.size _ (lst k (fun i => (i : Int))) rfl ((own_set HOWN.out (w.heap.size + 1 + 1 + 1) k (.int .i64 q) (by rw [HSZ.out]; omega)).next ((br _).alloc (Nat.le_refl _) _)) _ [(k : Int)] rfl (rd_lit elZ [(k : Int)] _ _ _ _ (by simp) (by simp [maxLen])) (by rw [HLK.out]; show k + 1 ≤ _; unfold maxLen; omega) (by rw [HLK.out]; show (k + 1) * 8 ≤ _; omega) (by have := HKP.out.size; simp; omega) ?_; intro v9 w9 ho9 hb9 hf9; have HO9 := Lib.hid ho9; have HB9 := Lib.hid hb9; clear ho9 hb9 hf9)
      have HBX9 : RowKit.Hid (Box w9 (w.heap.size + 1 + 1 + 1) 3 (vals (lst ws.length (outF t ws S (k + 1))))) := Lib.hid (((HSET.out.alloc _).of_block (HB9.out.block _ (by rw [HSZ.out]; omega))))
      have HKP9 : RowKit.Hid (KeptB [w.heap.size + 1 + 1 + 1] W4 w9) := Lib.hid (((HKP.out.set _ k (.int .i64 q) (.inl (by simp))).alloc _).app HB9.out (Nat.le_refl _))
      go_wp2
      go_roundw
      case rel => exact ⟨k + 1, by omega, by go_num, by rw [HLS.out], by rw [HLK2.out]; exact HO9.out, HBX9.out, HKP9.out⟩
      case measure => simp [intOf]; omega
    · have ek : k = ws.length := by omega
      subst ek
      have HLN : RowKit.Hid ((lst ws.length (fun i => (i : Int))).length = ws.length) := Lib.hid (lst_len _ _)
      obtain ⟨g, c, hs9, hg1, hg2, hg3⟩ := own_someZ hown (by rw [HLN.out]; exact hn0)
      rw [HLN.out] at hs9 hg3
      subst hs9
      obtain ⟨L, hL⟩ : ∃ L : Nat, leftH t ws S ws.length = (L : Int) := ⟨(leftH t ws S ws.length).toNat, by have := (HLB.out _ (Nat.le_refl _)).1; omega⟩
      have hLn : L < ws.length := by have := HLT.out; rw [hL] at this; omega
      rw [hL]
      have HLL := Lib.hid hL
      have hat := at_of_own hown
      have hzs := HSZ.out
      have hks := hkp.size
      have HST : RowKit.Hid (St (wr.alloc (.cells #[.func (.func 20) #[] #[.pointer (some ⟨w.heap.size, 0, none⟩), .pointer (some ⟨w.heap.size + 1, 0, none⟩), .pointer (some ⟨w.heap.size + 1 + 1, 0, none⟩)]] 36)) g ws.length (fun i => (i : Int)) (wr.alloc (.cells #[.func (.func 20) #[] #[.pointer (some ⟨w.heap.size, 0, none⟩), .pointer (some ⟨w.heap.size + 1, 0, none⟩), .pointer (some ⟨w.heap.size + 1 + 1, 0, none⟩)]] 36))) := Lib.hid (by
        have hb := (br wr).alloc (Nat.le_refl _) (.cells #[.func (.func 20) #[] #[.pointer (some ⟨w.heap.size, 0, none⟩), .pointer (some ⟨w.heap.size + 1, 0, none⟩), .pointer (some ⟨w.heap.size + 1 + 1, 0, none⟩)]] 36)
        exact ⟨⟨fun i hi => (hb.cell hg2).trans (hat.cell i hi), fun i hi => (hb.frozen hg2).trans (hat.froz i hi)⟩, KeptB.refl _ _⟩)
      have HCB : RowKit.Hid ((wr.alloc (.cells #[.func (.func 20) #[] #[.pointer (some ⟨w.heap.size, 0, none⟩), .pointer (some ⟨w.heap.size + 1, 0, none⟩), .pointer (some ⟨w.heap.size + 1 + 1, 0, none⟩)]] 36)).cell? ⟨wr.heap.size, 0, none⟩ = some (.func (.func 20) #[] #[.pointer (some ⟨w.heap.size, 0, none⟩), .pointer (some ⟨w.heap.size + 1, 0, none⟩), .pointer (some ⟨w.heap.size + 1 + 1, 0, none⟩)])) := Lib.hid ((Box.new wr 36 [.func (.func 20) #[] #[.pointer (some ⟨w.heap.size, 0, none⟩), .pointer (some ⟨w.heap.size + 1, 0, none⟩), .pointer (some ⟨w.heap.size + 1 + 1, 0, none⟩)]]).cell 0)
      have HKW : RowKit.Hid (KeptB [w.heap.size + 1 + 1 + 1] W4 (wr.alloc (.cells #[.func (.func 20) #[] #[.pointer (some ⟨w.heap.size, 0, none⟩), .pointer (some ⟨w.heap.size + 1, 0, none⟩), .pointer (some ⟨w.heap.size + 1 + 1, 0, none⟩)]] 36))) := Lib.hid (hkp.alloc _)
      have HBX5 : RowKit.Hid (Box (wr.alloc (.cells #[.func (.func 20) #[] #[.pointer (some ⟨w.heap.size, 0, none⟩), .pointer (some ⟨w.heap.size + 1, 0, none⟩), .pointer (some ⟨w.heap.size + 1 + 1, 0, none⟩)]] 36)) (w.heap.size + 1 + 1 + 1) 3 (vals (lst ws.length (outF t ws S ws.length)))) := Lib.hid (hbx.alloc _)
      have hb3 : w.heap.size + 1 + 1 + 1 < g := by omega
      clear hL hat hown hbx hkp hzs
      go_wp2_with fail
      obtain ⟨W5, hW5⟩ : ∃ W5, W5 = (wr.alloc (.cells #[.func (.func 20) #[] #[.pointer (some ⟨w.heap.size, 0, none⟩), .pointer (some ⟨w.heap.size + 1, 0, none⟩), .pointer (some ⟨w.heap.size + 1 + 1, 0, none⟩)]] 36)) := ⟨_, rfl⟩
      rw [← hW5] at HST HCB HKW HBX5 ⊢
      have hCmp : Cmp W5 g ws.length wr.heap.size (cmpK t ws S) := ⟨fun x y w' h1 h2 h3 h4 hk => hold_any wr.heap.size w.heap.size (w.heap.size + 1) (w.heap.size + 1 + 1) gw ow ws.length cap t S ws w' (hk.keep HCB.out (by simp; omega))
        ((HCAU.out.keep HKW.out (by simp; omega) (by simp) (by simp) (by simp; omega)).keep hk (by simp; omega) (by simp; omega) (by simp; omega) (by simp; omega)) x y h1 h2 h3 h4 (by omega) q5 (by have := HZ32.out; omega) HPR.out⟩
      have HC := Lib.hid (sortStable_any W5 g ws.length c wr.heap.size (cmpK t ws S) hCmp (bef t ws S) (bef_ord t ws S) (fun i => (i : Int)) W5 HST.out (by omega) (fun i hi => ⟨by omega, by omega⟩) (fun i j h1 _ => fit_of t ws S (by omega)))
      clear hCmp hW5
      refine HC.out.mono ?_
      rintro en w6 ⟨rfl, d, p1, p2, p3⟩
      have hkB : KeptB [g] W5 w6 := p3.kept
      have HAT := Lib.hid p3.at_
      have HB6 : RowKit.Hid (Box w6 (w.heap.size + 1 + 1 + 1) 3 (vals (lst ws.length (more d (quo t ws S) 0)))) := Lib.hid (by
        have e : lst ws.length (outF t ws S ws.length) = lst ws.length (more d (quo t ws S) 0) := lst_congr (fun i hi => by unfold outF; rw [if_pos hi]; rfl)
        rw [← e]
        exact HBX5.out.of_block (hkB.block _ HBX5.out.lt (by simp; omega)))
      have HK6 := Lib.hid hkB
      have HMORE : RowKit.Hid (∀ k i, k ≤ ws.length → i < ws.length → 0 ≤ more d (quo t ws S) k i ∧ more d (quo t ws S) k i ≤ 100001) := Lib.hid (fun k i h1 h2 => by
        have := more_is (quo t ws S) p1 p2 k h1 i h2
        have hq := HQ.out i
        rw [this]
        split <;> omega)
      have HDV : RowKit.Hid (∀ k, k < ws.length → 0 ≤ d k ∧ d k < ws.length) := Lib.hid (fun k hk => p1.all (fun x => 0 ≤ x ∧ x < ws.length) (fun i _ hi => ⟨by omega, by omega⟩) k (Nat.zero_le _) hk)
      have HFIN := Lib.hid (HHAM.out d L HLL.out p1 p2 (by omega))
      clear p1 p2 p3 hkB HST HCB HC HHAM HBX5
      have l0 : (0 : Int) ≤ (L : Int) := by omega
      have l1 : (L : Int) ≤ (c : Int) := by omega
      go_wp2
      go_loopw [63] (fun s63 wy => ∃ k : Nat, k ≤ L ∧ s63 = .int .i64 k ∧ Box wy (w.heap.size + 1 + 1 + 1) 3 (vals (lst ws.length (more d (quo t ws S) k))) ∧ KeptB [w.heap.size + 1 + 1 + 1] w6 wy) (fun s63 _ => L - (intOf s63).toNat)
      case atStart => exact ⟨0, Nat.zero_le _, rfl, HB6.out, KeptB.refl _ _⟩
      case round =>
        obtain ⟨k, hk2, rfl, hbx, hkp⟩ := hrel
        by_cases hlt2 : k < L
        · obtain ⟨p, hp⟩ : ∃ p : Nat, d k = (p : Int) := ⟨(d k).toNat, by have := (HDV.out k (by omega)).1; omega⟩
          have hpn : p < ws.length := by have := (HDV.out k (by omega)).2; omega
          have q0 := hkp.keep (HAT.out.cell k (by omega)) (by simp; omega)
          rw [hp] at q0
          have q7 := box_at hbx p hpn
          have q8 := hbx.froz p
          have hm := HMORE.out k p (by omega) hpn
          have HSET := Lib.hid (hbx.set p (.int .i64 (more d (quo t ws S) k p + 1)))
          rw [more_set d _ _ k p hp] at HSET
          have HKP2 := Lib.hid (hkp.set (w.heap.size + 1 + 1 + 1) p (.int .i64 (more d (quo t ws S) k p + 1)) (.inl (by simp)))
          clear hp hbx hkp
          generalize more d (quo t ws S) k p = y at *
          have i1 : (k : Int) < (L : Int) := by omega
          have i0 : (0 : Int) ≤ (k : Int) := by omega
          have i2 : (p : Int) < (ws.length : Int) := by omega
          have i3 : (0 : Int) ≤ (p : Int) := by omega
          obtain ⟨m0, m1⟩ := hm
          have hLc : L ≤ 32 := by omega
          go_wp2
          go_roundw
          case rel => exact ⟨k + 1, by omega, by go_num, HSET.out, HKP2.out⟩
          case measure => simp [intOf]; omega
        · have ek2 : k = L := by omega
          subst ek2
          have hown := own_of_box (base := w.heap.size) hbx (by omega) (by rw [lst_len]; unfold maxLen; omega)
          rw [lst_len, HFIN.out] at hown
          have HOWF := Lib.hid hown
          have HBF : RowKit.Hid (Below w.heap.size w wr) := Lib.hid (((HBW.out.trans (HKW.out.below (by have := HSZ.out; omega) (by simp; omega))).trans (HK6.out.below (by have := HKW.out.size; have := HSZ.out; omega) (by simp; omega))).trans (hkp.below (by have := HKW.out.size; have := HSZ.out; have := HK6.out.size; omega) (by simp; omega)))
          clear hown hbx hkp
          go_wp2
          go_ret2
          exact ⟨_, rfl, HOWF.out, HBF.out⟩
end Sh
end Go.Proofs.Ytblbhkcnmkcdfaa
