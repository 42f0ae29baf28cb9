/- Ledgers: the document posts a posting. (gen_led3.py) -/
import Derived.Test.YtcppeligeodomaaLedRef3
set_option linter.unusedVariables false
namespace Go.Proofs.Ytcppeligeodomaa
open Go.RowKit
namespace Ld
open Pn
theorem find_eq (id : Int) (ps : List Po) (k : Nat) (hk : k < ps.length) (h : ∀ (q : Nat) (h : q < ps.length), q < k → ps[q].id ≠ id) (he : ps[k].id = id) : find id (pgs ps) = some ps[k].pg := by
  unfold find
  rw [find_findN, findN_pg, findN_eq (isP id) ps k (by omega) (fun j hj hjk => decide_eq_false (h j hj hjk)) (fun _ => decide_eq_true he), List.getElem?_map, List.getElem?_eq_getElem hk]; rfl
theorem find_no (id : Int) (ps : List Po) (h : ∀ (q : Nat) (h : q < ps.length), q < ps.length → ps[q].id ≠ id) : find id (pgs ps) = none := by
  unfold find
  rw [find_findN, findN_pg, findN_eq (isP id) ps ps.length (Nat.le_refl _) (fun j hj hjk => decide_eq_false (h j hj hj)) (fun h => absurd h (Nat.lt_irrefl _)), List.getElem?_map, List.getElem?_eq_none (Nat.le_refl _)]; rfl
section
variable (v : Value) (ps : List Po) (id : Int) (pa : Option Addr) (pc : Nat) (ls : List Ln) (w : World)
set_option maxHeartbeats 1000000 in
theorem postR_bad1 (h : RdL w v ps) (hp : RdE elN w (.slice pa ls.length pc) ls) (c1 : chk (pgs ps) ≠ 0) : Calls Try.prog 30 #[v, .agg #[.int .i64 id, .slice pa ls.length pc]] w (PostQ ([], chk (pgs ps)) w) := by
  have hb0 := (br w).alloc (Nat.le_refl _) (.cells #[.int .i64 id, .slice pa ls.length pc] 42)
  have hn0 := h.next hb0
  have hpn0 : RdN (w.alloc (.cells #[.int .i64 id, .slice pa ls.length pc] 42)) ⟨id, pa, pc, ls⟩ := Rd.below hp hb0
  have k0 : (w.alloc (.cells #[.int .i64 id, .slice pa ls.length pc] 42)).cell? ⟨w.heap.size, 0, none⟩ = some (.int .i64 id) := by rw [World.cell?_alloc_mark]; rfl
  have k1 : (w.alloc (.cells #[.int .i64 id, .slice pa ls.length pc] 42)).cell? ⟨w.heap.size, 1, none⟩ = some (.slice pa ls.length pc) := by rw [World.cell?_alloc_mark]; rfl
  have HB0 := Lib.hid hb0
  have HL := Lib.hid hn0
  have HP := Lib.hid hpn0
  have K0 := Lib.hid k0; have K1 := Lib.hid k1
  have C1 : RowKit.Hid (Calls Try.prog 29 #[v] (w.alloc (.cells #[.int .i64 id, .slice pa ls.length pc] 42)) (IntQ (chk (pgs ps)) (w.alloc (.cells #[.int .i64 id, .slice pa ls.length pc] 42)))) := Lib.hid (checkR_any v ps _ hn0)
  have C2 : RowKit.Hid (∀ w', RdN w' ⟨id, pa, pc, ls⟩ → Calls Try.prog 48 #[.agg #[.int .i64 id, .slice pa ls.length pc]] w' (IntQ (pchk (id, ls)) w')) := Lib.hid (fun w' h => postingR_any ⟨id, pa, pc, ls⟩ w' h)
  have hn : (chk (pgs ps) != 0) = true := by simpa using c1
  have hn' : (chk (pgs ps) == 0) = false := by simpa using c1
  clear hb0 hn0 hpn0 h hp k0 k1
  clear c1 C2 HL HP K0 K1
  generalize chk (pgs ps) = ec at *
  go_enter Try.func30, Try.ntmps30
  go_wp2_with fail
  refine C1.out.mono ?_
  rintro en w1 ⟨rfl, hb1⟩
  go_wp2
  go_ret2
  exact ⟨_, [], rfl, RdL.nil _, rfl, bt HB0.out hb1⟩
set_option maxHeartbeats 1000000 in
theorem postR_bad2 (h : RdL w v ps) (hp : RdE elN w (.slice pa ls.length pc) ls) (c1 : chk (pgs ps) = 0) (c2 : pchk (id, ls) ≠ 0) : Calls Try.prog 30 #[v, .agg #[.int .i64 id, .slice pa ls.length pc]] w (PostQ ([], pchk (id, ls)) w) := by
  have hb0 := (br w).alloc (Nat.le_refl _) (.cells #[.int .i64 id, .slice pa ls.length pc] 42)
  have hn0 := h.next hb0
  have hpn0 : RdN (w.alloc (.cells #[.int .i64 id, .slice pa ls.length pc] 42)) ⟨id, pa, pc, ls⟩ := Rd.below hp hb0
  have k0 : (w.alloc (.cells #[.int .i64 id, .slice pa ls.length pc] 42)).cell? ⟨w.heap.size, 0, none⟩ = some (.int .i64 id) := by rw [World.cell?_alloc_mark]; rfl
  have k1 : (w.alloc (.cells #[.int .i64 id, .slice pa ls.length pc] 42)).cell? ⟨w.heap.size, 1, none⟩ = some (.slice pa ls.length pc) := by rw [World.cell?_alloc_mark]; rfl
  have HB0 := Lib.hid hb0
  have HL := Lib.hid hn0
  have HP := Lib.hid hpn0
  have K0 := Lib.hid k0; have K1 := Lib.hid k1
  have C1 : RowKit.Hid (Calls Try.prog 29 #[v] (w.alloc (.cells #[.int .i64 id, .slice pa ls.length pc] 42)) (IntQ 0 (w.alloc (.cells #[.int .i64 id, .slice pa ls.length pc] 42)))) := Lib.hid (by have := checkR_any v ps _ hn0; rw [c1] at this; exact this)
  have C2 : RowKit.Hid (∀ w', RdN w' ⟨id, pa, pc, ls⟩ → Calls Try.prog 48 #[.agg #[.int .i64 id, .slice pa ls.length pc]] w' (IntQ (pchk (id, ls)) w')) := Lib.hid (fun w' h => postingR_any ⟨id, pa, pc, ls⟩ w' h)
  have hn : (pchk (id, ls) != 0) = true := by simpa using c2
  clear hb0 hn0 hpn0 h hp k0 k1
  clear HL c2 c1
  generalize pchk (id, ls) = ec at *
  go_enter Try.func30, Try.ntmps30
  go_wp2_with fail
  refine C1.out.mono ?_
  rintro en w1 ⟨rfl, hb1⟩
  have e0 := kp hb1 K0.out; have e1 := kp hb1 K1.out
  go_wp2_with fail
  refine (C2.out _ (HP.out.below hb1)).mono ?_
  rintro en w2 ⟨rfl, hb2⟩
  go_wp2
  go_ret2
  exact ⟨_, [], rfl, RdL.nil _, rfl, bt HB0.out (bt hb1 hb2)⟩
set_option maxHeartbeats 4000000 in
theorem postR_ok (h : RdL w v ps) (hp : RdE elN w (.slice pa ls.length pc) ls) (c1 : chk (pgs ps) = 0) (c2 : pchk (id, ls) = 0) : Calls Try.prog 30 #[v, .agg #[.int .i64 id, .slice pa ls.length pc]] w (PostQ (post (pgs ps) (id, ls)) w) := by
  have hb0 := (br w).alloc (Nat.le_refl _) (.cells #[.int .i64 id, .slice pa ls.length pc] 42)
  have hn0 := h.next hb0
  have hpn0 : RdN (w.alloc (.cells #[.int .i64 id, .slice pa ls.length pc] 42)) ⟨id, pa, pc, ls⟩ := Rd.below hp hb0
  have k0 : (w.alloc (.cells #[.int .i64 id, .slice pa ls.length pc] 42)).cell? ⟨w.heap.size, 0, none⟩ = some (.int .i64 id) := by rw [World.cell?_alloc_mark]; rfl
  have k1 : (w.alloc (.cells #[.int .i64 id, .slice pa ls.length pc] 42)).cell? ⟨w.heap.size, 1, none⟩ = some (.slice pa ls.length pc) := by rw [World.cell?_alloc_mark]; rfl
  have HB0 := Lib.hid hb0
  have HL := Lib.hid hn0
  have HP := Lib.hid hpn0
  have K0 := Lib.hid k0; have K1 := Lib.hid k1
  have C1 : RowKit.Hid (Calls Try.prog 29 #[v] (w.alloc (.cells #[.int .i64 id, .slice pa ls.length pc] 42)) (IntQ 0 (w.alloc (.cells #[.int .i64 id, .slice pa ls.length pc] 42)))) := Lib.hid (by have := checkR_any v ps _ hn0; rw [c1] at this; exact this)
  have C2 : RowKit.Hid (∀ w', RdN w' ⟨id, pa, pc, ls⟩ → Calls Try.prog 48 #[.agg #[.int .i64 id, .slice pa ls.length pc]] w' (IntQ 0 w')) := Lib.hid (fun w' h => by have := postingR_any ⟨id, pa, pc, ls⟩ w' h; rw [show pchk (Po.pg ⟨id, pa, pc, ls⟩) = 0 from c2] at this; exact this)
  have hlen : ps.length ≤ 100 := by have := ((chk_ok _).1 c1).1; simpa using this
  have HPO : RowKit.Hid (post (pgs ps) (id, ls) = match find id (pgs ps) with
    | some q => if q.2 = ls then (pgs ps, 0) else ([], 6)
    | none => if ps.length = 100 then ([], 2) else (pgs ps ++ [(id, ls)], 0)) := Lib.hid (by
      unfold post; rw [if_neg (by rw [c1]; simp), if_neg (by rw [c2]; simp)]; simp only [List.length_map, pgs]; rfl)
  clear hb0 hn0 hpn0 h hp k0 k1
  obtain ⟨a, cap, rfl, g1, g2, g3⟩ := HL.out.rd
  have G3 := Lib.hid g3
  clear c1 c2 g3
  go_enter Try.func30, Try.ntmps30
  go_wp2_with fail
  refine C1.out.mono ?_
  rintro en w1 ⟨rfl, hb1⟩
  have e0 := kp hb1 K0.out; have e1 := kp hb1 K1.out
  go_wp2_with fail
  refine (C2.out _ (HP.out.below hb1)).mono ?_
  rintro en w2 ⟨rfl, hb2⟩
  have e2 := kp hb2 e0; have e3 := kp hb2 e1
  have H2 := Lib.hid (bt hb1 hb2)
  clear e0 e1 hb1 hb2
  go_wp2
  go_loopw [7] (fun i wr => ∃ k : Nat, k ≤ ps.length ∧ i = .int .i64 k ∧ (∀ (q : Nat) (h : q < ps.length), q < k → ps[q].id ≠ id) ∧ Below (w.alloc (.cells #[.int .i64 id, .slice pa ls.length pc] 42)).heap.size (w.alloc (.cells #[.int .i64 id, .slice pa ls.length pc] 42)) wr) (fun i _ => ps.length - (intOf i).toNat)
  case atStart => exact ⟨0, Nat.zero_le _, rfl, fun q hq h => by omega, H2.out⟩
  case round =>
    obtain ⟨k, hk, rfl, hall, hbw⟩ := hrel
    have HBW := Lib.hid hbw
    have f0 := kp hbw K0.out; have f1 := kp hbw K1.out
    clear e2 e3
    by_cases hlt : k < ps.length
    · obtain ⟨g, off, rfl, hbl, hc⟩ := G3.out (by omega)
      obtain ⟨q0, q1⟩ := eP_at hc k hlt
      have d0 := (hbw.cell (p := ⟨g, off + k * 2, none⟩) hbl).trans q0
      have d1 := (hbw.cell (p := ⟨g, off + k * 2 + 1, none⟩) hbl).trans q1
      have i1 : (k : Int) < (ps.length : Int) := by omega
      have i0 : (0 : Int) ≤ (k : Int) := by omega
      clear q0 q1 hc G3
      by_cases he : ps[k].id = id
      · have hbt : (ps[k].id == id) = true := by simp [he]
        have hfi := find_eq id ps k hlt hall he
        have hpo := HPO.out
        rw [hfi] at hpo
        have CS := Lib.hid (fun w1 (hw1 : Below (w.alloc (.cells #[.int .i64 id, .slice pa ls.length pc] 42)).heap.size (w.alloc (.cells #[.int .i64 id, .slice pa ls.length pc] 42)) w1) => lines_any ps[k].v (.slice pa ls.length pc) ps[k].ls ls w1 ((HL.out.ln _ (List.getElem_mem hlt)).below hw1) (HP.out.below hw1))
        by_cases hls : ps[k].ls = ls
        · rw [decide_eq_true hls] at CS
          simp only [hls, if_true] at hpo
          rw [hpo]
          clear hpo HPO hfi hls hall he
          have hwd : Below (w.alloc (.cells #[.int .i64 id, .slice pa ls.length pc] 42)).heap.size (w.alloc (.cells #[.int .i64 id, .slice pa ls.length pc] 42)) wr.drew := bn hbw 1
          unfold Po.v at d1 CS
          generalize ps[k].id = t at *; generalize ps[k].a = xa at *; generalize ps[k].ls.length = xl at *; generalize ps[k].cap = xc at *
          go_wp2_with fail
          go_quiet (fail)
          go_wp2_with fail
          have hwd2 : ∀ m, Below (w.alloc (.cells #[.int .i64 id, .slice pa ls.length pc] 42)).heap.size (w.alloc (.cells #[.int .i64 id, .slice pa ls.length pc] 42)) (wr.drewN m) := fun m => bn hbw m
          go_region_held3 (fun w' => w'.cell? ⟨g, off + k * 2 + 1, none⟩ = some (.slice xa xl xc) ∧ w'.cell? ⟨w.heap.size, 1, none⟩ = some (.slice pa ls.length pc))
            (first | (exact ⟨kp b4 d1, kp b4 f1⟩) | (go_split_ands; exact ⟨kp b4 d1, kp b4 f1⟩) | go_keep)
            (first
              | (go_at_call 49; (with_reducible refine (CS.out _ hwd).mono ?_); rintro en w4 ⟨rfl, hb4⟩; have b4 : Below wr.heap.size wr w4 := bd (br wr) hb4)
              | (go_at_call 49; (with_reducible refine (CS.out _ (hwd2 _)).mono ?_); rintro en w4 ⟨rfl, hb4⟩; have b4 : Below wr.heap.size wr w4 := bt (bn (br wr) _) hb4)
              | fail)
          have HB4 := Lib.hid (bt HBW.out b4)
          go_wp2
          go_ret2
          exact ⟨_, ps, rfl, HL.out.next HB4.out, rfl, bt HB0.out HB4.out⟩
        · rw [decide_eq_false hls] at CS
          simp only [hls, if_false] at hpo
          rw [hpo]
          clear hpo HPO hfi hls hall he
          have hwd : Below (w.alloc (.cells #[.int .i64 id, .slice pa ls.length pc] 42)).heap.size (w.alloc (.cells #[.int .i64 id, .slice pa ls.length pc] 42)) wr.drew := bn hbw 1
          unfold Po.v at d1 CS
          generalize ps[k].id = t at *; generalize ps[k].a = xa at *; generalize ps[k].ls.length = xl at *; generalize ps[k].cap = xc at *
          go_wp2_with fail
          go_quiet (fail)
          go_wp2_with fail
          have hwd2 : ∀ m, Below (w.alloc (.cells #[.int .i64 id, .slice pa ls.length pc] 42)).heap.size (w.alloc (.cells #[.int .i64 id, .slice pa ls.length pc] 42)) (wr.drewN m) := fun m => bn hbw m
          go_region_held3 (fun w' => w'.cell? ⟨g, off + k * 2 + 1, none⟩ = some (.slice xa xl xc) ∧ w'.cell? ⟨w.heap.size, 1, none⟩ = some (.slice pa ls.length pc))
            (first | (exact ⟨kp b4 d1, kp b4 f1⟩) | (go_split_ands; exact ⟨kp b4 d1, kp b4 f1⟩) | go_keep)
            (first
              | (go_at_call 49; (with_reducible refine (CS.out _ hwd).mono ?_); rintro en w4 ⟨rfl, hb4⟩; have b4 : Below wr.heap.size wr w4 := bd (br wr) hb4)
              | (go_at_call 49; (with_reducible refine (CS.out _ (hwd2 _)).mono ?_); rintro en w4 ⟨rfl, hb4⟩; have b4 : Below wr.heap.size wr w4 := bt (bn (br wr) _) hb4)
              | fail)
          have HB4 := Lib.hid (bt HBW.out b4)
          go_wp2
          go_ret2
          exact ⟨_, [], rfl, RdL.nil _, rfl, bt HB0.out HB4.out⟩
      · have hbt : (ps[k].id == id) = false := by simp [he]
        have hall2 : ∀ (q : Nat) (h : q < ps.length), q < k + 1 → ps[q].id ≠ id := fun q hq hqj => by
          by_cases e : q = k
          · subst e; exact he
          · exact hall q hq (by omega)
        have HA3 := Lib.hid hall2
        unfold Po.v at d1
        clear hall2 hall he hbw
        generalize ps[k].id = t at *; generalize ps[k].a = xa at *; generalize ps[k].ls.length = xl at *; generalize ps[k].cap = xc at *
        go_wp2_with fail
        go_quiet (fail)
        go_wp2
        go_roundw
        case rel => exact ⟨k + 1, by omega, by go_num, HA3.out, by first | exact HBW.out | exact bn HBW.out _⟩
        case measure => simp [intOf]; omega
    · have e : k = ps.length := by omega
      subst e
      have hfi := find_no id ps (fun q hq _ => hall q hq hq)
      have hpo := HPO.out
      rw [hfi] at hpo
      simp only at hpo
      have HA := Lib.hid hall
      clear hall hfi HPO G3 hbw
      by_cases c3 : ps.length = 100
      · rw [if_pos c3] at hpo
        have HPP := Lib.hid hpo
        have hq : ((ps.length : Int) == 100) = true := by simp [c3]
        clear hpo HL C1 c3 g1 hlt hlen HA
        go_wp2
        go_ret2
        rw [HPP.out]
        exact ⟨_, [], rfl, RdL.nil _, rfl, bt HB0.out HBW.out⟩
      · rw [if_neg c3] at hpo
        have HPP := Lib.hid hpo
        have hq : ((ps.length : Int) == 100) = false := by simp; omega
        have HLN : RowKit.Hid (ps.length < 100) := Lib.hid (by omega)
        clear hpo
        have R1 := Lib.hid (HL.out.rd.below HBW.out)
        go_wp2_with fail
        go_region_held3 (fun w' => w'.cell? ⟨w.heap.size, 0, none⟩ = some (.int .i64 id) ∧ w'.cell? ⟨w.heap.size, 1, none⟩ = some (.slice pa ls.length pc))
          (first | go_keep | (go_split_ands; exact ⟨kp hfB2 f0, kp hfB2 f1⟩) | (go_split_ands; exact ⟨kp hfB1 f0, kp hfB1 f1⟩))
          (first
            | ((refine stepE_app elP (by rfl) (.tmp 43) (.tmp 44) (by rfl) wr.heap.size _ [] (by rfl) ((ROwn.lit0 wr wr.heap.size wr.heap.size rfl (Nat.le_refl _)).next (bn (br _) 1)) _ ps (by rfl) (R1.out.below (bn ((br wr).alloc (Nat.le_refl _) _) 1)) (by have := HLN.out; simp [maxLen]; omega) (by have := HLN.out; simp; omega) (by simp) ?_); intro v1 w5 hown1 hbel1 hfar1; have hfB1 : Below wr.heap.size wr w5 := (bn ((br wr).alloc (Nat.le_refl _) _) 1).trans hbel1; have hown1 : ROwn elP w5 wr.heap.size v1 ps := hown1)
            | ((refine stepE_app elP (by rfl) (.tmp 43) (.tmp 44) (by rfl) wr.heap.size _ [] (by rfl) (((ROwn.lit0 wr wr.heap.size wr.heap.size rfl (Nat.le_refl _)).next ((br _).alloc (Nat.le_refl _) _)).next (bn (br _) 1)) _ ps (by rfl) (R1.out.below (bn (((br wr).alloc (Nat.le_refl _) _).alloc (by simp) _) 1)) (by have := HLN.out; simp [maxLen]; omega) (by have := HLN.out; simp; omega) (by simp; omega) ?_); intro v1 w5 hown1 hbel1 hfar1; have hfB1 : Below wr.heap.size wr w5 := (bn (((br wr).alloc (Nat.le_refl _) _).alloc (by simp) _) 1).trans hbel1; have hown1 : ROwn elP w5 wr.heap.size v1 ps := hown1; have hrd := Lib.hid (far_rdE _ hbel1 hfar1 (wr.heap.size + 1) _ (rdE_dr (rd_lit elP [⟨id, pa, pc, ls⟩] _ _ _ (wr.heap.size + 1) (by simp) (by simp [maxLen]))) (by simp [Value.ownBlock])))
            | ((refine stepE_app elP (by rfl) (.tmp 43) (.tmp 44) (by rfl) wr.heap.size _ [] (by rfl) ((ROwn.lit0 (wr.alloc _) wr.heap.size (wr.heap.size + 1) (by simp) (by omega)).next (bn (br _) 1)) _ ps (by rfl) (R1.out.below (bn (((br wr).alloc (Nat.le_refl _) _).alloc (by simp) _) 1)) (by have := HLN.out; simp [maxLen]; omega) (by have := HLN.out; simp; omega) (by simp; omega) ?_); intro v1 w5 hown1 hbel1 hfar1; have hfB1 : Below wr.heap.size wr w5 := (bn (((br wr).alloc (Nat.le_refl _) _).alloc (by simp) _) 1).trans hbel1; have hown1 : ROwn elP w5 wr.heap.size v1 ps := hown1; have hrd := Lib.hid (far_rdE _ hbel1 hfar1 wr.heap.size _ (rdE_dr ((rd_lit elP [⟨id, pa, pc, ls⟩] wr _ _ wr.heap.size rfl (by simp [maxLen])).below ((br _).alloc (Nat.le_refl _) _))) (by simp [Value.ownBlock])))
            | ((refine stepE_app elP (by rfl) (.tmp 45) (.tmp 47) (by rfl) wr.heap.size _ ps (by rfl) hown1 _ [⟨id, pa, pc, ls⟩] (by rfl) hrd.out (by have := HLN.out; simp [maxLen]; omega) (by have := HLN.out; simp; omega) hfB1.size ?_); intro v2 w5' hown2 hbel2 hfar2; have hfB2 : Below wr.heap.size wr w5' := hfB1.trans hbel2)
            | ((refine stepE_app elP (by rfl) (.tmp 45) (.tmp 47) (by rfl) wr.heap.size _ ps (by rfl) (hown1.next ((br _).alloc (Nat.le_refl _) _)) _ [⟨id, pa, pc, ls⟩] (by rfl) (rd_lit elP [⟨id, pa, pc, ls⟩] w5 _ _ w5.heap.size rfl (by simp [maxLen])) (by have := HLN.out; simp [maxLen]; omega) (by have := HLN.out; simp; omega) (by have := hfB1.size; simp; omega) ?_); intro v2 w5' hown2 hbel2 hfar2; have hfB2 : Below wr.heap.size wr w5' := (hfB1.alloc hfB1.size _).trans hbel2)
            | fail)
        all_goals
          have HB5 := Lib.hid (bt HBW.out hfB2)
          have HR5 := Lib.hid hown2.rd
          clear hown2 hfB2
          have HRL : RowKit.Hid (RdL w5' v2 (ps ++ [(⟨id, pa, pc, ls⟩ : Po)])) := Lib.hid ⟨HR5.out, fun q hq => by
            rcases List.mem_append.1 hq with hq | hq
            · exact (HL.out.ln q hq).below HB5.out
            · have : q = ⟨id, pa, pc, ls⟩ := by simpa using hq
              subst this
              exact HP.out.below HB5.out⟩
          have HMP : RowKit.Hid (pgs (ps ++ [(⟨id, pa, pc, ls⟩ : Po)]) = pgs ps ++ [(id, ls)]) := Lib.hid List.map_append
          go_wp2
          go_ret2
          rw [HPP.out]
          exact ⟨v2, _, rfl, HRL.out, HMP.out, bt HB0.out HB5.out⟩
end
theorem postR_any (v : Value) (ps : List Po) (p : Po) (w : World) (h : RdL w v ps) (hp : RdN w p) : Calls Try.prog 30 #[v, aP p] w (PostQ (post (pgs ps) p.pg) w) := by
  obtain ⟨id, pa, pc, ls⟩ := p
  show Calls Try.prog 30 #[v, .agg #[.int .i64 id, .slice pa ls.length pc]] w (PostQ (post (pgs ps) (id, ls)) w)
  by_cases c1 : chk (pgs ps) ≠ 0
  · have hr : post (pgs ps) (id, ls) = ([], chk (pgs ps)) := by unfold post; rw [if_pos c1]
    rw [hr]; exact postR_bad1 v ps id pa pc ls w h hp c1
  have c1' : chk (pgs ps) = 0 := by simpa using c1
  by_cases c2 : pchk (id, ls) ≠ 0
  · have hr : post (pgs ps) (id, ls) = ([], pchk (id, ls)) := by unfold post; rw [if_neg c1, if_pos c2]
    rw [hr]; exact postR_bad2 v ps id pa pc ls w h hp c1' c2
  have c2' : pchk (id, ls) = 0 := by simpa using c2
  exact postR_ok v ps id pa pc ls w h hp c1' c2'
end Ld
end Go.Proofs.Ytcppeligeodomaa
