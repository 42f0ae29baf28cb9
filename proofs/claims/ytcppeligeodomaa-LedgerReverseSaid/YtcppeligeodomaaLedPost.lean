/- Ledgers: a posting is posted. (gen_led2.py) -/
import Derived.Test.YtcppeligeodomaaLedRaw
set_option linter.unusedVariables false
namespace Go.Proofs.Ytcppeligeodomaa
open Go.RowKit
theorem find_findN {α : Type} (p : α → Bool) : ∀ l : List α, l.find? p = l[findN p l]?
  | [] => rfl
  | x :: l => by
    by_cases h : p x
    · have e : findN p (x :: l) = 0 := by show (if _ then _ else _) = _; rw [if_pos h]
      rw [e, List.find?_cons_of_pos h]; rfl
    · have e : findN p (x :: l) = findN p l + 1 := by show (if _ then _ else _) = _; rw [if_neg h]
      rw [e, List.find?_cons_of_neg h, find_findN p l]; rfl
namespace Ld
open Pn
theorem find_at (id : Int) (ps : List Po) : (findI (isP id) ps < 0 ∧ find id (pgs ps) = none) ∨ ∃ (n : Nat) (h : n < ps.length), findI (isP id) ps = (n : Int) ∧ find id (pgs ps) = some ps[n].pg ∧ ps[n].id = id := by
  unfold find
  rw [find_findN, findN_pg]
  have hle := findN_le (isP id) ps
  obtain ⟨h1, h2⟩ := findN_spec (isP id) ps
  unfold findI
  by_cases h : findN (isP id) ps = ps.length
  · left
    rw [if_pos h, h]
    exact ⟨by omega, by simp⟩
  · right
    have hlt : findN (isP id) ps < ps.length := by omega
    refine ⟨findN (isP id) ps, hlt, by rw [if_neg h], ?_, ?_⟩
    · rw [List.getElem?_map, List.getElem?_eq_getElem hlt]; rfl
    · have := h2 hlt; unfold isP at this; exact of_decide_eq_true this
/-- a list of postings, and an error -/
abbrev PostQ (r : List Pg × Int) (w : World) (e : Ending) (w' : World) : Prop := ∃ v' qs, e = .returned (.tuple #[v', .int .i64 r.2]) ∧ RdL w' v' qs ∧ pgs qs = r.1 ∧ Below w.heap.size w w'
theorem RdL.nil (w : World) : RdL w (.slice none 0 0) [] := ⟨Rd.nil w, by simp⟩
section
variable (v : Value) (ps : List Po) (id : Int) (pa : Option Addr) (pc : Nat) (ls : List Ln) (w : World)
set_option maxHeartbeats 1000000 in
theorem post_bad1 (h : RdL w v ps) (hp : RdE elN w (.slice pa ls.length pc) ls) (c1 : chk (pgs ps) ≠ 0) : Calls Try.prog 26 #[v, .agg #[.int .i64 id, .slice pa ls.length pc]] w (PostQ ([], chk (pgs ps)) w) := by
  have hb0 := (br w).alloc (Nat.le_refl _) (.cells #[.int .i64 id, .slice pa ls.length pc] 42)
  have hn0 := h.next hb0
  have hpn0 : RdN (w.alloc (.cells #[.int .i64 id, .slice pa ls.length pc] 42)) ⟨id, pa, pc, ls⟩ := Rd.below hp hb0
  have k0 : (w.alloc (.cells #[.int .i64 id, .slice pa ls.length pc] 42)).cell? ⟨w.heap.size, 0, none⟩ = some (.int .i64 id) := by rw [World.cell?_alloc_mark]; rfl
  have k1 : (w.alloc (.cells #[.int .i64 id, .slice pa ls.length pc] 42)).cell? ⟨w.heap.size, 1, none⟩ = some (.slice pa ls.length pc) := by rw [World.cell?_alloc_mark]; rfl
  have HB0 := Lib.hid hb0
  have HL := Lib.hid hn0
  have HP := Lib.hid hpn0
  have K0 := Lib.hid k0; have K1 := Lib.hid k1
  have C1 : RowKit.Hid (Calls Try.prog 34 #[v] (w.alloc (.cells #[.int .i64 id, .slice pa ls.length pc] 42)) (IntQ (chk (pgs ps)) (w.alloc (.cells #[.int .i64 id, .slice pa ls.length pc] 42)))) := Lib.hid (check_any v ps _ hn0)
  have C2 : RowKit.Hid (∀ w', RdN w' ⟨id, pa, pc, ls⟩ → Calls Try.prog 42 #[.agg #[.int .i64 id, .slice pa ls.length pc]] w' (IntQ (pchk (id, ls)) w')) := Lib.hid (fun w' h => posting_any ⟨id, pa, pc, ls⟩ w' h)
  have C3 := Lib.hid (fun w' h => at_any id v ps w' h)
  clear hb0 hn0 hpn0 h hp k0 k1 
  have hn : (chk (pgs ps) != 0) = true := by simpa using c1
  have hn' : (chk (pgs ps) == 0) = false := by simpa using c1
  clear c1 C2 C3 HL HP K0 K1
  generalize chk (pgs ps) = ec at *
  go_enter Try.func26, Try.ntmps26
  go_wp2_with fail
  refine C1.out.mono ?_
  rintro en w1 ⟨rfl, hb1⟩
  go_wp2
  go_ret2
  exact ⟨_, [], rfl, RdL.nil _, rfl, bt HB0.out hb1⟩
set_option maxHeartbeats 1000000 in
theorem post_bad2 (h : RdL w v ps) (hp : RdE elN w (.slice pa ls.length pc) ls) (c1 : chk (pgs ps) = 0) (c2 : pchk (id, ls) ≠ 0) : Calls Try.prog 26 #[v, .agg #[.int .i64 id, .slice pa ls.length pc]] w (PostQ ([], pchk (id, ls)) w) := by
  have hb0 := (br w).alloc (Nat.le_refl _) (.cells #[.int .i64 id, .slice pa ls.length pc] 42)
  have hn0 := h.next hb0
  have hpn0 : RdN (w.alloc (.cells #[.int .i64 id, .slice pa ls.length pc] 42)) ⟨id, pa, pc, ls⟩ := Rd.below hp hb0
  have k0 : (w.alloc (.cells #[.int .i64 id, .slice pa ls.length pc] 42)).cell? ⟨w.heap.size, 0, none⟩ = some (.int .i64 id) := by rw [World.cell?_alloc_mark]; rfl
  have k1 : (w.alloc (.cells #[.int .i64 id, .slice pa ls.length pc] 42)).cell? ⟨w.heap.size, 1, none⟩ = some (.slice pa ls.length pc) := by rw [World.cell?_alloc_mark]; rfl
  have HB0 := Lib.hid hb0
  have HL := Lib.hid hn0
  have HP := Lib.hid hpn0
  have K0 := Lib.hid k0; have K1 := Lib.hid k1
  have C1 : RowKit.Hid (Calls Try.prog 34 #[v] (w.alloc (.cells #[.int .i64 id, .slice pa ls.length pc] 42)) (IntQ 0 (w.alloc (.cells #[.int .i64 id, .slice pa ls.length pc] 42)))) := Lib.hid (by have := check_any v ps _ hn0; rw [c1] at this; exact this)
  have C2 : RowKit.Hid (∀ w', RdN w' ⟨id, pa, pc, ls⟩ → Calls Try.prog 42 #[.agg #[.int .i64 id, .slice pa ls.length pc]] w' (IntQ (pchk (id, ls)) w')) := Lib.hid (fun w' h => posting_any ⟨id, pa, pc, ls⟩ w' h)
  have C3 := Lib.hid (fun w' h => at_any id v ps w' h)
  clear hb0 hn0 hpn0 h hp k0 k1 c1
  have hn : (pchk (id, ls) != 0) = true := by simpa using c2
  clear C3 HL c2
  generalize pchk (id, ls) = ec at *
  go_enter Try.func26, Try.ntmps26
  go_wp2_with fail
  refine C1.out.mono ?_
  rintro en w1 ⟨rfl, hb1⟩
  have e0 := kp hb1 K0.out; have e1 := kp hb1 K1.out
  go_wp2_with fail
  refine (C2.out _ (HP.out.below hb1)).mono ?_
  rintro en w2 ⟨rfl, hb2⟩
  go_wp2
  go_ret2
  exact ⟨_, [], rfl, RdL.nil _, rfl, bt HB0.out (bt hb1 hb2)⟩
set_option maxHeartbeats 1000000 in
theorem post_many (h : RdL w v ps) (hp : RdE elN w (.slice pa ls.length pc) ls) (c1 : chk (pgs ps) = 0) (c2 : pchk (id, ls) = 0) (f1 : findI (isP id) ps < 0) (c3 : ps.length = 100) : Calls Try.prog 26 #[v, .agg #[.int .i64 id, .slice pa ls.length pc]] w (PostQ ([], 2) w) := by
  have hb0 := (br w).alloc (Nat.le_refl _) (.cells #[.int .i64 id, .slice pa ls.length pc] 42)
  have hn0 := h.next hb0
  have hpn0 : RdN (w.alloc (.cells #[.int .i64 id, .slice pa ls.length pc] 42)) ⟨id, pa, pc, ls⟩ := Rd.below hp hb0
  have k0 : (w.alloc (.cells #[.int .i64 id, .slice pa ls.length pc] 42)).cell? ⟨w.heap.size, 0, none⟩ = some (.int .i64 id) := by rw [World.cell?_alloc_mark]; rfl
  have k1 : (w.alloc (.cells #[.int .i64 id, .slice pa ls.length pc] 42)).cell? ⟨w.heap.size, 1, none⟩ = some (.slice pa ls.length pc) := by rw [World.cell?_alloc_mark]; rfl
  have HB0 := Lib.hid hb0
  have HL := Lib.hid hn0
  have HP := Lib.hid hpn0
  have K0 := Lib.hid k0; have K1 := Lib.hid k1
  have C1 : RowKit.Hid (Calls Try.prog 34 #[v] (w.alloc (.cells #[.int .i64 id, .slice pa ls.length pc] 42)) (IntQ 0 (w.alloc (.cells #[.int .i64 id, .slice pa ls.length pc] 42)))) := Lib.hid (by have := check_any v ps _ hn0; rw [c1] at this; exact this)
  have C2 : RowKit.Hid (∀ w', RdN w' ⟨id, pa, pc, ls⟩ → Calls Try.prog 42 #[.agg #[.int .i64 id, .slice pa ls.length pc]] w' (IntQ 0 w')) := Lib.hid (fun w' h => by have := posting_any ⟨id, pa, pc, ls⟩ w' h; rw [show pchk (Po.pg ⟨id, pa, pc, ls⟩) = 0 from c2] at this; exact this)
  have C3 := Lib.hid (fun w' h => at_any id v ps w' h)
  clear hb0 hn0 hpn0 h hp k0 k1 c1 c2
  have f1' : ¬ 0 ≤ findI (isP id) ps := by omega
  generalize findI (isP id) ps = fi at *
  obtain ⟨a, cap, e, -⟩ := HL.out.rd
  rw [c3] at e
  subst e
  clear c3
  go_enter Try.func26, Try.ntmps26
  go_wp2_with fail
  refine C1.out.mono ?_
  rintro en w1 ⟨rfl, hb1⟩
  have e0 := kp hb1 K0.out; have e1 := kp hb1 K1.out
  go_wp2_with fail
  refine (C2.out _ (HP.out.below hb1)).mono ?_
  rintro en w2 ⟨rfl, hb2⟩
  have e2 := kp hb2 e0; have e3 := kp hb2 e1
  have H2 := Lib.hid (bt hb1 hb2)
  clear e0 e1 hb1 hb2
  go_wp2_with fail
  refine (C3.out _ ((HL.out.rd).below H2.out)).mono ?_
  rintro en w3 ⟨rfl, hb3⟩
  have e4 := kp hb3 e2; have e5 := kp hb3 e3
  have H3 := Lib.hid (bt H2.out hb3)
  clear e2 e3 hb3
  go_wp2
  go_ret2
  exact ⟨_, [], rfl, RdL.nil _, rfl, bt HB0.out H3.out⟩
set_option maxHeartbeats 1000000 in
theorem post_same (h : RdL w v ps) (hp : RdE elN w (.slice pa ls.length pc) ls) (c1 : chk (pgs ps) = 0) (c2 : pchk (id, ls) = 0) (n : Nat) (hn : n < ps.length) (f1 : findI (isP id) ps = (n : Int)) (hlen : ps.length ≤ 100) (h6 : ∀ q ∈ ps, q.ls.length ≤ 6) (c3 : ps[n].ls = ls) : Calls Try.prog 26 #[v, .agg #[.int .i64 id, .slice pa ls.length pc]] w (PostQ (pgs ps, 0) w) := by
  have hb0 := (br w).alloc (Nat.le_refl _) (.cells #[.int .i64 id, .slice pa ls.length pc] 42)
  have hn0 := h.next hb0
  have hpn0 : RdN (w.alloc (.cells #[.int .i64 id, .slice pa ls.length pc] 42)) ⟨id, pa, pc, ls⟩ := Rd.below hp hb0
  have k0 : (w.alloc (.cells #[.int .i64 id, .slice pa ls.length pc] 42)).cell? ⟨w.heap.size, 0, none⟩ = some (.int .i64 id) := by rw [World.cell?_alloc_mark]; rfl
  have k1 : (w.alloc (.cells #[.int .i64 id, .slice pa ls.length pc] 42)).cell? ⟨w.heap.size, 1, none⟩ = some (.slice pa ls.length pc) := by rw [World.cell?_alloc_mark]; rfl
  have HB0 := Lib.hid hb0
  have HL := Lib.hid hn0
  have HP := Lib.hid hpn0
  have K0 := Lib.hid k0; have K1 := Lib.hid k1
  have C1 : RowKit.Hid (Calls Try.prog 34 #[v] (w.alloc (.cells #[.int .i64 id, .slice pa ls.length pc] 42)) (IntQ 0 (w.alloc (.cells #[.int .i64 id, .slice pa ls.length pc] 42)))) := Lib.hid (by have := check_any v ps _ hn0; rw [c1] at this; exact this)
  have C2 : RowKit.Hid (∀ w', RdN w' ⟨id, pa, pc, ls⟩ → Calls Try.prog 42 #[.agg #[.int .i64 id, .slice pa ls.length pc]] w' (IntQ 0 w')) := Lib.hid (fun w' h => by have := posting_any ⟨id, pa, pc, ls⟩ w' h; rw [show pchk (Po.pg ⟨id, pa, pc, ls⟩) = 0 from c2] at this; exact this)
  have C3 := Lib.hid (fun w' h => at_any id v ps w' h)
  clear hb0 hn0 hpn0 h hp k0 k1 c1 c2
  have hlt1 : (n : Int) < (ps.length : Int) := by omega
  have i0 : (0 : Int) ≤ (n : Int) := by omega
  have C4 : RowKit.Hid (∀ w1, Below (w.alloc (.cells #[.int .i64 id, .slice pa ls.length pc] 42)).heap.size (w.alloc (.cells #[.int .i64 id, .slice pa ls.length pc] 42)) w1 → Calls Try.prog 44 #[.slice ps[n].a ps[n].ls.length ps[n].cap, .slice pa ls.length pc] w1 (BoolQ true w1)) := Lib.hid (fun w1 hw1 => by
    have := equal_any _ _ _ _ w1 ((HL.out.ln _ (List.getElem_mem hn)).below hw1) (HP.out.below hw1)
    rw [show decide (ps[n].ls = ls) = true from decide_eq_true c3] at this
    exact this)
  have C6 := Lib.hid (fun w1 (hw1 : Below (w.alloc (.cells #[.int .i64 id, .slice pa ls.length pc] 42)).heap.size (w.alloc (.cells #[.int .i64 id, .slice pa ls.length pc] 42)) w1) => own_any v ps w1 (HL.out.next hw1) hlen h6)
  obtain ⟨a, cap, rfl, g1, g2, g3⟩ := HL.out.rd
  obtain ⟨g, off, rfl, hbl, hc⟩ := g3 (by omega)
  obtain ⟨-, q1⟩ := eP_at hc n hn
  clear g3 hc c3 h6
  unfold Po.v at q1
  generalize ps[n].a = na at *; generalize ps[n].ls.length = nl at *; generalize ps[n].cap = nc at *
  rw [f1] at C3
  clear f1
  go_enter Try.func26, Try.ntmps26
  go_wp2_with fail
  refine C1.out.mono ?_
  rintro en w1 ⟨rfl, hb1⟩
  have e0 := kp hb1 K0.out; have e1 := kp hb1 K1.out
  go_wp2_with fail
  refine (C2.out _ (HP.out.below hb1)).mono ?_
  rintro en w2 ⟨rfl, hb2⟩
  have e2 := kp hb2 e0; have e3 := kp hb2 e1
  have H2 := Lib.hid (bt hb1 hb2)
  clear e0 e1 hb1 hb2
  go_wp2_with fail
  refine (C3.out _ ((HL.out.rd).below H2.out)).mono ?_
  rintro en w3 ⟨rfl, hb3⟩
  have e4 := kp hb3 e2; have e5 := kp hb3 e3
  have H3 := Lib.hid (bt H2.out hb3)
  clear e2 e3 hb3
  have e6 := kp H3.out q1
  have H3d : Below (w.alloc (.cells #[.int .i64 id, .slice pa ls.length pc] 42)).heap.size (w.alloc (.cells #[.int .i64 id, .slice pa ls.length pc] 42)) w3.drew := bn H3.out 1
  go_wp2_with fail
  go_region_held3 (fun w' => w'.cell? ⟨w.heap.size, 1, none⟩ = some (.slice pa ls.length pc) ∧ w'.cell? ⟨g, off + n * 2 + 1, none⟩ = some (.slice na nl nc))
    (first | (exact ⟨kp b4 e5, kp b4 e6⟩) | (go_split_ands; exact ⟨kp b4 e5, kp b4 e6⟩) | go_keep)
    (first
      | (go_at_call 44; (with_reducible refine (C4.out _ H3d).mono ?_); rintro en w4 ⟨rfl, hb4⟩; have b4 : Below w3.heap.size w3 w4 := bd (br w3) hb4)
      | fail)
  go_wp2_with fail
  refine (C6.out _ (bt H3.out b4)).mono ?_
  rintro en w5 ⟨v', qs, rfl, hrd, hpg, hb5⟩
  go_wp2
  go_ret2
  exact ⟨_, qs, rfl, hrd, hpg, bt HB0.out (bt (bt H3.out b4) hb5)⟩
set_option maxHeartbeats 1000000 in
theorem post_diff (h : RdL w v ps) (hp : RdE elN w (.slice pa ls.length pc) ls) (c1 : chk (pgs ps) = 0) (c2 : pchk (id, ls) = 0) (n : Nat) (hn : n < ps.length) (f1 : findI (isP id) ps = (n : Int)) (hlen : ps.length ≤ 100) (h6 : ∀ q ∈ ps, q.ls.length ≤ 6) (c3 : ¬ ps[n].ls = ls) : Calls Try.prog 26 #[v, .agg #[.int .i64 id, .slice pa ls.length pc]] w (PostQ ([], 6) w) := by
  have hb0 := (br w).alloc (Nat.le_refl _) (.cells #[.int .i64 id, .slice pa ls.length pc] 42)
  have hn0 := h.next hb0
  have hpn0 : RdN (w.alloc (.cells #[.int .i64 id, .slice pa ls.length pc] 42)) ⟨id, pa, pc, ls⟩ := Rd.below hp hb0
  have k0 : (w.alloc (.cells #[.int .i64 id, .slice pa ls.length pc] 42)).cell? ⟨w.heap.size, 0, none⟩ = some (.int .i64 id) := by rw [World.cell?_alloc_mark]; rfl
  have k1 : (w.alloc (.cells #[.int .i64 id, .slice pa ls.length pc] 42)).cell? ⟨w.heap.size, 1, none⟩ = some (.slice pa ls.length pc) := by rw [World.cell?_alloc_mark]; rfl
  have HB0 := Lib.hid hb0
  have HL := Lib.hid hn0
  have HP := Lib.hid hpn0
  have K0 := Lib.hid k0; have K1 := Lib.hid k1
  have C1 : RowKit.Hid (Calls Try.prog 34 #[v] (w.alloc (.cells #[.int .i64 id, .slice pa ls.length pc] 42)) (IntQ 0 (w.alloc (.cells #[.int .i64 id, .slice pa ls.length pc] 42)))) := Lib.hid (by have := check_any v ps _ hn0; rw [c1] at this; exact this)
  have C2 : RowKit.Hid (∀ w', RdN w' ⟨id, pa, pc, ls⟩ → Calls Try.prog 42 #[.agg #[.int .i64 id, .slice pa ls.length pc]] w' (IntQ 0 w')) := Lib.hid (fun w' h => by have := posting_any ⟨id, pa, pc, ls⟩ w' h; rw [show pchk (Po.pg ⟨id, pa, pc, ls⟩) = 0 from c2] at this; exact this)
  have C3 := Lib.hid (fun w' h => at_any id v ps w' h)
  clear hb0 hn0 hpn0 h hp k0 k1 c1 c2
  have hlt1 : (n : Int) < (ps.length : Int) := by omega
  have i0 : (0 : Int) ≤ (n : Int) := by omega
  have C4 : RowKit.Hid (∀ w1, Below (w.alloc (.cells #[.int .i64 id, .slice pa ls.length pc] 42)).heap.size (w.alloc (.cells #[.int .i64 id, .slice pa ls.length pc] 42)) w1 → Calls Try.prog 44 #[.slice ps[n].a ps[n].ls.length ps[n].cap, .slice pa ls.length pc] w1 (BoolQ false w1)) := Lib.hid (fun w1 hw1 => by
    have := equal_any _ _ _ _ w1 ((HL.out.ln _ (List.getElem_mem hn)).below hw1) (HP.out.below hw1)
    rw [show decide (ps[n].ls = ls) = false from decide_eq_false c3] at this
    exact this)
  have C6 := Lib.hid (fun w1 (hw1 : Below (w.alloc (.cells #[.int .i64 id, .slice pa ls.length pc] 42)).heap.size (w.alloc (.cells #[.int .i64 id, .slice pa ls.length pc] 42)) w1) => own_any v ps w1 (HL.out.next hw1) hlen h6)
  obtain ⟨a, cap, rfl, g1, g2, g3⟩ := HL.out.rd
  obtain ⟨g, off, rfl, hbl, hc⟩ := g3 (by omega)
  obtain ⟨-, q1⟩ := eP_at hc n hn
  clear g3 hc c3 h6
  unfold Po.v at q1
  generalize ps[n].a = na at *; generalize ps[n].ls.length = nl at *; generalize ps[n].cap = nc at *
  rw [f1] at C3
  clear f1
  go_enter Try.func26, Try.ntmps26
  go_wp2_with fail
  refine C1.out.mono ?_
  rintro en w1 ⟨rfl, hb1⟩
  have e0 := kp hb1 K0.out; have e1 := kp hb1 K1.out
  go_wp2_with fail
  refine (C2.out _ (HP.out.below hb1)).mono ?_
  rintro en w2 ⟨rfl, hb2⟩
  have e2 := kp hb2 e0; have e3 := kp hb2 e1
  have H2 := Lib.hid (bt hb1 hb2)
  clear e0 e1 hb1 hb2
  go_wp2_with fail
  refine (C3.out _ ((HL.out.rd).below H2.out)).mono ?_
  rintro en w3 ⟨rfl, hb3⟩
  have e4 := kp hb3 e2; have e5 := kp hb3 e3
  have H3 := Lib.hid (bt H2.out hb3)
  clear e2 e3 hb3
  have e6 := kp H3.out q1
  have H3d : Below (w.alloc (.cells #[.int .i64 id, .slice pa ls.length pc] 42)).heap.size (w.alloc (.cells #[.int .i64 id, .slice pa ls.length pc] 42)) w3.drew := bn H3.out 1
  go_wp2_with fail
  go_region_held3 (fun w' => w'.cell? ⟨w.heap.size, 1, none⟩ = some (.slice pa ls.length pc) ∧ w'.cell? ⟨g, off + n * 2 + 1, none⟩ = some (.slice na nl nc))
    (first | (exact ⟨kp b4 e5, kp b4 e6⟩) | (go_split_ands; exact ⟨kp b4 e5, kp b4 e6⟩) | go_keep)
    (first
      | (go_at_call 44; (with_reducible refine (C4.out _ H3d).mono ?_); rintro en w4 ⟨rfl, hb4⟩; have b4 : Below w3.heap.size w3 w4 := bd (br w3) hb4)
      | fail)
  go_wp2
  go_ret2
  exact ⟨_, [], rfl, RdL.nil _, rfl, bt HB0.out (bt H3.out b4)⟩
set_option maxHeartbeats 1000000 in
theorem post_new (h : RdL w v ps) (hp : RdE elN w (.slice pa ls.length pc) ls) (c1 : chk (pgs ps) = 0) (c2 : pchk (id, ls) = 0) (f1 : findI (isP id) ps < 0) (c3 : ps.length < 100) (h6 : ∀ q ∈ ps, q.ls.length ≤ 6) (h7 : ls.length ≤ 6) : Calls Try.prog 26 #[v, .agg #[.int .i64 id, .slice pa ls.length pc]] w (PostQ (pgs ps ++ [(id, ls)], 0) w) := by
  have hb0 := (br w).alloc (Nat.le_refl _) (.cells #[.int .i64 id, .slice pa ls.length pc] 42)
  have hn0 := h.next hb0
  have hpn0 : RdN (w.alloc (.cells #[.int .i64 id, .slice pa ls.length pc] 42)) ⟨id, pa, pc, ls⟩ := Rd.below hp hb0
  have k0 : (w.alloc (.cells #[.int .i64 id, .slice pa ls.length pc] 42)).cell? ⟨w.heap.size, 0, none⟩ = some (.int .i64 id) := by rw [World.cell?_alloc_mark]; rfl
  have k1 : (w.alloc (.cells #[.int .i64 id, .slice pa ls.length pc] 42)).cell? ⟨w.heap.size, 1, none⟩ = some (.slice pa ls.length pc) := by rw [World.cell?_alloc_mark]; rfl
  have HB0 := Lib.hid hb0
  have HL := Lib.hid hn0
  have HP := Lib.hid hpn0
  have K0 := Lib.hid k0; have K1 := Lib.hid k1
  have C1 : RowKit.Hid (Calls Try.prog 34 #[v] (w.alloc (.cells #[.int .i64 id, .slice pa ls.length pc] 42)) (IntQ 0 (w.alloc (.cells #[.int .i64 id, .slice pa ls.length pc] 42)))) := Lib.hid (by have := check_any v ps _ hn0; rw [c1] at this; exact this)
  have C2 : RowKit.Hid (∀ w', RdN w' ⟨id, pa, pc, ls⟩ → Calls Try.prog 42 #[.agg #[.int .i64 id, .slice pa ls.length pc]] w' (IntQ 0 w')) := Lib.hid (fun w' h => by have := posting_any ⟨id, pa, pc, ls⟩ w' h; rw [show pchk (Po.pg ⟨id, pa, pc, ls⟩) = 0 from c2] at this; exact this)
  have C3 := Lib.hid (fun w' h => at_any id v ps w' h)
  clear hb0 hn0 hpn0 h hp k0 k1 c1 c2
  have f1' : ¬ 0 ≤ findI (isP id) ps := by omega
  have hq : ((ps.length : Int) == 100) = false := by simp; omega
  generalize findI (isP id) ps = fi at *
  have hl1 := HL.out.rd.len_le
  have C5 := Lib.hid (fun w' h => cloneP_any v ps w' h (by omega))
  have HO := Lib.hid (fun (v2 : Value) w1 (hw1 : Below (w.alloc (.cells #[.int .i64 id, .slice pa ls.length pc] 42)).heap.size (w.alloc (.cells #[.int .i64 id, .slice pa ls.length pc] 42)) w1) (hR : RdE elP w1 v2 (ps ++ [⟨id, pa, pc, ls⟩])) => own_any v2 (ps ++ [⟨id, pa, pc, ls⟩]) w1 ⟨hR, fun q hq => by
    rcases List.mem_append.1 hq with hq | hq
    · exact (HL.out.ln q hq).below hw1
    · have : q = ⟨id, pa, pc, ls⟩ := by simpa using hq
      subst this; exact HP.out.below hw1⟩ (by simp; omega) (fun q hq => by
    rcases List.mem_append.1 hq with hq | hq
    · exact h6 q hq
    · have : q = ⟨id, pa, pc, ls⟩ := by simpa using hq
      subst this; exact h7))
  have HLN : RowKit.Hid (ps.length < 100) := Lib.hid c3
  clear h6 h7 c3
  obtain ⟨a, cap, rfl, -⟩ := HL.out.rd
  go_enter Try.func26, Try.ntmps26
  go_wp2_with fail
  refine C1.out.mono ?_
  rintro en w1 ⟨rfl, hb1⟩
  have e0 := kp hb1 K0.out; have e1 := kp hb1 K1.out
  go_wp2_with fail
  refine (C2.out _ (HP.out.below hb1)).mono ?_
  rintro en w2 ⟨rfl, hb2⟩
  have e2 := kp hb2 e0; have e3 := kp hb2 e1
  have H2 := Lib.hid (bt hb1 hb2)
  clear e0 e1 hb1 hb2
  go_wp2_with fail
  refine (C3.out _ ((HL.out.rd).below H2.out)).mono ?_
  rintro en w3 ⟨rfl, hb3⟩
  have e4 := kp hb3 e2; have e5 := kp hb3 e3
  have H3 := Lib.hid (bt H2.out hb3)
  clear e2 e3 hb3
  have HR3 := Lib.hid (HL.out.rd.below H3.out)
  have HR3d : RdE elP w3.drew (.slice a ps.length cap) ps := rdE_dr HR3.out
  have HR3e : RdE elP (w3.alloc (.cells #[.int .i64 id, .slice pa ls.length pc] 42)).drew (.slice a ps.length cap) ps := rdE_dr (Rd.below HR3.out ((br w3).alloc (Nat.le_refl _) _))
  have HLit : RdE elP (w3.alloc (.cells #[.int .i64 id, .slice pa ls.length pc] 42)).drew (.slice (some ⟨w3.heap.size, 0, none⟩) 1 1) [⟨id, pa, pc, ls⟩] := rdE_dr (rd_lit elP [⟨id, pa, pc, ls⟩] w3 _ _ w3.heap.size rfl (by simp [maxLen]))
  go_wp2_with fail
  go_region_held3 (fun w' => w'.cell? ⟨w.heap.size, 0, none⟩ = some (.int .i64 id) ∧ w'.cell? ⟨w.heap.size, 1, none⟩ = some (.slice pa ls.length pc))
    (first | (exact ⟨kp b7 e4, kp b7 e5⟩) | (exact ⟨kp b5 e4, kp b5 e5⟩) | (exact ⟨kp b4 e4, kp b4 e5⟩) | (go_split_ands; exact ⟨kp b7 e4, kp b7 e5⟩) | (go_split_ands; exact ⟨kp b5 e4, kp b5 e5⟩) | (go_split_ands; exact ⟨kp b4 e4, kp b4 e5⟩) | go_keep)
    (first
      | (go_at_call 46; (with_reducible refine (C5.out _ HR3d).mono ?_); rintro en w4 ⟨v1, rfl, hown1, hb4⟩; have b4 : Below w3.heap.size w3 w4 := bd (br w3) hb4)
      | (go_at_call 46; (with_reducible refine (C5.out _ HR3e).mono ?_); rintro en w4 ⟨v1, rfl, hown1, hb4⟩; have b4 : Below w3.heap.size w3 w4 := bd ((br w3).alloc (Nat.le_refl _) _) hb4; have hlit := Rd.below HLit hb4)
      | ((refine stepE_app elP (by rfl) (.tmp 38) (.tmp 40) (by rfl) w3.heap.size _ ps (by rfl) (hown1.base (by simp)) _ [⟨id, pa, pc, ls⟩] (by rfl) hlit (by have := HLN.out; simp [maxLen]; omega) (by have := HLN.out; simp; omega) b4.size ?_); intro v2 w5 hown2 hb5 hfar5; have b5 : Below w3.heap.size w3 w5 := b4.trans hb5)
      | ((refine stepE_app elP (by rfl) (.tmp 38) (.tmp 40) (by rfl) w3.heap.size _ ps (by rfl) (hown1.next ((br w4).alloc (Nat.le_refl _) _)) _ [⟨id, pa, pc, ls⟩] (by rfl) (rd_lit elP [⟨id, pa, pc, ls⟩] w4 _ _ w4.heap.size rfl (by simp [maxLen])) (by have := HLN.out; simp [maxLen]; omega) (by have := HLN.out; simp; omega) (by have := b4.size; simp; omega) ?_); intro v2 w5 hown2 hb5 hfar5; have b5 : Below w3.heap.size w3 w5 := (b4.alloc b4.size _).trans hb5)
      | (go_at_call 45; (with_reducible refine (HO.out _ _ (bt H3.out b5) hown2.rd).mono ?_); rintro en w7 ⟨v', qs, rfl, hrd, hpg, hb7⟩; have b7 : Below w3.heap.size w3 w7 := bt b5 hb7)
      | fail)
  all_goals
    go_wp2
    go_ret2
    exact ⟨_, qs, rfl, hrd, by rw [hpg]; exact List.map_append, bt HB0.out (bt H3.out b7)⟩
end
end Ld
end Go.Proofs.Ytcppeligeodomaa
