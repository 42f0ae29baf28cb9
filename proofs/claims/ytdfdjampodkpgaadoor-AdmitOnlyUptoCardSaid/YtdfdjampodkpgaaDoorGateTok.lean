/- Gate: a token of its bytes. -/
import Derived.Test.YtdfdjampodkpgaaDoorGateDoor2
import Derived.Test.YtdfdjampodkpgaaDoorGateAs
import Derived.Deep.RegionHeld3
import Derived.LoopN
import Derived.Deep.RegionWith
import Derived.Deep.RegionLaw
set_option linter.unusedSimpArgs false
set_option linter.unusedVariables false
namespace Go.Proofs.YtdfdjampodkpgaaDoor
open Go.RowKit
namespace Gt
open Sn Pa
abbrev tabV (n : Nat) : Value := .agg #[.pointer (some ⟨n, 0, none⟩), .int .i64 3, .pointer (some ⟨n, 3, none⟩), .int .i64 2, .pointer (some ⟨n, 1, none⟩), .int .i64 1, .pointer (some ⟨n, 2, none⟩), .int .i64 1]
theorem tab0 (n : Nat) (w : World) : (Instr.index 100 (tabV n) (.int .i64 0)).run Tryd.prog w = .ok (.agg #[.pointer (some ⟨n, 0, none⟩), .int .i64 3]) w := by kernel_rfl
theorem tab1 (n : Nat) (w : World) : (Instr.index 100 (tabV n) (.int .i64 1)).run Tryd.prog w = .ok (.agg #[.pointer (some ⟨n, 3, none⟩), .int .i64 2]) w := by kernel_rfl
theorem tab2 (n : Nat) (w : World) : (Instr.index 100 (tabV n) (.int .i64 2)).run Tryd.prog w = .ok (.agg #[.pointer (some ⟨n, 1, none⟩), .int .i64 1]) w := by kernel_rfl
theorem tab3 (n : Nat) (w : World) : (Instr.index 100 (tabV n) (.int .i64 3)).run Tryd.prog w = .ok (.agg #[.pointer (some ⟨n, 2, none⟩), .int .i64 1]) w := by kernel_rfl
theorem shapeE {α : Type} {E : El α} {w : World} {base : Nat} {v : Value} {xs : List α} (h : ROwn E w base v xs) : ∃ a c, v = .slice a xs.length c := by
  obtain ⟨_, ⟨rfl, h⟩ | ⟨g, cap, cur, rfl, _⟩⟩ := h
  · exact ⟨none, 0, by rw [h]⟩
  · exact ⟨_, _, rfl⟩
theorem setE {α : Type} {E : El α} {w : World} {base b j : Nat} {v u : Value} {xs : List α} (h : ROwn E w base v xs) (hb : v.ownBlock ≠ some b) : ROwn E (w.setCell ⟨b, j, none⟩ u) base v xs := by
  obtain ⟨hl, h | ⟨g, cap, cur, rfl, h2, h3, h4, h5, h6, h7⟩⟩ := h
  · exact ⟨hl, .inl h⟩
  · refine ⟨hl, .inr ⟨g, cap, cur, rfl, h2, ?_, h4, h5, h6, h7⟩⟩
    have hne : g ≠ b := fun e => hb (by rw [e]; rfl)
    rw [Below.heap_setCell _ _ _ _ hne]; exact h3
theorem own_but {α : Type} {E : El α} {w w' : World} {base b : Nat} {v : Value} {xs : List α} (h : ROwn E w base v xs) (hb : But b w w') (hlt : b < base) : ROwn E w' base v xs := by
  obtain ⟨hl, h | ⟨g, cap, cur, rfl, h2, h3, h4, h5, h6, h7⟩⟩ := h
  · exact ⟨hl, .inl h⟩
  · refine ⟨hl, .inr ⟨g, cap, cur, rfl, h2, ?_, h4, h5, h6, h7⟩⟩
    have hlt2 : g < w.heap.size := by
      rcases Nat.lt_or_ge g w.heap.size with hlt | hge
      · exact hlt
      · rw [Array.getElem?_eq_none hge] at h3; cases h3
    rw [hb g hlt2 (by omega)]; exact h3
/-- a region that does not panic -/
def NP (Q : Exit → Act → World → Prop) : Exit → Act → World → Prop
  | .panic _, _, _ => False
  | e, a, w => Q e a w
theorem wp_np {c : Code} {Q : Exit → Act → World → Prop} {a : Act} {w : World} (h : Code.wp Tryd.prog c (NP Q) a w) : Code.wp Tryd.prog c Q a w :=
  Code.wp_mono (fun e a w h => by cases e <;> first | exact h | exact h.elim) h
theorem np_normal {Q : Exit → Act → World → Prop} {a : Act} {w : World} (h : Q .normal a w) : NP Q .normal a w := h
def spsOf : Nat → List UInt8 → List Sp
  | 0, _ => []
  | j + 1, l => spsOf j l ++ [((numB ((l.drop (6 * j)).take 3) : Int), (numB ((l.drop (6 * j + 3)).take 3) : Int))]
theorem spsOf_len (j : Nat) (l : List UInt8) : (spsOf j l).length = j := by
  induction j with
  | zero => rfl
  | succ j ih => simp [spsOf, ih]
def hdN (l : List UInt8) : Nat := numB ((l.drop 7).take 1)
def tokT (l : List UInt8) : Tk := ⟨numB (l.take 3), numB ((l.drop 5).take 1), numB ((l.drop 6).take 1), numB ((l.drop 3).take 2)⟩
def tokS (l : List UInt8) : List Sp := spsOf (hdN l) (l.drop 8)
def tokOk (l : List UInt8) : Prop := l.length = 8 + 6 * hdN l ∧ passE ⟨(tokT l).id, 1, (tokT l).a, (tokT l).b, (tokT l).ser⟩ (tokS l) = 0
instance (l : List UInt8) : Decidable (tokOk l) := by unfold tokOk; infer_instance
def tokF (l : List UInt8) : (Tk × List Sp) × Bool := if tokOk l then ((tokT l, tokS l), true) else ((tk0, []), false)
abbrev TokQ (r : (Tk × List Sp) × Bool) (w : World) (e : Ending) (w' : World) : Prop := ∃ v, e = .returned (.tuple #[aT r.1.1 v, .bool r.2]) ∧ RdE elS w' v r.1.2 ∧ (∀ b, b < w.heap.size → Off v b) ∧ Below w.heap.size w w'
theorem tok_bad {l : List UInt8} {w : World} {e : Ending} {w' : World} (h : ¬ tokOk l) (hn : NoTok w e w') : TokQ (tokF l) w e w' := by
  unfold tokF
  rw [if_neg h]
  exact ⟨_, hn.1, Rd.nil _, (fun _ _ _ _ _ e => by cases e), hn.2⟩
theorem off_own {w : World} {base : Nat} {v : Value} {xs : List Sp} (h : ROwn elS w base v xs) : ∀ b, b < base → Off v b := by
  intro b hb a n c e hn
  subst e
  obtain ⟨_, ⟨e, _⟩ | ⟨g, cap, cur, e, h2, _⟩⟩ := h
  · cases e
  · injection e with e; injection e with e; subst e
    simp; omega
set_option maxRecDepth 100000 in
set_option maxHeartbeats 8000000 in
theorem tok_any (l : List UInt8) (hl : l.length ≤ 200) (w : World) : Calls Tryd.prog 29 #[.string (bS l)] w (TokQ (tokF l) w) := by
  have hbad : ∀ e w', l.length ≠ 8 + 6 * hdN l → NoTok w e w' → TokQ (tokF l) w e w' := fun e w' h hn => tok_bad (fun k => h k.1) hn
  have hgood : l.length = 8 + 6 * hdN l → passE ⟨(tokT l).id, 1, (tokT l).a, (tokT l).b, (tokT l).ser⟩ (tokS l) = 0 → tokF l = ((tokT l, tokS l), true) := fun h1 h2 => by unfold tokF; rw [if_pos ⟨h1, h2⟩]
  have hbad2 : ∀ e w', passE ⟨(tokT l).id, 1, (tokT l).a, (tokT l).b, (tokT l).ser⟩ (tokS l) ≠ 0 → NoTok w e w' → TokQ (tokF l) w e w' := fun e w' h hn => tok_bad (fun k => h k.2) hn
  have HBAD := Lib.hid hbad; have HGOOD := Lib.hid hgood; have HBAD2 := Lib.hid hbad2
  clear hbad hgood hbad2
  obtain ⟨TF, hTF⟩ : ∃ TF, tokF l = TF := ⟨_, rfl⟩
  rw [hTF]
  rw [hTF] at HBAD HGOOD HBAD2
  clear hTF
  have hmf : ∀ (fn : Fn) (first cap : Array Value) (w : World), (Instr.makeFunc fn first cap).run Tryd.prog w = .ok (.func fn first cap) w := fun _ _ _ _ => rfl
  have i0 := tab0 w.heap.size; have i1 := tab1 w.heap.size; have i2 := tab2 w.heap.size; have i3 := tab3 w.heap.size
  go_enter_defers Tryd.func29, Tryd.ntmps29
  go_wp2_with fail
  have hT := Box.new w 30 tz
  have hs1 : (w.alloc (.cells #[.int .i64 0, .int .i64 0, .int .i64 0, .int .i64 0, .slice none 0 0] 30)).heap.size = w.heap.size + 1 := asz _ _
  have hO := Box.new (w.alloc (.cells #[.int .i64 0, .int .i64 0, .int .i64 0, .int .i64 0, .slice none 0 0] 30)) 4 [.bool false]
  have hT := hT.alloc (.cells #[.bool false] 4)
  have hs2 : ((w.alloc (.cells #[.int .i64 0, .int .i64 0, .int .i64 0, .int .i64 0, .slice none 0 0] 30)).alloc (.cells #[.bool false] 4)).heap.size = w.heap.size + 2 := by simp
  have hB := Box.new ((w.alloc (.cells #[.int .i64 0, .int .i64 0, .int .i64 0, .int .i64 0, .slice none 0 0] 30)).alloc (.cells #[.bool false] 4)) 97 [.string (bS l)]
  have hT := hT.alloc (.cells #[.string (bS l)] 97)
  have hO := hO.alloc (.cells #[.string (bS l)] 97)
  have hBW := (((br w).alloc (Nat.le_refl _) (.cells #[.int .i64 0, .int .i64 0, .int .i64 0, .int .i64 0, .slice none 0 0] 30)).alloc (by simp) (.cells #[.bool false] 4)).alloc (by simp; omega) (.cells #[.string (bS l)] 97)
  have hs3 : w.heap.size + 3 ≤ (((w.alloc (.cells #[.int .i64 0, .int .i64 0, .int .i64 0, .int .i64 0, .slice none 0 0] 30)).alloc (.cells #[.bool false] 4)).alloc (.cells #[.string (bS l)] 97)).heap.size := by simp
  rw [hs1] at hO
  rw [hs2] at hB
  clear hs1 hs2
  rw [show w.heap.size + 1 + 1 = w.heap.size + 2 from rfl]
  generalize ((w.alloc (.cells #[.int .i64 0, .int .i64 0, .int .i64 0, .int .i64 0, .slice none 0 0] 30)).alloc (.cells #[.bool false] 4)).alloc (.cells #[.string (bS l)] 97) = W0 at *
  obtain ⟨l0, hl0⟩ : ∃ l0, l0 = l := ⟨l, rfl⟩
  rw [← hl0] at hB hl
  have HD0 : RowKit.Hid (l0 = l.drop 0 ∧ l0.length + 0 = l.length) := Lib.hid ⟨hl0, by rw [hl0]; omega⟩
  have HL0 := Lib.hid hl0; clear hl0
  have HT0 := Lib.hid hT; have HO0 := Lib.hid hO; have HB0 := Lib.hid hB; have HW0 := Lib.hid hBW; have HS0 := Lib.hid hs3; have HN0 := Lib.hid hl
  clear hT hO hB hBW hs3 hl
  refine wp_loop_rounds 5 ?_
  rw [rounds_succ]
  have hD := Box.new W0 99 [.pointer (some ⟨w.heap.size, 0, none⟩), .int .i64 3]
  have hba := (br W0).alloc (Nat.le_refl _) (.cells #[.pointer (some ⟨w.heap.size, 0, none⟩), .int .i64 3] 99)
  have d0 := hD.cell 0; have d1 := hD.cell 1
  simp only [List.getElem?_cons_zero, List.getElem?_cons_succ] at d0 d1
  have hX := HB0.out.next hba
  have HX := Lib.hid hX; clear hX
  have HBA := Lib.hid hba; have HD := Lib.hid hD; clear hba hD
  go_wp2_with fail
  by_cases hk0 : l0.length < 3
  · have hX1 : Box (W0.alloc (.cells #[.pointer (some ⟨w.heap.size, 0, none⟩), .int .i64 3] 99)).drew (w.heap.size + 2) 97 [.string (bS l0)] := HX.out
    have hKW1 : Kw w.heap.size w (W0.alloc (.cells #[.pointer (some ⟨w.heap.size, 0, none⟩), .int .i64 3] 99)).drew := ⟨⟨⟨0, 0, 0, 0⟩, .slice none 0 0, HT0.out.next (bn HBA.out 1)⟩, ⟨false, HO0.out.next (bn HBA.out 1)⟩, (HW0.out.trans (HBA.out.mono HW0.out.size)).drew, Nat.le_trans HW0.out.size HBA.out.size⟩
    refine Code.wp_mono (Q := fun e a w' => e = .panic [{ v := brk, recovered := false }] ∧ Key w.heap.size a ∧ Kw w.heap.size w w') (fun e a w' h => ?_) ?_
    · obtain ⟨rfl, hk, hw⟩ := h
      exact door w.heap.size a w w' rfl hk hw _ (fun e w' h => HBAD.out e w' (by have := HD0.out.2; omega) h)
    · refine wp_region_held (S := (fun w' => w'.cell? ⟨W0.heap.size, 0, none⟩ = some (.pointer (some ⟨w.heap.size, 0, none⟩)) ∧ w'.cell? ⟨W0.heap.size, 1, none⟩ = some (.int .i64 3))) (by kernel_rfl) ?_
      change wpAnyH _ _ _ _ _ _ _ _ (World.drew _)
      have hq : ∀ (o : Option Tmp) (v : Value), o ≠ some 2 → o ≠ some 3 → ∀ (c : List PanicEntry) (a : Act) (w' : World), (Exit.panic c = .panic [{ v := brk, recovered := false }] ∧ Key w.heap.size (a.put o v) ∧ Kw w.heap.size w w') → (Exit.panic c = .panic [{ v := brk, recovered := false }] ∧ Key w.heap.size a ∧ Kw w.heap.size w w') := fun o v h2 h3 c a w' h => ⟨h.1, h.2.1.unput h2 h3, h.2.2⟩
      refine wpAnyH_take (i := 0) (v := .pointer (some ⟨W0.heap.size, 0, none⟩)) rfl (by kernel_rfl) (by kernel_rfl) (by kernel_rfl) (hq _ _ (by simp) (by simp)) (Or.inl ⟨by rfl, fun w hw => by obtain ⟨e0, e1⟩ := hw; go_simp; try (with_reducible rfl)⟩) ⟨d0, d1⟩ ?_
      refine wpAnyH_take (i := 2) (v := .pointer (some ⟨w.heap.size + 2, 0, none⟩)) rfl (by kernel_rfl) (by kernel_rfl) (by kernel_rfl) (hq _ _ (by simp) (by simp)) (Or.inl ⟨by rfl, fun w hw => by obtain ⟨e0, e1⟩ := hw; go_simp; try (with_reducible rfl)⟩) ⟨d0, d1⟩ ?_
      refine wpAnyH_take (i := 3) (v := .pointer (some ⟨W0.heap.size, 1, none⟩)) rfl (by kernel_rfl) (by kernel_rfl) (by kernel_rfl) (hq _ _ (by simp) (by simp)) (Or.inl ⟨by rfl, fun w hw => by obtain ⟨e0, e1⟩ := hw; go_simp; try (with_reducible rfl)⟩) ⟨d0, d1⟩ ?_
      refine wpAnyH_take (i := 1) (v := .pointer (some ⟨w.heap.size, 0, none⟩)) rfl (by kernel_rfl) (by kernel_rfl) (by kernel_rfl) (hq _ _ (by simp) (by simp)) (Or.inl ⟨by rfl, fun w hw => by obtain ⟨e0, e1⟩ := hw; go_simp; try (with_reducible rfl)⟩) ⟨d0, d1⟩ ?_
      refine wpAnyH_take (i := 4) (v := .int .i64 3) rfl (by kernel_rfl) (by kernel_rfl) (by kernel_rfl) (hq _ _ (by simp) (by simp)) (Or.inl ⟨by rfl, fun w hw => by obtain ⟨e0, e1⟩ := hw; go_simp; try (with_reducible rfl)⟩) ⟨d0, d1⟩ ?_
      refine wpAnyH_all (rs := [5]) (by kernel_rfl) (by simp) ?_
      intro i hi
      rw [List.mem_singleton] at hi
      subst hi
      unfold wpOp
      go_simp
      refine Or.inl ?_
      go_at_call 60
      refine (get_bad (w.heap.size + 2) l0 3 _ hX1 hk0 (by omega)).mono ?_
      rintro en w3 ⟨rfl, hb3⟩
      refine ⟨rfl, ?_, ?_⟩
      · exact ⟨rfl, by rfl, by rfl⟩
      · obtain ⟨⟨t, d, k1⟩, ⟨q, k2⟩, k3, k4⟩ := hKW1
        exact ⟨⟨t, d, k1.next hb3⟩, ⟨q, k2.next hb3⟩, k3.trans (hb3.mono k4), Nat.le_trans k4 hb3.size⟩
  obtain ⟨x0, hx0⟩ : ∃ x0, numB (l0.take 3) = x0 := ⟨_, rfl⟩
  obtain ⟨l1, hl1⟩ : ∃ l1, l1 = l0.drop 3 := ⟨_, rfl⟩
  have hle1 : l1.length ≤ 200 := by rw [hl1, List.length_drop]; have := HN0.out; omega
  have HN1 := Lib.hid hle1; have HX0' := Lib.hid hx0; have HL1 := Lib.hid hl1
  have HD1 : RowKit.Hid (l1 = l.drop 3 ∧ l1.length + 3 = l.length) := Lib.hid ⟨by rw [hl1, HD0.out.1, List.drop_drop], by rw [hl1, List.length_drop]; have := HD0.out.2; omega⟩
  clear hle1 hx0 hl1
  have hX1 : Box (W0.alloc (.cells #[.pointer (some ⟨w.heap.size, 0, none⟩), .int .i64 3] 99)).drew (w.heap.size + 2) 97 [.string (bS l0)] := HX.out
  have hT1 := HT0.out.next HBA.out; have hO1 := HO0.out.next HBA.out
  have hD1 := HD.out
  go_region_held3 (fun w' => w'.cell? ⟨W0.heap.size, 0, none⟩ = some (.pointer (some ⟨w.heap.size, 0, none⟩)) ∧ w'.cell? ⟨W0.heap.size, 1, none⟩ = some (.int .i64 3))
    (first | exact ⟨d0, d1⟩ | exact HSS.out | exact HSV.out)
    (first
      | (go_at_call 60; refine (get_ok (w.heap.size + 2) l0 3 _ hX1 (by omega) (by omega) (by have := HN0.out; omega)).mono ?_; rintro en w3 ⟨rfl, hb3, hl3, hbut⟩; rw [HX0'.out]; rw [← HL1.out] at hb3
         have hT3 := hT1.of_block (hbut w.heap.size (by have := hT1.lt; exact this) (by omega)); have hO3 := hO1.of_block (hbut (w.heap.size + 1) (by have := hO1.lt; exact this) (by omega)); have hD3 := hD1.of_block (hbut _ hD1.lt (by have := HS0.out; omega))
         have c0 := hT3.cell 0; have z0 := hT3.froz 0; have e0 := hD3.cell 0; have e1 := hD3.cell 1; simp only [List.getElem?_cons_zero, List.getElem?_cons_succ] at c0 e0 e1
         have HSS := Lib.hid (And.intro e0 e1); have hDV := hD3.other w.heap.size 0 (.int .i64 x0) (by have := HS0.out; omega); have g0 := hDV.cell 0; have g1 := hDV.cell 1; simp only [List.getElem?_cons_zero, List.getElem?_cons_succ] at g0 g1; have HSV := Lib.hid (And.intro g0 g1); clear g0 g1 hDV)
      | fail)
  have hT4 := hT3.set 0 (.int .i64 x0)
  have hO4 := hO3.other w.heap.size 0 (.int .i64 x0) (by omega)
  have hB4 := hb3.other w.heap.size 0 (.int .i64 x0) (by omega)
  have hW4 := (((HW0.out.trans (HBA.out.mono HW0.out.size)).drew).trans (hl3.mono (by omega))).setCell (p := ⟨w.heap.size, 0, none⟩) (Nat.le_refl _) (.int .i64 x0)
  have hS4 : w.heap.size + 3 ≤ (w3.setCell ⟨w.heap.size, 0, none⟩ (.int .i64 x0)).heap.size := by
    have h5 := HS0.out; have h6 := HBA.out.size; have h7 := hl3.size
    have h8 : ((W0.alloc (.cells #[.pointer (some ⟨w.heap.size, 0, none⟩), .int .i64 3] 99)).drew).heap.size = (W0.alloc (.cells #[.pointer (some ⟨w.heap.size, 0, none⟩), .int .i64 3] 99)).heap.size := rfl
    rw [h8] at h7
    simp; omega
  clear HSS HSV hT3 hO3 hD3 hT1 hO1 hD1 hX1 hl3 hbut hb3 c0 z0 e0 e1 d0 d1 HX HBA HD hk0
  generalize w3.setCell ⟨w.heap.size, 0, none⟩ (.int .i64 x0) = W1 at *
  have HT1 := Lib.hid hT4; have HO1 := Lib.hid hO4; have HB1 := Lib.hid hB4; have HW1 := Lib.hid hW4; have HS1 := Lib.hid hS4
  clear hT4 hO4 hB4 hW4 hS4
  go_wp2_with fail
  rw [rounds_succ]
  have hD := Box.new W1 99 [.pointer (some ⟨w.heap.size, 3, none⟩), .int .i64 2]
  have hba := (br W1).alloc (Nat.le_refl _) (.cells #[.pointer (some ⟨w.heap.size, 3, none⟩), .int .i64 2] 99)
  have d0 := hD.cell 0; have d1 := hD.cell 1
  simp only [List.getElem?_cons_zero, List.getElem?_cons_succ] at d0 d1
  have hX := HB1.out.next hba
  have HX := Lib.hid hX; clear hX
  have HBA := Lib.hid hba; have HD := Lib.hid hD; clear hba hD
  go_wp2_with fail
  by_cases hk1 : l1.length < 2
  · have hX1 : Box (W1.alloc (.cells #[.pointer (some ⟨w.heap.size, 3, none⟩), .int .i64 2] 99)).drew (w.heap.size + 2) 97 [.string (bS l1)] := HX.out
    have hKW1 : Kw w.heap.size w (W1.alloc (.cells #[.pointer (some ⟨w.heap.size, 3, none⟩), .int .i64 2] 99)).drew := ⟨⟨⟨x0, 0, 0, 0⟩, .slice none 0 0, HT1.out.next (bn HBA.out 1)⟩, ⟨false, HO1.out.next (bn HBA.out 1)⟩, (HW1.out.trans (HBA.out.mono HW1.out.size)).drew, Nat.le_trans HW1.out.size HBA.out.size⟩
    refine Code.wp_mono (Q := fun e a w' => e = .panic [{ v := brk, recovered := false }] ∧ Key w.heap.size a ∧ Kw w.heap.size w w') (fun e a w' h => ?_) ?_
    · obtain ⟨rfl, hk, hw⟩ := h
      exact door w.heap.size a w w' rfl hk hw _ (fun e w' h => HBAD.out e w' (by have := HD1.out.2; omega) h)
    · refine wp_region_held (S := (fun w' => w'.cell? ⟨W1.heap.size, 0, none⟩ = some (.pointer (some ⟨w.heap.size, 3, none⟩)) ∧ w'.cell? ⟨W1.heap.size, 1, none⟩ = some (.int .i64 2))) (by kernel_rfl) ?_
      change wpAnyH _ _ _ _ _ _ _ _ (World.drew _)
      have hq : ∀ (o : Option Tmp) (v : Value), o ≠ some 2 → o ≠ some 3 → ∀ (c : List PanicEntry) (a : Act) (w' : World), (Exit.panic c = .panic [{ v := brk, recovered := false }] ∧ Key w.heap.size (a.put o v) ∧ Kw w.heap.size w w') → (Exit.panic c = .panic [{ v := brk, recovered := false }] ∧ Key w.heap.size a ∧ Kw w.heap.size w w') := fun o v h2 h3 c a w' h => ⟨h.1, h.2.1.unput h2 h3, h.2.2⟩
      refine wpAnyH_take (i := 0) (v := .pointer (some ⟨W1.heap.size, 0, none⟩)) rfl (by kernel_rfl) (by kernel_rfl) (by kernel_rfl) (hq _ _ (by simp) (by simp)) (Or.inl ⟨by rfl, fun w hw => by obtain ⟨e0, e1⟩ := hw; go_simp; try (with_reducible rfl)⟩) ⟨d0, d1⟩ ?_
      refine wpAnyH_take (i := 2) (v := .pointer (some ⟨w.heap.size + 2, 0, none⟩)) rfl (by kernel_rfl) (by kernel_rfl) (by kernel_rfl) (hq _ _ (by simp) (by simp)) (Or.inl ⟨by rfl, fun w hw => by obtain ⟨e0, e1⟩ := hw; go_simp; try (with_reducible rfl)⟩) ⟨d0, d1⟩ ?_
      refine wpAnyH_take (i := 3) (v := .pointer (some ⟨W1.heap.size, 1, none⟩)) rfl (by kernel_rfl) (by kernel_rfl) (by kernel_rfl) (hq _ _ (by simp) (by simp)) (Or.inl ⟨by rfl, fun w hw => by obtain ⟨e0, e1⟩ := hw; go_simp; try (with_reducible rfl)⟩) ⟨d0, d1⟩ ?_
      refine wpAnyH_take (i := 1) (v := .pointer (some ⟨w.heap.size, 3, none⟩)) rfl (by kernel_rfl) (by kernel_rfl) (by kernel_rfl) (hq _ _ (by simp) (by simp)) (Or.inl ⟨by rfl, fun w hw => by obtain ⟨e0, e1⟩ := hw; go_simp; try (with_reducible rfl)⟩) ⟨d0, d1⟩ ?_
      refine wpAnyH_take (i := 4) (v := .int .i64 2) rfl (by kernel_rfl) (by kernel_rfl) (by kernel_rfl) (hq _ _ (by simp) (by simp)) (Or.inl ⟨by rfl, fun w hw => by obtain ⟨e0, e1⟩ := hw; go_simp; try (with_reducible rfl)⟩) ⟨d0, d1⟩ ?_
      refine wpAnyH_all (rs := [5]) (by kernel_rfl) (by simp) ?_
      intro i hi
      rw [List.mem_singleton] at hi
      subst hi
      unfold wpOp
      go_simp
      refine Or.inl ?_
      go_at_call 60
      refine (get_bad (w.heap.size + 2) l1 2 _ hX1 hk1 (by omega)).mono ?_
      rintro en w3 ⟨rfl, hb3⟩
      refine ⟨rfl, ?_, ?_⟩
      · exact ⟨rfl, by rfl, by rfl⟩
      · obtain ⟨⟨t, d, k1⟩, ⟨q, k2⟩, k3, k4⟩ := hKW1
        exact ⟨⟨t, d, k1.next hb3⟩, ⟨q, k2.next hb3⟩, k3.trans (hb3.mono k4), Nat.le_trans k4 hb3.size⟩
  obtain ⟨x1, hx1⟩ : ∃ x1, numB (l1.take 2) = x1 := ⟨_, rfl⟩
  obtain ⟨l2, hl2⟩ : ∃ l2, l2 = l1.drop 2 := ⟨_, rfl⟩
  have hle2 : l2.length ≤ 200 := by rw [hl2, List.length_drop]; have := HN1.out; omega
  have HN2 := Lib.hid hle2; have HX1' := Lib.hid hx1; have HL2 := Lib.hid hl2
  have HD2 : RowKit.Hid (l2 = l.drop 5 ∧ l2.length + 5 = l.length) := Lib.hid ⟨by rw [hl2, HD1.out.1, List.drop_drop], by rw [hl2, List.length_drop]; have := HD1.out.2; omega⟩
  clear hle2 hx1 hl2
  have hX1 : Box (W1.alloc (.cells #[.pointer (some ⟨w.heap.size, 3, none⟩), .int .i64 2] 99)).drew (w.heap.size + 2) 97 [.string (bS l1)] := HX.out
  have hT1 := HT1.out.next HBA.out; have hO1 := HO1.out.next HBA.out
  have hD1 := HD.out
  go_region_held3 (fun w' => w'.cell? ⟨W1.heap.size, 0, none⟩ = some (.pointer (some ⟨w.heap.size, 3, none⟩)) ∧ w'.cell? ⟨W1.heap.size, 1, none⟩ = some (.int .i64 2))
    (first | exact ⟨d0, d1⟩ | exact HSS.out | exact HSV.out)
    (first
      | (go_at_call 60; refine (get_ok (w.heap.size + 2) l1 2 _ hX1 (by omega) (by omega) (by have := HN1.out; omega)).mono ?_; rintro en w3 ⟨rfl, hb3, hl3, hbut⟩; rw [HX1'.out]; rw [← HL2.out] at hb3
         have hT3 := hT1.of_block (hbut w.heap.size (by have := hT1.lt; exact this) (by omega)); have hO3 := hO1.of_block (hbut (w.heap.size + 1) (by have := hO1.lt; exact this) (by omega)); have hD3 := hD1.of_block (hbut _ hD1.lt (by have := HS1.out; omega))
         have c0 := hT3.cell 3; have z0 := hT3.froz 3; have e0 := hD3.cell 0; have e1 := hD3.cell 1; simp only [List.getElem?_cons_zero, List.getElem?_cons_succ] at c0 e0 e1
         have HSS := Lib.hid (And.intro e0 e1); have hDV := hD3.other w.heap.size 3 (.int .i64 x1) (by have := HS1.out; omega); have g0 := hDV.cell 0; have g1 := hDV.cell 1; simp only [List.getElem?_cons_zero, List.getElem?_cons_succ] at g0 g1; have HSV := Lib.hid (And.intro g0 g1); clear g0 g1 hDV)
      | fail)
  have hT4 := hT3.set 3 (.int .i64 x1)
  have hO4 := hO3.other w.heap.size 3 (.int .i64 x1) (by omega)
  have hB4 := hb3.other w.heap.size 3 (.int .i64 x1) (by omega)
  have hW4 := (((HW1.out.trans (HBA.out.mono HW1.out.size)).drew).trans (hl3.mono (by omega))).setCell (p := ⟨w.heap.size, 3, none⟩) (Nat.le_refl _) (.int .i64 x1)
  have hS4 : w.heap.size + 3 ≤ (w3.setCell ⟨w.heap.size, 3, none⟩ (.int .i64 x1)).heap.size := by
    have h5 := HS1.out; have h6 := HBA.out.size; have h7 := hl3.size
    have h8 : ((W1.alloc (.cells #[.pointer (some ⟨w.heap.size, 3, none⟩), .int .i64 2] 99)).drew).heap.size = (W1.alloc (.cells #[.pointer (some ⟨w.heap.size, 3, none⟩), .int .i64 2] 99)).heap.size := rfl
    rw [h8] at h7
    simp; omega
  clear HSS HSV hT3 hO3 hD3 hT1 hO1 hD1 hX1 hl3 hbut hb3 c0 z0 e0 e1 d0 d1 HX HBA HD hk1
  generalize w3.setCell ⟨w.heap.size, 3, none⟩ (.int .i64 x1) = W2 at *
  have HT2 := Lib.hid hT4; have HO2 := Lib.hid hO4; have HB2 := Lib.hid hB4; have HW2 := Lib.hid hW4; have HS2 := Lib.hid hS4
  clear hT4 hO4 hB4 hW4 hS4
  go_wp2_with fail
  rw [rounds_succ]
  have hD := Box.new W2 99 [.pointer (some ⟨w.heap.size, 1, none⟩), .int .i64 1]
  have hba := (br W2).alloc (Nat.le_refl _) (.cells #[.pointer (some ⟨w.heap.size, 1, none⟩), .int .i64 1] 99)
  have d0 := hD.cell 0; have d1 := hD.cell 1
  simp only [List.getElem?_cons_zero, List.getElem?_cons_succ] at d0 d1
  have hX := HB2.out.next hba
  have HX := Lib.hid hX; clear hX
  have HBA := Lib.hid hba; have HD := Lib.hid hD; clear hba hD
  go_wp2_with fail
  by_cases hk2 : l2.length < 1
  · have hX1 : Box (W2.alloc (.cells #[.pointer (some ⟨w.heap.size, 1, none⟩), .int .i64 1] 99)).drew (w.heap.size + 2) 97 [.string (bS l2)] := HX.out
    have hKW1 : Kw w.heap.size w (W2.alloc (.cells #[.pointer (some ⟨w.heap.size, 1, none⟩), .int .i64 1] 99)).drew := ⟨⟨⟨x0, 0, 0, x1⟩, .slice none 0 0, HT2.out.next (bn HBA.out 1)⟩, ⟨false, HO2.out.next (bn HBA.out 1)⟩, (HW2.out.trans (HBA.out.mono HW2.out.size)).drew, Nat.le_trans HW2.out.size HBA.out.size⟩
    refine Code.wp_mono (Q := fun e a w' => e = .panic [{ v := brk, recovered := false }] ∧ Key w.heap.size a ∧ Kw w.heap.size w w') (fun e a w' h => ?_) ?_
    · obtain ⟨rfl, hk, hw⟩ := h
      exact door w.heap.size a w w' rfl hk hw _ (fun e w' h => HBAD.out e w' (by have := HD2.out.2; omega) h)
    · refine wp_region_held (S := (fun w' => w'.cell? ⟨W2.heap.size, 0, none⟩ = some (.pointer (some ⟨w.heap.size, 1, none⟩)) ∧ w'.cell? ⟨W2.heap.size, 1, none⟩ = some (.int .i64 1))) (by kernel_rfl) ?_
      change wpAnyH _ _ _ _ _ _ _ _ (World.drew _)
      have hq : ∀ (o : Option Tmp) (v : Value), o ≠ some 2 → o ≠ some 3 → ∀ (c : List PanicEntry) (a : Act) (w' : World), (Exit.panic c = .panic [{ v := brk, recovered := false }] ∧ Key w.heap.size (a.put o v) ∧ Kw w.heap.size w w') → (Exit.panic c = .panic [{ v := brk, recovered := false }] ∧ Key w.heap.size a ∧ Kw w.heap.size w w') := fun o v h2 h3 c a w' h => ⟨h.1, h.2.1.unput h2 h3, h.2.2⟩
      refine wpAnyH_take (i := 0) (v := .pointer (some ⟨W2.heap.size, 0, none⟩)) rfl (by kernel_rfl) (by kernel_rfl) (by kernel_rfl) (hq _ _ (by simp) (by simp)) (Or.inl ⟨by rfl, fun w hw => by obtain ⟨e0, e1⟩ := hw; go_simp; try (with_reducible rfl)⟩) ⟨d0, d1⟩ ?_
      refine wpAnyH_take (i := 2) (v := .pointer (some ⟨w.heap.size + 2, 0, none⟩)) rfl (by kernel_rfl) (by kernel_rfl) (by kernel_rfl) (hq _ _ (by simp) (by simp)) (Or.inl ⟨by rfl, fun w hw => by obtain ⟨e0, e1⟩ := hw; go_simp; try (with_reducible rfl)⟩) ⟨d0, d1⟩ ?_
      refine wpAnyH_take (i := 3) (v := .pointer (some ⟨W2.heap.size, 1, none⟩)) rfl (by kernel_rfl) (by kernel_rfl) (by kernel_rfl) (hq _ _ (by simp) (by simp)) (Or.inl ⟨by rfl, fun w hw => by obtain ⟨e0, e1⟩ := hw; go_simp; try (with_reducible rfl)⟩) ⟨d0, d1⟩ ?_
      refine wpAnyH_take (i := 1) (v := .pointer (some ⟨w.heap.size, 1, none⟩)) rfl (by kernel_rfl) (by kernel_rfl) (by kernel_rfl) (hq _ _ (by simp) (by simp)) (Or.inl ⟨by rfl, fun w hw => by obtain ⟨e0, e1⟩ := hw; go_simp; try (with_reducible rfl)⟩) ⟨d0, d1⟩ ?_
      refine wpAnyH_take (i := 4) (v := .int .i64 1) rfl (by kernel_rfl) (by kernel_rfl) (by kernel_rfl) (hq _ _ (by simp) (by simp)) (Or.inl ⟨by rfl, fun w hw => by obtain ⟨e0, e1⟩ := hw; go_simp; try (with_reducible rfl)⟩) ⟨d0, d1⟩ ?_
      refine wpAnyH_all (rs := [5]) (by kernel_rfl) (by simp) ?_
      intro i hi
      rw [List.mem_singleton] at hi
      subst hi
      unfold wpOp
      go_simp
      refine Or.inl ?_
      go_at_call 60
      refine (get_bad (w.heap.size + 2) l2 1 _ hX1 hk2 (by omega)).mono ?_
      rintro en w3 ⟨rfl, hb3⟩
      refine ⟨rfl, ?_, ?_⟩
      · exact ⟨rfl, by rfl, by rfl⟩
      · obtain ⟨⟨t, d, k1⟩, ⟨q, k2⟩, k3, k4⟩ := hKW1
        exact ⟨⟨t, d, k1.next hb3⟩, ⟨q, k2.next hb3⟩, k3.trans (hb3.mono k4), Nat.le_trans k4 hb3.size⟩
  obtain ⟨x2, hx2⟩ : ∃ x2, numB (l2.take 1) = x2 := ⟨_, rfl⟩
  obtain ⟨l3, hl3⟩ : ∃ l3, l3 = l2.drop 1 := ⟨_, rfl⟩
  have hle3 : l3.length ≤ 200 := by rw [hl3, List.length_drop]; have := HN2.out; omega
  have HN3 := Lib.hid hle3; have HX2' := Lib.hid hx2; have HL3 := Lib.hid hl3
  have HD3 : RowKit.Hid (l3 = l.drop 6 ∧ l3.length + 6 = l.length) := Lib.hid ⟨by rw [hl3, HD2.out.1, List.drop_drop], by rw [hl3, List.length_drop]; have := HD2.out.2; omega⟩
  clear hle3 hx2 hl3
  have hX1 : Box (W2.alloc (.cells #[.pointer (some ⟨w.heap.size, 1, none⟩), .int .i64 1] 99)).drew (w.heap.size + 2) 97 [.string (bS l2)] := HX.out
  have hT1 := HT2.out.next HBA.out; have hO1 := HO2.out.next HBA.out
  have hD1 := HD.out
  go_region_held3 (fun w' => w'.cell? ⟨W2.heap.size, 0, none⟩ = some (.pointer (some ⟨w.heap.size, 1, none⟩)) ∧ w'.cell? ⟨W2.heap.size, 1, none⟩ = some (.int .i64 1))
    (first | exact ⟨d0, d1⟩ | exact HSS.out | exact HSV.out)
    (first
      | (go_at_call 60; refine (get_ok (w.heap.size + 2) l2 1 _ hX1 (by omega) (by omega) (by have := HN2.out; omega)).mono ?_; rintro en w3 ⟨rfl, hb3, hl3, hbut⟩; rw [HX2'.out]; rw [← HL3.out] at hb3
         have hT3 := hT1.of_block (hbut w.heap.size (by have := hT1.lt; exact this) (by omega)); have hO3 := hO1.of_block (hbut (w.heap.size + 1) (by have := hO1.lt; exact this) (by omega)); have hD3 := hD1.of_block (hbut _ hD1.lt (by have := HS2.out; omega))
         have c0 := hT3.cell 1; have z0 := hT3.froz 1; have e0 := hD3.cell 0; have e1 := hD3.cell 1; simp only [List.getElem?_cons_zero, List.getElem?_cons_succ] at c0 e0 e1
         have HSS := Lib.hid (And.intro e0 e1); have hDV := hD3.other w.heap.size 1 (.int .i64 x2) (by have := HS2.out; omega); have g0 := hDV.cell 0; have g1 := hDV.cell 1; simp only [List.getElem?_cons_zero, List.getElem?_cons_succ] at g0 g1; have HSV := Lib.hid (And.intro g0 g1); clear g0 g1 hDV)
      | fail)
  have hT4 := hT3.set 1 (.int .i64 x2)
  have hO4 := hO3.other w.heap.size 1 (.int .i64 x2) (by omega)
  have hB4 := hb3.other w.heap.size 1 (.int .i64 x2) (by omega)
  have hW4 := (((HW2.out.trans (HBA.out.mono HW2.out.size)).drew).trans (hl3.mono (by omega))).setCell (p := ⟨w.heap.size, 1, none⟩) (Nat.le_refl _) (.int .i64 x2)
  have hS4 : w.heap.size + 3 ≤ (w3.setCell ⟨w.heap.size, 1, none⟩ (.int .i64 x2)).heap.size := by
    have h5 := HS2.out; have h6 := HBA.out.size; have h7 := hl3.size
    have h8 : ((W2.alloc (.cells #[.pointer (some ⟨w.heap.size, 1, none⟩), .int .i64 1] 99)).drew).heap.size = (W2.alloc (.cells #[.pointer (some ⟨w.heap.size, 1, none⟩), .int .i64 1] 99)).heap.size := rfl
    rw [h8] at h7
    simp; omega
  clear HSS HSV hT3 hO3 hD3 hT1 hO1 hD1 hX1 hl3 hbut hb3 c0 z0 e0 e1 d0 d1 HX HBA HD hk2
  generalize w3.setCell ⟨w.heap.size, 1, none⟩ (.int .i64 x2) = W3 at *
  have HT3 := Lib.hid hT4; have HO3 := Lib.hid hO4; have HB3 := Lib.hid hB4; have HW3 := Lib.hid hW4; have HS3 := Lib.hid hS4
  clear hT4 hO4 hB4 hW4 hS4
  go_wp2_with fail
  rw [rounds_succ]
  have hD := Box.new W3 99 [.pointer (some ⟨w.heap.size, 2, none⟩), .int .i64 1]
  have hba := (br W3).alloc (Nat.le_refl _) (.cells #[.pointer (some ⟨w.heap.size, 2, none⟩), .int .i64 1] 99)
  have d0 := hD.cell 0; have d1 := hD.cell 1
  simp only [List.getElem?_cons_zero, List.getElem?_cons_succ] at d0 d1
  have hX := HB3.out.next hba
  have HX := Lib.hid hX; clear hX
  have HBA := Lib.hid hba; have HD := Lib.hid hD; clear hba hD
  go_wp2_with fail
  by_cases hk3 : l3.length < 1
  · have hX1 : Box (W3.alloc (.cells #[.pointer (some ⟨w.heap.size, 2, none⟩), .int .i64 1] 99)).drew (w.heap.size + 2) 97 [.string (bS l3)] := HX.out
    have hKW1 : Kw w.heap.size w (W3.alloc (.cells #[.pointer (some ⟨w.heap.size, 2, none⟩), .int .i64 1] 99)).drew := ⟨⟨⟨x0, x2, 0, x1⟩, .slice none 0 0, HT3.out.next (bn HBA.out 1)⟩, ⟨false, HO3.out.next (bn HBA.out 1)⟩, (HW3.out.trans (HBA.out.mono HW3.out.size)).drew, Nat.le_trans HW3.out.size HBA.out.size⟩
    refine Code.wp_mono (Q := fun e a w' => e = .panic [{ v := brk, recovered := false }] ∧ Key w.heap.size a ∧ Kw w.heap.size w w') (fun e a w' h => ?_) ?_
    · obtain ⟨rfl, hk, hw⟩ := h
      exact door w.heap.size a w w' rfl hk hw _ (fun e w' h => HBAD.out e w' (by have := HD3.out.2; omega) h)
    · refine wp_region_held (S := (fun w' => w'.cell? ⟨W3.heap.size, 0, none⟩ = some (.pointer (some ⟨w.heap.size, 2, none⟩)) ∧ w'.cell? ⟨W3.heap.size, 1, none⟩ = some (.int .i64 1))) (by kernel_rfl) ?_
      change wpAnyH _ _ _ _ _ _ _ _ (World.drew _)
      have hq : ∀ (o : Option Tmp) (v : Value), o ≠ some 2 → o ≠ some 3 → ∀ (c : List PanicEntry) (a : Act) (w' : World), (Exit.panic c = .panic [{ v := brk, recovered := false }] ∧ Key w.heap.size (a.put o v) ∧ Kw w.heap.size w w') → (Exit.panic c = .panic [{ v := brk, recovered := false }] ∧ Key w.heap.size a ∧ Kw w.heap.size w w') := fun o v h2 h3 c a w' h => ⟨h.1, h.2.1.unput h2 h3, h.2.2⟩
      refine wpAnyH_take (i := 0) (v := .pointer (some ⟨W3.heap.size, 0, none⟩)) rfl (by kernel_rfl) (by kernel_rfl) (by kernel_rfl) (hq _ _ (by simp) (by simp)) (Or.inl ⟨by rfl, fun w hw => by obtain ⟨e0, e1⟩ := hw; go_simp; try (with_reducible rfl)⟩) ⟨d0, d1⟩ ?_
      refine wpAnyH_take (i := 2) (v := .pointer (some ⟨w.heap.size + 2, 0, none⟩)) rfl (by kernel_rfl) (by kernel_rfl) (by kernel_rfl) (hq _ _ (by simp) (by simp)) (Or.inl ⟨by rfl, fun w hw => by obtain ⟨e0, e1⟩ := hw; go_simp; try (with_reducible rfl)⟩) ⟨d0, d1⟩ ?_
      refine wpAnyH_take (i := 3) (v := .pointer (some ⟨W3.heap.size, 1, none⟩)) rfl (by kernel_rfl) (by kernel_rfl) (by kernel_rfl) (hq _ _ (by simp) (by simp)) (Or.inl ⟨by rfl, fun w hw => by obtain ⟨e0, e1⟩ := hw; go_simp; try (with_reducible rfl)⟩) ⟨d0, d1⟩ ?_
      refine wpAnyH_take (i := 1) (v := .pointer (some ⟨w.heap.size, 2, none⟩)) rfl (by kernel_rfl) (by kernel_rfl) (by kernel_rfl) (hq _ _ (by simp) (by simp)) (Or.inl ⟨by rfl, fun w hw => by obtain ⟨e0, e1⟩ := hw; go_simp; try (with_reducible rfl)⟩) ⟨d0, d1⟩ ?_
      refine wpAnyH_take (i := 4) (v := .int .i64 1) rfl (by kernel_rfl) (by kernel_rfl) (by kernel_rfl) (hq _ _ (by simp) (by simp)) (Or.inl ⟨by rfl, fun w hw => by obtain ⟨e0, e1⟩ := hw; go_simp; try (with_reducible rfl)⟩) ⟨d0, d1⟩ ?_
      refine wpAnyH_all (rs := [5]) (by kernel_rfl) (by simp) ?_
      intro i hi
      rw [List.mem_singleton] at hi
      subst hi
      unfold wpOp
      go_simp
      refine Or.inl ?_
      go_at_call 60
      refine (get_bad (w.heap.size + 2) l3 1 _ hX1 hk3 (by omega)).mono ?_
      rintro en w3 ⟨rfl, hb3⟩
      refine ⟨rfl, ?_, ?_⟩
      · exact ⟨rfl, by rfl, by rfl⟩
      · obtain ⟨⟨t, d, k1⟩, ⟨q, k2⟩, k3, k4⟩ := hKW1
        exact ⟨⟨t, d, k1.next hb3⟩, ⟨q, k2.next hb3⟩, k3.trans (hb3.mono k4), Nat.le_trans k4 hb3.size⟩
  obtain ⟨x3, hx3⟩ : ∃ x3, numB (l3.take 1) = x3 := ⟨_, rfl⟩
  obtain ⟨l4, hl4⟩ : ∃ l4, l4 = l3.drop 1 := ⟨_, rfl⟩
  have hle4 : l4.length ≤ 200 := by rw [hl4, List.length_drop]; have := HN3.out; omega
  have HN4 := Lib.hid hle4; have HX3' := Lib.hid hx3; have HL4 := Lib.hid hl4
  have HD4 : RowKit.Hid (l4 = l.drop 7 ∧ l4.length + 7 = l.length) := Lib.hid ⟨by rw [hl4, HD3.out.1, List.drop_drop], by rw [hl4, List.length_drop]; have := HD3.out.2; omega⟩
  clear hle4 hx3 hl4
  have hX1 : Box (W3.alloc (.cells #[.pointer (some ⟨w.heap.size, 2, none⟩), .int .i64 1] 99)).drew (w.heap.size + 2) 97 [.string (bS l3)] := HX.out
  have hT1 := HT3.out.next HBA.out; have hO1 := HO3.out.next HBA.out
  have hD1 := HD.out
  go_region_held3 (fun w' => w'.cell? ⟨W3.heap.size, 0, none⟩ = some (.pointer (some ⟨w.heap.size, 2, none⟩)) ∧ w'.cell? ⟨W3.heap.size, 1, none⟩ = some (.int .i64 1))
    (first | exact ⟨d0, d1⟩ | exact HSS.out | exact HSV.out)
    (first
      | (go_at_call 60; refine (get_ok (w.heap.size + 2) l3 1 _ hX1 (by omega) (by omega) (by have := HN3.out; omega)).mono ?_; rintro en w3 ⟨rfl, hb3, hl3, hbut⟩; rw [HX3'.out]; rw [← HL4.out] at hb3
         have hT3 := hT1.of_block (hbut w.heap.size (by have := hT1.lt; exact this) (by omega)); have hO3 := hO1.of_block (hbut (w.heap.size + 1) (by have := hO1.lt; exact this) (by omega)); have hD3 := hD1.of_block (hbut _ hD1.lt (by have := HS3.out; omega))
         have c0 := hT3.cell 2; have z0 := hT3.froz 2; have e0 := hD3.cell 0; have e1 := hD3.cell 1; simp only [List.getElem?_cons_zero, List.getElem?_cons_succ] at c0 e0 e1
         have HSS := Lib.hid (And.intro e0 e1); have hDV := hD3.other w.heap.size 2 (.int .i64 x3) (by have := HS3.out; omega); have g0 := hDV.cell 0; have g1 := hDV.cell 1; simp only [List.getElem?_cons_zero, List.getElem?_cons_succ] at g0 g1; have HSV := Lib.hid (And.intro g0 g1); clear g0 g1 hDV)
      | fail)
  have hT4 := hT3.set 2 (.int .i64 x3)
  have hO4 := hO3.other w.heap.size 2 (.int .i64 x3) (by omega)
  have hB4 := hb3.other w.heap.size 2 (.int .i64 x3) (by omega)
  have hW4 := (((HW3.out.trans (HBA.out.mono HW3.out.size)).drew).trans (hl3.mono (by omega))).setCell (p := ⟨w.heap.size, 2, none⟩) (Nat.le_refl _) (.int .i64 x3)
  have hS4 : w.heap.size + 3 ≤ (w3.setCell ⟨w.heap.size, 2, none⟩ (.int .i64 x3)).heap.size := by
    have h5 := HS3.out; have h6 := HBA.out.size; have h7 := hl3.size
    have h8 : ((W3.alloc (.cells #[.pointer (some ⟨w.heap.size, 2, none⟩), .int .i64 1] 99)).drew).heap.size = (W3.alloc (.cells #[.pointer (some ⟨w.heap.size, 2, none⟩), .int .i64 1] 99)).heap.size := rfl
    rw [h8] at h7
    simp; omega
  clear HSS HSV hT3 hO3 hD3 hT1 hO1 hD1 hX1 hl3 hbut hb3 c0 z0 e0 e1 d0 d1 HX HBA HD hk3
  generalize w3.setCell ⟨w.heap.size, 2, none⟩ (.int .i64 x3) = W4 at *
  have HT4 := Lib.hid hT4; have HO4 := Lib.hid hO4; have HB4 := Lib.hid hB4; have HW4 := Lib.hid hW4; have HS4 := Lib.hid hS4
  clear hT4 hO4 hB4 hW4 hS4
  go_wp2_with fail
  rw [rounds_succ]
  go_wp2_with fail
  by_cases hk4 : l4.length < 1
  · refine (get_bad (w.heap.size + 2) l4 1 _ HB4.out hk4 (by omega)).mono ?_
    rintro en w5 ⟨rfl, hb5⟩
    have hKW1 : Kw w.heap.size w w5 := ⟨⟨⟨x0, x2, x3, x1⟩, .slice none 0 0, HT4.out.next hb5⟩, ⟨false, HO4.out.next hb5⟩, HW4.out.trans (hb5.mono HW4.out.size), Nat.le_trans HW4.out.size hb5.size⟩
    refine door w.heap.size _ w w5 rfl ?_ hKW1 _ (fun e w' h => HBAD.out e w' (by have := HD4.out.2; omega) h)
    exact ⟨rfl, by rfl, by rfl⟩
  obtain ⟨x4, hx4⟩ : ∃ x4, numB (l4.take 1) = x4 := ⟨_, rfl⟩
  obtain ⟨l5, hl5⟩ : ∃ l5, l5 = l4.drop 1 := ⟨_, rfl⟩
  have hN : hdN l = x4 := by unfold hdN; rw [← HD4.out.1]; exact hx4
  have HD5 : RowKit.Hid (l5 = l.drop 8 ∧ l5.length + 8 = l.length) := Lib.hid ⟨by rw [hl5, HD4.out.1, List.drop_drop], by rw [hl5, List.length_drop]; have := HD4.out.2; omega⟩
  have HTT : RowKit.Hid (tokT l = ⟨x0, x2, x3, x1⟩) := Lib.hid (by unfold tokT; rw [← HX0'.out, ← HX1'.out, ← HX2'.out, ← HX3'.out, HL0.out, HD1.out.1, HD2.out.1, HD3.out.1])
  have HTS : RowKit.Hid (tokS l = spsOf x4 l5) := Lib.hid (by unfold tokS; rw [hN, ← HD5.out.1])
  have HNN := Lib.hid hN; clear hN
  have hle5 : l5.length ≤ 200 := by rw [hl5, List.length_drop]; have := HN4.out; omega
  have hx4b : x4 < 256 := by have := numB_lt l4 1 (by omega); rw [hx4] at this; exact this
  refine (get_ok (w.heap.size + 2) l4 1 _ HB4.out (by omega) (by omega) (by have := HN4.out; omega)).mono ?_
  rintro en W5 ⟨rfl, hB5, hl5', hbut⟩
  rw [hx4]
  rw [← hl5] at hB5
  have hT5 := HT4.out.of_block (hbut w.heap.size (by have := HT4.out.lt; exact this) (by omega)); have hO5 := HO4.out.of_block (hbut (w.heap.size + 1) (by have := HO4.out.lt; exact this) (by omega))
  have hW5 := HW4.out.trans (hl5'.mono (by omega))
  have hS5 := Nat.le_trans HS4.out hl5'.size
  have HN5 := Lib.hid hle5; have HX4' := Lib.hid hx4; have HL5 := Lib.hid hl5
  have HT5 := Lib.hid hT5; have HO5 := Lib.hid hO5; have HB5 := Lib.hid hB5; have HW5 := Lib.hid hW5; have HS5 := Lib.hid hS5
  clear hle5 hx4 hl5 hT5 hO5 hB5 hW5 hS5 hl5' hbut hk4 HT0 HT1 HT2 HT3 HT4 HO0 HO1 HO2 HO3 HO4 HB0 HB1 HB2 HB3 HB4 HW0 HW1 HW2 HW3 HW4 HS0 HS1 HS2 HS3 HS4 i0 i1 i2 i3
  go_wp2_with fail
  go_loopw [34] (fun i wr => ∃ (j : Nat) (u : Value), j ≤ x4 ∧ 6 * j ≤ l5.length ∧ i = .int .i64 j ∧ Box wr w.heap.size 30 [.int .i64 x0, .int .i64 x2, .int .i64 x3, .int .i64 x1, u] ∧ Box wr (w.heap.size + 1) 4 [.bool false] ∧ Box wr (w.heap.size + 2) 97 [.string (bS (l5.drop (6 * j)))] ∧ ROwn elS wr (w.heap.size + 3) u (spsOf j l5) ∧ Below w.heap.size w wr ∧ w.heap.size + 3 ≤ wr.heap.size) (fun i _ => x4 - (intOf i).toNat)
  case atStart => exact ⟨0, .slice none 0 0, Nat.zero_le _, Nat.zero_le _, rfl, HT5.out, HO5.out, HB5.out, ROwn.nil _ _, HW5.out, HS5.out⟩
  case round =>
    obtain ⟨j, u, hj, hj6, rfl, hT, hO, hB, hown, hW, hS⟩ := hrel
    clear HT5 HO5 HB5 HW5 HS5
    by_cases hjt : j < x4
    · have i1 : (j : Int) < (x4 : Int) := by omega
      obtain ⟨y, hy⟩ : ∃ y, y = l5.drop (6 * j) := ⟨_, rfl⟩
      have hyl : y.length ≤ 200 := by rw [hy, List.length_drop]; have := HN5.out; omega
      rw [← hy] at hB
      have HYZ : RowKit.Hid (y.length + 6 * j = l5.length) := Lib.hid (by rw [hy, List.length_drop]; omega)
      have HT := Lib.hid hT; have HO := Lib.hid hO; have HB := Lib.hid hB; have HOW := Lib.hid hown; have HW := Lib.hid hW; have HS := Lib.hid hS
      clear hT hO hB hown hW hS
      go_wp2_with fail
      by_cases ha : y.length < 3
      · refine (get_bad (w.heap.size + 2) y 3 _ HB.out ha (by omega)).mono ?_
        rintro en w6 ⟨rfl, hb6⟩
        have hKW1 : Kw w.heap.size w w6 := ⟨⟨⟨x0, x2, x3, x1⟩, u, HT.out.next hb6⟩, ⟨false, HO.out.next hb6⟩, HW.out.trans (hb6.mono HW.out.size), Nat.le_trans HW.out.size hb6.size⟩
        refine door w.heap.size _ w w6 rfl ?_ hKW1 _ (fun e w' h => HBAD.out e w' (by have h1 := HD5.out.2; have h2 := HNN.out; have h3 := HYZ.out; omega) h)
        exact ⟨rfl, by rfl, by rfl⟩
      obtain ⟨pp, hpp⟩ : ∃ pp, numB (y.take 3) = pp := ⟨_, rfl⟩
      obtain ⟨y3, hy3⟩ : ∃ y3, y3 = y.drop 3 := ⟨_, rfl⟩
      refine (get_ok (w.heap.size + 2) y 3 _ HB.out (by omega) (by omega) (by omega)).mono ?_
      rintro en W6 ⟨rfl, hB6, hl6, hbut⟩
      rw [hpp]
      rw [← hy3] at hB6
      have hT6 := HT.out.of_block (hbut w.heap.size (by have := HT.out.lt; exact this) (by omega)); have hO6 := HO.out.of_block (hbut (w.heap.size + 1) (by have := HO.out.lt; exact this) (by omega))
      have hW6 := HW.out.trans (hl6.mono (by omega))
      have hS6 := Nat.le_trans HS.out hl6.size
      have hown6 := own_but HOW.out hbut (by omega)
      have hy3l : y3.length ≤ 200 := by rw [hy3, List.length_drop]; omega
      have hy3z : y3.length + 3 = y.length := by rw [hy3, List.length_drop]; omega
      have hy3y : y3 = l5.drop (6 * j + 3) := by rw [hy3, hy, List.drop_drop]
      have HY := Lib.hid hy; have HP := Lib.hid hpp; have HYY := Lib.hid hy3y
      have HT6 := Lib.hid hT6; have HO6 := Lib.hid hO6; have HB6 := Lib.hid hB6; have HW6 := Lib.hid hW6; have HS6 := Lib.hid hS6; have HOW6 := Lib.hid hown6
      clear hy hpp hy3y hT6 hO6 hB6 hW6 hS6 hown6 HT HO HB HW HS HOW hl6 hbut
      have c4 := HT6.out.cell 4
      simp only [List.getElem?_cons_zero, List.getElem?_cons_succ] at c4
      go_wp2_with fail
      by_cases hb : y3.length < 3
      · have hX1 : Box W6.drew (w.heap.size + 2) 97 [.string (bS y3)] := HB6.out
        have hKW1 : Kw w.heap.size w W6.drew := ⟨⟨⟨x0, x2, x3, x1⟩, u, HT6.out⟩, ⟨false, HO6.out⟩, HW6.out.drew, HW6.out.size⟩
        refine Code.wp_mono (Q := fun e a w' => e = .panic [{ v := brk, recovered := false }] ∧ Key w.heap.size a ∧ Kw w.heap.size w w') (fun e a w' h => ?_) ?_
        · obtain ⟨rfl, hk, hw⟩ := h
          exact door w.heap.size a w w' rfl hk hw _ (fun e w' h => HBAD.out e w' (by have h1 := HD5.out.2; have h2 := HNN.out; have h3 := HYZ.out; have h4 := hy3z; omega) h)
        · refine wp_region_held (S := fun w' => w'.cell? ⟨w.heap.size, 4, none⟩ = some u) (by kernel_rfl) ?_
          change wpAnyH _ _ _ _ _ _ _ _ (World.drew _)
          have hq : ∀ (o : Option Tmp) (v : Value), o ≠ some 2 → o ≠ some 3 → ∀ (c : List PanicEntry) (a : Act) (w' : World), (Exit.panic c = .panic [{ v := brk, recovered := false }] ∧ Key w.heap.size (a.put o v) ∧ Kw w.heap.size w w') → (Exit.panic c = .panic [{ v := brk, recovered := false }] ∧ Key w.heap.size a ∧ Kw w.heap.size w w') := fun o v h2 h3 c a w' h => ⟨h.1, h.2.1.unput h2 h3, h.2.2⟩
          refine wpAnyH_take (i := 0) (v := .pointer (some ⟨w.heap.size, 4, none⟩)) rfl (by kernel_rfl) (by kernel_rfl) (by kernel_rfl) (hq _ _ (by simp) (by simp)) (Or.inl ⟨by rfl, fun w hw => by go_simp; try (with_reducible rfl)⟩) c4 ?_
          refine wpAnyH_take (i := 2) (v := .int .i64 pp) rfl (by kernel_rfl) (by kernel_rfl) (by kernel_rfl) (hq _ _ (by simp) (by simp)) (Or.inl ⟨by rfl, fun w hw => by go_simp; try (with_reducible rfl)⟩) c4 ?_
          refine wpAnyH_take (i := 3) (v := .pointer (some ⟨w.heap.size + 2, 0, none⟩)) rfl (by kernel_rfl) (by kernel_rfl) (by kernel_rfl) (hq _ _ (by simp) (by simp)) (Or.inl ⟨by rfl, fun w hw => by go_simp; try (with_reducible rfl)⟩) c4 ?_
          refine wpAnyH_take (i := 1) (v := u) rfl (by kernel_rfl) (by kernel_rfl) (by kernel_rfl) (hq _ _ (by simp) (by simp)) (Or.inl ⟨by rfl, fun w hw => by go_simp; try (with_reducible rfl)⟩) c4 ?_
          refine wpAnyH_all (rs := [4]) (by kernel_rfl) (by simp) ?_
          intro i hi
          rw [List.mem_singleton] at hi
          subst hi
          unfold wpOp
          go_simp
          refine Or.inl ?_
          go_at_call 60
          refine (get_bad (w.heap.size + 2) y3 3 _ hX1 hb (by omega)).mono ?_
          rintro en w3 ⟨rfl, hb3⟩
          refine ⟨rfl, ?_, ?_⟩
          · exact ⟨rfl, by rfl, by rfl⟩
          · obtain ⟨⟨t, d, k1⟩, ⟨q, k2⟩, k3, k4⟩ := hKW1
            exact ⟨⟨t, d, k1.next hb3⟩, ⟨q, k2.next hb3⟩, k3.trans (hb3.mono k4), Nat.le_trans k4 hb3.size⟩
      obtain ⟨qq, hqq⟩ : ∃ qq, numB (y3.take 3) = qq := ⟨_, rfl⟩
      obtain ⟨y6, hy6⟩ : ∃ y6, y6 = y3.drop 3 := ⟨_, rfl⟩
      have hy6l : y3.length = y6.length + 3 := by rw [hy6, List.length_drop]; omega
      have hy6y : y6 = l5.drop (6 * (j + 1)) := by rw [hy6, HYY.out, List.drop_drop]; congr 1
      have hspl : spsOf (j + 1) l5 = spsOf j l5 ++ [((pp : Int), (qq : Int))] := by
        show spsOf j l5 ++ _ = _
        rw [← HY.out, ← HYY.out, HP.out, hqq]
      have h6j : 6 * (j + 1) ≤ l5.length := by
        have h := congrArg List.length HYY.out
        rw [List.length_drop] at h; omega
      have hsl : (spsOf j l5).length = j := spsOf_len j l5
      have hj40 : j ≤ 40 := by have := HN5.out; omega
      have HQQ := Lib.hid hqq; have HY6 := Lib.hid hy6; have HY6L := Lib.hid hy6l; have HY6Y := Lib.hid hy6y; have HSPL := Lib.hid hspl; have H6J := Lib.hid h6j; have HSL := Lib.hid hsl
      clear hqq hy6 hy6l hy6y hspl h6j hsl
      have hX1 : Box W6.drew (w.heap.size + 2) 97 [.string (bS y3)] := HB6.out
      have hT7 : Box W6.drew w.heap.size 30 [.int .i64 x0, .int .i64 x2, .int .i64 x3, .int .i64 x1, u] := HT6.out
      have hO7 : Box W6.drew (w.heap.size + 1) 4 [.bool false] := HO6.out
      have hOw7 : ROwn elS W6.drew (w.heap.size + 3) u (spsOf j l5) := HOW6.out
      have HX1 := Lib.hid hX1; have HT7 := Lib.hid hT7; have HO7 := Lib.hid hO7; have HOW7 := Lib.hid hOw7
      clear hX1 hT7 hO7 hOw7
      refine wp_np ?_
      go_region_law
        (first
          | (go_simp; go_at_call 60; refine (get_ok (w.heap.size + 2) y3 3 _ HX1.out (by omega) (by omega) (by omega)).mono ?_; rintro en w7 ⟨rfl, hb7, hl7, hbut7⟩; rw [HQQ.out]; rw [← HY6.out] at hb7
             have HT8 := Lib.hid (HT7.out.of_block (hbut7 w.heap.size (by have := HT7.out.lt; exact this) (by omega))); have HO8 := Lib.hid (HO7.out.of_block (hbut7 (w.heap.size + 1) (by have := HO7.out.lt; exact this) (by omega)))
             have HB8 := Lib.hid hb7; have HL8 := Lib.hid hl7; have HOW8 := Lib.hid (own_but HOW7.out hbut7 (by omega)); have c8 := HT8.out.cell 4; simp only [List.getElem?_cons_zero, List.getElem?_cons_succ] at c8; clear hb7 hl7 hbut7
             have HA8 := Lib.hid ((br w7).alloc (Nat.le_refl _) (.cells #[.int .i64 (pp : Int), .int .i64 (qq : Int)] 67))
             have c8a := (HT8.out.next HA8.out).cell 4; simp only [List.getElem?_cons_zero, List.getElem?_cons_succ] at c8a
             have HO2 := Lib.hid (HOW8.out.next HA8.out); have HL2 := Lib.hid (rd_lit elS [((pp : Int), (qq : Int))] w7 67 (0, 0) w7.heap.size rfl (by simp [maxLen])))
          | (refine stepE_app elS (by rfl) (.tmp 39) (.tmp 44) (by rfl) (w.heap.size + 3) u (spsOf j l5) (by rfl) HO2.out _ [((pp : Int), (qq : Int))] (by rfl) HL2.out (by rw [HSL.out]; show j + 1 ≤ _; unfold maxLen; omega) (by rw [HSL.out]; show (j + 1) * 16 ≤ _; omega) (by have h1 := HS6.out; have h2 := HL8.out.size; have h3 : W6.drew.heap.size = W6.heap.size := rfl; rw [h3] at h2; simp; omega) ?_; intro v9 w9 hown9 hb9 hfar9; have hsh := shapeE hown9; rw [show (spsOf j l5 ++ [((pp : Int), (qq : Int))]).length = j + 1 by rw [List.length_append, HSL.out]; rfl] at hsh; obtain ⟨a9, k9, rfl⟩ := hsh
             have hT9 := (HT8.out.next HA8.out).of_block (hb9.block w.heap.size (by omega)); have c9 := hT9.cell 4; have z9 := hT9.froz 4; simp only [List.getElem?_cons_zero, List.getElem?_cons_succ] at c9; have HT9 := Lib.hid hT9; have HOW9 := Lib.hid hown9; have HL9 := Lib.hid hb9; clear hT9 hown9 hb9 hfar9)
          | fail)
      all_goals
        refine np_normal ?_
        have hTn := HT9.out.set 4 (.slice a9 (j + 1) k9)
        have hOn := ((HO8.out.next HA8.out).of_block (HL9.out.block (w.heap.size + 1) (by omega))).other w.heap.size 4 (.slice a9 (j + 1) k9) (by omega)
        have hBn := ((HB8.out.next HA8.out).of_block (HL9.out.block (w.heap.size + 2) (by omega))).other w.heap.size 4 (.slice a9 (j + 1) k9) (by omega)
        have hOwn := setE (j := 4) (u := .slice a9 (j + 1) k9) HOW9.out (b := w.heap.size) (fun e => by have := (HOW9.out.lt _ e).1; omega)
        have h1 := HS6.out
        have h2 := HL8.out.size
        have h3 : W6.drew.heap.size = W6.heap.size := rfl
        rw [h3] at h2
        have hWn := (((HW6.out.drew.trans (HL8.out.mono (by omega))).trans (HA8.out.mono (by omega))).trans (HL9.out.mono (by omega))).setCell (p := ⟨w.heap.size, 4, none⟩) (Nat.le_refl _) (.slice a9 (j + 1) k9)
        have hSn : w.heap.size + 3 ≤ (w9.setCell ⟨w.heap.size, 4, none⟩ (.slice a9 (j + 1) k9)).heap.size := by
          have h4 := HA8.out.size; have h5 := HL9.out.size
          simp; omega
        rw [HY6Y.out] at hBn
        rw [← HSPL.out] at hOwn
        have HTn := Lib.hid hTn; have HOn := Lib.hid hOn; have HBn := Lib.hid hBn; have HOWn := Lib.hid hOwn; have HWn := Lib.hid hWn; have HSn := Lib.hid hSn
        clear hTn hOn hBn hOwn hWn hSn h1 h2 h3 c9 z9 c8 c8a c4 HT8 HO8 HB8 HL8 HOW8 HA8 HO2 HL2 HT9 HOW9 HL9
        go_wp2
        go_roundw
        case rel => exact ⟨j + 1, _, by omega, H6J.out, by go_num, HTn.out, HOn.out, HBn.out, HOWn.out, HWn.out, HSn.out⟩
        case measure => simp [intOf]; omega
    · have e : j = x4 := by omega
      subst e
      have f0 := hB.cell 0
      simp only [List.getElem?_cons_zero] at f0
      obtain ⟨ua, uc, rfl⟩ := shapeE hown
      rw [spsOf_len] at hT hown
      have t0 := hT.cell 0; have t1 := hT.cell 1; have t2 := hT.cell 2; have t3 := hT.cell 3; have t4 := hT.cell 4; have t5 := hO.cell 0
      simp only [List.getElem?_cons_zero, List.getElem?_cons_succ] at t0 t1 t2 t3 t4 t5
      have tf := hT.froz; have of := hO.froz
      obtain ⟨ye, hye⟩ : ∃ ye, ye = l5.drop (6 * j) := ⟨_, rfl⟩
      rw [← hye] at f0 hB
      by_cases he : l5.length ≤ 6 * j
      · have hrd := hown.rd
        have hoff := off_own hown
        have HT := Lib.hid hT; have HO := Lib.hid hO; have HW := Lib.hid hW; have HOW := Lib.hid hown; have HS := Lib.hid hS; have HOF := Lib.hid hoff
        clear hT hO hW hown hB hS hoff
        have hyn : ye = [] := by rw [hye]; exact List.drop_eq_nil_of_le he
        rw [hyn] at f0
        have hem : (bS ([] : List UInt8)).toList = [] := by rw [ByteArray.toList_eq]
        generalize bS ([] : List UInt8) = X at f0 hem
        have hem2 : X.toList.isEmpty = true := by rw [hem]; rfl
        clear hyn hye
        go_wp2_with fail
        refine (asPass_any ⟨x0, x2, x3, x1⟩ _ _ _ hrd).mono ?_
        rintro en w8 ⟨rfl, hb8⟩
        have HB8 := Lib.hid hb8; clear hb8
        have HRD := Lib.hid (hrd.below HB8.out); clear hrd
        go_wp2_with fail
        refine (Pa.check_any ⟨x0, 1, x2, x3, x1⟩ _ (spsOf j l5) _ HRD.out).mono ?_
        rintro en w9 ⟨rfl, hb9⟩
        have hb89 := bt HB8.out hb9
        have hT9 := HT.out.next hb89; have hO9 := HO.out.next hb89
        have hW9 := HW.out.trans (hb89.mono HW.out.size)
        have t0 := hT9.cell 0; have t1 := hT9.cell 1; have t2 := hT9.cell 2; have t3 := hT9.cell 3; have t4 := hT9.cell 4; have t5 := hO9.cell 0
        simp only [List.getElem?_cons_zero, List.getElem?_cons_succ] at t0 t1 t2 t3 t4 t5
        have tf := hT9.froz; have of := hO9.froz
        obtain ⟨E, hE⟩ : ∃ E, passE ⟨x0, 1, x2, x3, x1⟩ (spsOf j l5) = E := ⟨_, rfl⟩
        rw [hE]
        have HE := Lib.hid hE; clear hE
        have HLEN : RowKit.Hid (l.length = 8 + 6 * hdN l) := Lib.hid (by have h1 := HD5.out.2; have h2 := HNN.out; omega)
        by_cases e0 : E = 0
        · have e1 : (E != 0) = false := by simp [e0]
          go_wp2_with fail
          have hOW9 : ROwn elS w9 (w.heap.size + 3) (.slice ua j uc) (spsOf j l5) := HOW.out.next hb89
          have hne : ∀ g, (Value.slice ua j uc).ownBlock = some g → w.heap.size + 3 ≤ g := fun g e => (hOW9.lt _ e).1
          refine door_ret w.heap.size _ _ ?_ ⟨x0, x2, x3, x1⟩ (.slice ua j uc) true ((((((hT9.set 0 (.int .i64 x0)).set 1 (.int .i64 x2)).set 2 (.int .i64 x3)).set 3 (.int .i64 x1)).set 4 (.slice ua j uc)).other (w.heap.size + 1) 0 (.bool true) (by omega)) ((((((hO9.other w.heap.size 0 (.int .i64 x0) (by omega)).other w.heap.size 1 (.int .i64 x2) (by omega)).other w.heap.size 2 (.int .i64 x3) (by omega)).other w.heap.size 3 (.int .i64 x1) (by omega)).other w.heap.size 4 (.slice ua j uc) (by omega)).set 0 (.bool true)) _ ?_
          · exact ⟨rfl, by rfl, by rfl⟩
          · rw [HGOOD.out HLEN.out (by rw [HTT.out, HTS.out]; exact HE.out.trans e0)]
            refine ⟨.slice ua j uc, by rw [HTT.out], ?_, fun b hb => HOF.out b (by omega), ((((((hW9.setCell (p := ⟨w.heap.size, 0, none⟩) (Nat.le_refl _) (.int .i64 x0)).setCell (p := ⟨w.heap.size, 1, none⟩) (Nat.le_refl _) (.int .i64 x2)).setCell (p := ⟨w.heap.size, 2, none⟩) (Nat.le_refl _) (.int .i64 x3)).setCell (p := ⟨w.heap.size, 3, none⟩) (Nat.le_refl _) (.int .i64 x1)).setCell (p := ⟨w.heap.size, 4, none⟩) (Nat.le_refl _) (.slice ua j uc)).setCell (p := ⟨w.heap.size + 1, 0, none⟩) (Nat.le_succ _) (.bool true))⟩
            rw [HTS.out]
            exact ((setE (j := 0) (u := .bool true) (setE (j := 4) (u := .slice ua j uc) (setE (j := 3) (u := .int .i64 x1) (setE (j := 2) (u := .int .i64 x3) (setE (j := 1) (u := .int .i64 x2) (setE (j := 0) (u := .int .i64 x0) hOW9 (b := w.heap.size) (fun e => by have := hne _ e; omega)) (b := w.heap.size) (fun e => by have := hne _ e; omega)) (b := w.heap.size) (fun e => by have := hne _ e; omega)) (b := w.heap.size) (fun e => by have := hne _ e; omega)) (b := w.heap.size) (fun e => by have := hne _ e; omega)) (b := w.heap.size + 1) (fun e => by have := hne _ e; omega))).rd
        · have e1 : (E != 0) = true := by simp [e0]
          go_wp2_with fail
          refine door_ret w.heap.size _ _ ?_ tk0 (.slice none 0 0) false ((((((hT9.set 0 (.int .i64 0)).set 1 (.int .i64 0)).set 2 (.int .i64 0)).set 3 (.int .i64 0)).set 4 (.slice none 0 0)).other (w.heap.size + 1) 0 (.bool false) (by omega)) ((((((hO9.other w.heap.size 0 (.int .i64 0) (by omega)).other w.heap.size 1 (.int .i64 0) (by omega)).other w.heap.size 2 (.int .i64 0) (by omega)).other w.heap.size 3 (.int .i64 0) (by omega)).other w.heap.size 4 (.slice none 0 0) (by omega)).set 0 (.bool false)) _ (HBAD2.out _ _ (by rw [HTT.out, HTS.out, HE.out]; exact e0) ⟨rfl, ((((((hW9.setCell (p := ⟨w.heap.size, 0, none⟩) (Nat.le_refl _) (.int .i64 0)).setCell (p := ⟨w.heap.size, 1, none⟩) (Nat.le_refl _) (.int .i64 0)).setCell (p := ⟨w.heap.size, 2, none⟩) (Nat.le_refl _) (.int .i64 0)).setCell (p := ⟨w.heap.size, 3, none⟩) (Nat.le_refl _) (.int .i64 0)).setCell (p := ⟨w.heap.size, 4, none⟩) (Nat.le_refl _) (.slice none 0 0)).setCell (p := ⟨w.heap.size + 1, 0, none⟩) (Nat.le_succ _) (.bool false))⟩)
          exact ⟨rfl, by rfl, by rfl⟩
      · go_wp2_with fail
        refine door_ret w.heap.size _ _ ?_ tk0 (.slice none 0 0) false ((((((hT.set 0 (.int .i64 0)).set 1 (.int .i64 0)).set 2 (.int .i64 0)).set 3 (.int .i64 0)).set 4 (.slice none 0 0)).other (w.heap.size + 1) 0 (.bool false) (by omega)) ((((((hO.other w.heap.size 0 (.int .i64 0) (by omega)).other w.heap.size 1 (.int .i64 0) (by omega)).other w.heap.size 2 (.int .i64 0) (by omega)).other w.heap.size 3 (.int .i64 0) (by omega)).other w.heap.size 4 (.slice none 0 0) (by omega)).set 0 (.bool false)) _ (HBAD.out _ _ (by have h1 := HD5.out.2; have h2 := HNN.out; omega) ⟨rfl, ((((((hW.setCell (p := ⟨w.heap.size, 0, none⟩) (Nat.le_refl _) (.int .i64 0)).setCell (p := ⟨w.heap.size, 1, none⟩) (Nat.le_refl _) (.int .i64 0)).setCell (p := ⟨w.heap.size, 2, none⟩) (Nat.le_refl _) (.int .i64 0)).setCell (p := ⟨w.heap.size, 3, none⟩) (Nat.le_refl _) (.int .i64 0)).setCell (p := ⟨w.heap.size, 4, none⟩) (Nat.le_refl _) (.slice none 0 0)).setCell (p := ⟨w.heap.size + 1, 0, none⟩) (Nat.le_succ _) (.bool false))⟩)
        exact ⟨rfl, by rfl, by rfl⟩
end Gt
end Go.Proofs.YtdfdjampodkpgaaDoor
