/- Gate: bytes that are put behind a pointer. -/
import Derived.Test.YtdfdjampodkpgaaDoorJEl
import Derived.Test.YtdfdjampodkpgaaDoorJBase
import Derived.Deep.LoopGhost
import Derived.Deep.RegionLaw
import Derived.Deep.AppendLies
set_option linter.unusedSimpArgs false
set_option linter.unusedVariables false
namespace Go.Proofs.YtdfdjampodkpgaaDoor
open Go.RowKit
namespace Gt
@[reducible] def elK : El UInt8 where
  k := 1
  enc := eB
  te := 5
  ts := 85
  bytes := 1
  zero := .int .u8 0
  k0 := by decide
  zs := rfl
  len := fun _ => rfl
  one := fun x y h => by simp [eB] at h; subst h; rfl
  info := by kernel_rfl
  und := Tryd.underlying85
def byt (n j : Nat) : UInt8 := UInt8.ofNat (n / 2 ^ (8 * j) % 256)
def big (k n : Nat) : List UInt8 := (List.range k).reverse.map (byt n)
theorem big_len (k n : Nat) : (big k n).length = k := by simp [big]
theorem big_take (k n c : Nat) (h : c < k) : (big k n).take (c + 1) = (big k n).take c ++ [byt n (k - 1 - c)] := by
  rw [List.take_succ_eq_append_getElem (by rw [big_len]; exact h)]
  congr 2
  simp [big, List.getElem_reverse]
theorem byt_val (n j : Nat) : ((byt n j).toNat : Int) = ((n / 2 ^ (8 * j) % 256 : Nat) : Int) := by
  unfold byt; simp
theorem shapeK {w : World} {base : Nat} {v : Value} {xs : List UInt8} (h : ROwn elK w base v xs) : ∃ a c, v = .slice a xs.length c := by
  obtain ⟨_, ⟨rfl, h⟩ | ⟨g, cap, cur, rfl, _⟩⟩ := h
  · exact ⟨none, 0, by rw [h]⟩
  · exact ⟨_, _, rfl⟩
set_option maxRecDepth 100000 in
theorem byt_wrap (n p : Nat) : IntKind.u8.wrap ((n : Int) / 2 ^ (8 * (p : Int)).toNat) = ((byt n p).toNat : Int) := by
  rw [byt_val, show (8 * (p : Int)).toNat = 8 * p by omega]
  rw [IntKind.wrap_u8]
  have : ((2 : Int) ^ (8 * p)) = ((2 ^ (8 * p) : Nat) : Int) := by simp
  rw [this]
  generalize 2 ^ (8 * p) = P
  rw [show (n : Int) / (P : Int) = ((n / P : Nat) : Int) from rfl]; omega
/-- blocks that are none of bytes stay, but for block b -/
def FarK (b : Nat) (w w' : World) : Prop := ∀ j, j < w.heap.size → j ≠ b → (∀ cs fr, w.heap[j]? ≠ some (.cells cs 5 fr)) → w'.heap[j]? = w.heap[j]?
theorem setK {w : World} {base b j : Nat} {v u : Value} {xs : List UInt8} (h : ROwn elK w base v xs) (hb : v.ownBlock ≠ some b) : ROwn elK (w.setCell ⟨b, j, none⟩ u) base v xs := by
  obtain ⟨hl, h | ⟨g, cap, cur, rfl, h2, h3, h4, h5, h6, h7⟩⟩ := h
  · exact ⟨hl, .inl h⟩
  · refine ⟨hl, .inr ⟨g, cap, cur, rfl, h2, ?_, h4, h5, h6, h7⟩⟩
    have hne : g ≠ b := fun e => hb (by rw [e]; rfl)
    rw [Below.heap_setCell _ _ _ _ hne]; exact h3
theorem own_bytes {w : World} {base g : Nat} {v : Value} {xs : List UInt8} (h : ROwn elK w base v xs) (hb : v.ownBlock = some g) : ∃ cs fr, w.heap[g]? = some (.cells cs 5 fr) := by
  obtain ⟨hl, ⟨rfl, _⟩ | ⟨g', cap, cur, rfl, h2, h3, _⟩⟩ := h
  · cases hb
  · injection hb with hb
    simp only at hb
    subst hb
    exact ⟨cur, _, h3⟩
set_option maxRecDepth 100000 in
theorem put_any (b base : Nat) (v : Value) (bs : List UInt8) (n k : Nat) (w : World) (hk : k ≤ 3) (hn : n < 1099511627776) (hb : Box w b 85 [v]) (ho : ROwn elK w base v bs) (hbb : b < base) (hsz : base ≤ w.heap.size) (hl : bs.length ≤ 1000) :
    Calls Tryd.prog 55 #[.pointer (some ⟨b, 0, none⟩), .int .i64 n, .int .i64 k] w (fun e w' => ∃ v', e = .returned (.tuple #[]) ∧ Box w' b 85 [v'] ∧ ROwn elK w' base v' (bs ++ big k n) ∧ Below b w w' ∧ FarK b w w') := by
  have h0 : IntKind.i64.wrap ((k : Int) - 1) = (k : Int) - 1 := IntWalk.i64_in _ (by omega)
  have HB := Lib.hid hb; have HO := Lib.hid ho
  clear hb ho
  go_enter Tryd.func55, Tryd.ntmps55
  go_wp2
  try rw [h0]
  go_loopw [6] (fun i wr => ∃ (c : Nat) (u : Value), c ≤ k ∧ i = .int .i64 ((k : Int) - 1 - c) ∧ Box wr b 85 [u] ∧ ROwn elK wr base u (bs ++ (big k n).take c) ∧ Below b w wr ∧ FarK b w wr) (fun i _ => (intOf i + 1).toNat)
  case atStart => exact ⟨0, v, Nat.zero_le _, by simp, HB.out, (by simpa using HO.out), (br w).mono (by omega), fun _ _ _ _ => rfl⟩
  case round =>
    obtain ⟨c, u, hc, rfl, hbox, hown, hbw, hfar⟩ := hrel
    have f0 := hbox.cell 0; have z0 := hbox.froz 0
    simp only [List.getElem?_cons_zero] at f0
    have HBX := Lib.hid hbox; have HOW := Lib.hid hown; have HBW := Lib.hid hbw; have HFAR := Lib.hid hfar
    clear hbox hown hbw hfar
    by_cases hct : c < k
    · obtain ⟨p, hp⟩ : ∃ p : Nat, p = k - 1 - c := ⟨_, rfl⟩
      have hp' : (k : Int) - 1 - c = (p : Int) := by omega
      have hp2 : p ≤ 2 := by omega
      have hP := Lib.hid hp
      rw [hp']
      clear hp hp'
      have i0 : (0 : Int) ≤ (p : Int) := by omega
      have h8 : IntKind.i64.wrap (8 * (p : Int)) = 8 * (p : Int) := IntWalk.i64_in _ (by omega)
      have hb8 : IntKind.u8.wrap ((n : Int) / 2 ^ (8 * (p : Int)).toNat) = ((byt n p).toNat : Int) := byt_wrap n p
      generalize hy : byt n p = y at hb8
      have hY := Lib.hid hy
      clear hy
      have hbe : Below wr.heap.size wr (wr.alloc (.cells #[.int .u8 (y.toNat : Int)] 5)).drew := bn ((br wr).alloc (Nat.le_refl _) _) 1
      have ho2 : RowKit.Hid (ROwn elK (wr.alloc (.cells #[.int .u8 (y.toNat : Int)] 5)).drew base u (bs ++ (big k n).take c)) := Lib.hid (HOW.out.next hbe)
      have hl2 : RowKit.Hid (RdE elK (wr.alloc (.cells #[.int .u8 (y.toNat : Int)] 5)).drew (.slice (some ⟨wr.heap.size, 0, none⟩) 1 1) [y]) := Lib.hid (rdE_dr (rd_lit elK [y] wr 5 (0, 0) wr.heap.size rfl (by simp [maxLen])))
      have HB2 := Lib.hid (HBX.out.next hbe)
      have f2 := HB2.out.cell 0; have z2 := HB2.out.froz 0
      simp only [List.getElem?_cons_zero] at f2
      have HBE := Lib.hid hbe
      have HLN : RowKit.Hid ((bs ++ (big k n).take c).length = bs.length + c) := Lib.hid (by rw [List.length_append, List.length_take, big_len]; omega)
      have HSZ : RowKit.Hid (base ≤ wr.heap.size) := Lib.hid (Nat.le_trans hsz HBW.out.size)
      clear hbe
      go_wp2_with fail
      go_region_law (first
        | ((refine stepE_app elK (by rfl) (.tmp 16) (.tmp 22) (by rfl) base u (bs ++ (big k n).take c) (by rfl) ho2.out _ [y] (by rfl) hl2.out (by rw [HLN.out]; show bs.length + c + 1 ≤ _; unfold maxLen; omega) (by rw [HLN.out]; show (bs.length + c + 1) * 1 ≤ _; omega) (by have := HSZ.out; simp; omega) ?_); intro v5 w5 hown5 hb5 hfar5; have hsh := shapeK hown5; rw [show ((bs ++ (big k n).take c) ++ [y]).length = bs.length + c + 1 by rw [List.length_append, HLN.out]; rfl] at hsh; obtain ⟨a5, c5, rfl⟩ := hsh; have hbx5 := HB2.out.of_block (hb5.block b hbb); have hc1 := hbx5.cell 0; have hf1 := hbx5.froz 0; simp only [List.getElem?_cons_zero] at hc1; have HO5 := Lib.hid hown5; have HB5 := Lib.hid hb5; have HX5 := Lib.hid hbx5; have HF5 := Lib.hid hfar5; clear hown5 hfar5 hb5 hbx5)
        | fail)
      all_goals
        have hbx6 := HX5.out.set 0 (.slice a5 (bs.length + c + 1) c5)
        have HBL : Below b w (w5.setCell ⟨b, 0, none⟩ (.slice a5 (bs.length + c + 1) c5)) := ((HBW.out.trans (HBE.out.mono (by have := HSZ.out; omega))).trans (HB5.out.mono (Nat.le_of_lt hbb))).setCell (Nat.le_refl _) _
        have HF6 : FarK b w (w5.setCell ⟨b, 0, none⟩ (.slice a5 (bs.length + c + 1) c5)) := by
          intro j h1 h2 h3
          have hj : j < wr.heap.size := Nat.lt_of_lt_of_le h1 HBW.out.size
          have he := HFAR.out j h1 h2 h3
          rw [Below.heap_setCell _ _ _ _ h2, HF5.out j (Nat.lt_of_lt_of_le hj HBE.out.size) (fun e => by
            obtain ⟨cs, fr, e2⟩ := own_bytes HOW.out e
            rw [he] at e2; exact h3 cs fr e2), HBE.out.block j hj]
          exact he
        have HO6 : ROwn elK (w5.setCell ⟨b, 0, none⟩ (.slice a5 (bs.length + c + 1) c5)) base (.slice a5 (bs.length + c + 1) c5) (bs ++ (big k n).take (c + 1)) := by
          rw [big_take k n c hct, ← hP.out, hY.out, ← List.append_assoc]
          exact setK HO5.out (fun e => by have := (HO5.out.lt _ e).1; omega)
        have HL := Lib.hid HBL; have HX6 := Lib.hid hbx6; have HF7 := Lib.hid HF6; have HO7 := Lib.hid HO6
        clear hbx6 HBL HF6 HO6
        go_wp2
        go_roundw
        case rel => exact ⟨c + 1, _, by omega, by have := hP.out; go_num, HX6.out, HO7.out, HL.out, HF7.out⟩
        case measure => have := hP.out; simp [intOf]
    · have e : c = k := by omega
      subst e
      have i0 : ¬ (0 : Int) ≤ (c : Int) - 1 - c := by omega
      go_wp2
      refine bodyPost_end (results_none rfl _ _ _) rfl ⟨rfl, u, HBX.out, ?_, HBW.out, HFAR.out⟩
      have := HOW.out
      rwa [List.take_of_length_le (by rw [big_len]; exact Nat.le_refl _)] at this
end Gt
end Go.Proofs.YtdfdjampodkpgaaDoor
