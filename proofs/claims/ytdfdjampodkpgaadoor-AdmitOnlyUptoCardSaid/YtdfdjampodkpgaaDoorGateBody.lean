/- Gate: a token's bytes. -/
import Derived.Test.YtdfdjampodkpgaaDoorGateSink
import Derived.Test.YtdfdjampodkpgaaDoorJSpans
import Derived.Deep.LoopGhost
set_option linter.unusedSimpArgs false
set_option linter.unusedVariables false
namespace Go.Proofs.YtdfdjampodkpgaaDoor
open Go.RowKit
namespace Gt
open Sn
structure Tk where
  id : Int
  a : Int
  b : Int
  ser : Int
abbrev aT (t : Tk) (d : Value) : Value := .agg #[.int .i64 t.id, .int .i64 t.a, .int .i64 t.b, .int .i64 t.ser, d]
def spB (s : Sp) : List UInt8 := big 3 s.1.toNat ++ big 3 s.2.toNat
def headB (id ser a b n : Nat) : List UInt8 := big 3 id ++ big 2 ser ++ big 1 a ++ big 1 b ++ big 1 n
def bodyL (t : Tk) (l : List Sp) : List UInt8 := headB t.id.toNat t.ser.toNat t.a.toNat t.b.toNat l.length ++ l.flatMap spB
theorem spB_len (s : Sp) : (spB s).length = 6 := by unfold spB; rw [List.length_append, big_len, big_len]
theorem headB_len (id ser a b n : Nat) : (headB id ser a b n).length = 8 := by unfold headB; simp [big_len]
theorem flatB_len (l : List Sp) : (l.flatMap spB).length = 6 * l.length := by
  induction l with
  | nil => rfl
  | cons s l ih => rw [List.flatMap_cons, List.length_append, spB_len, ih, List.length_cons]; omega
theorem conv_rdK {w : World} {v : Value} {xs : List UInt8} (h : RdE elK w v xs) : (convert 85 9 v).run Tryd.prog w = .ok (.string ⟨xs.toArray⟩) w := by
  obtain ⟨a, cap, rfl, _, _, h3⟩ := h
  by_cases hn : 0 < xs.length
  · obtain ⟨b, off, rfl, hb, hc⟩ := h3 hn
    exact run_convert_bytes_back (P := Tryd.prog) w 85 9 5 ⟨b, off, none⟩ cap xs Tryd.underlying85 Tryd.underlying5 Tryd.underlying9 (fun j hj => by
      have ha : (⟨b, off, none⟩ : Addr).add j = ⟨b, off + j, none⟩ := by unfold Addr.add; split <;> simp_all
      rw [ha]
      have := hc j hj 0 _ rfl
      simpa using this)
  · have e : xs = [] := List.eq_nil_of_length_eq_zero (by omega)
    subst e
    cases a with
    | none =>
      have := run_convert_bytes_nil (P := Tryd.prog) (w := w) (dst := 9) 85 5 Tryd.underlying85 Tryd.underlying5 0 cap
      first
        | exact this
        | exact this Tryd.underlying9
        | simpa using this
    | some a =>
      exact run_convert_bytes_back (P := Tryd.prog) w 85 9 5 a cap [] Tryd.underlying85 Tryd.underlying5 Tryd.underlying9 (fun j hj => by cases hj)
set_option maxRecDepth 100000 in
set_option maxHeartbeats 4000000 in
theorem body_any (id ser a b : Nat) (d : Value) (l : List Sp) (w : World) (h : RdE elS w d l) (hid : id < 1099511627776) (hser : ser < 1099511627776) (ha : a < 1099511627776) (hb : b < 1099511627776)
    (hl : l.length ≤ 100) (hs : ∀ s ∈ l, 0 ≤ s.1 ∧ s.1 < 1099511627776 ∧ 0 ≤ s.2 ∧ s.2 < 1099511627776) :
    Calls Tryd.prog 25 #[.agg #[.int .i64 id, .int .i64 a, .int .i64 b, .int .i64 ser, d]] w (fun e w' => e = .returned (.string ⟨(headB id ser a b l.length ++ l.flatMap spB).toArray⟩) ∧ Below w.heap.size w w') := by
  obtain ⟨pa, pc, rfl, h1, h2, h3⟩ := h
  have H3 := Lib.hid h3; clear h3 h1 h2
  have hb0 := (br w).alloc (Nat.le_refl _) (.cells #[.int .i64 id, .int .i64 a, .int .i64 b, .int .i64 ser, .slice pa l.length pc] 30)
  have hB1 := Box.new w 30 [.int .i64 id, .int .i64 a, .int .i64 b, .int .i64 ser, .slice pa l.length pc]
  have hs1 : (w.alloc (.cells #[.int .i64 id, .int .i64 a, .int .i64 b, .int .i64 ser, .slice pa l.length pc] 30)).heap.size = w.heap.size + 1 := asz _ _
  go_enter Tryd.func25, Tryd.ntmps25
  go_wp2_with fail
  have hb1 := hb0.alloc (by omega) (.cells #[.slice none 0 0] 85)
  have hX0 := Box.new (w.alloc (.cells #[.int .i64 id, .int .i64 a, .int .i64 b, .int .i64 ser, .slice pa l.length pc] 30)) 85 [.slice none 0 0]
  have hT := hB1.alloc (.cells #[.slice none 0 0] 85)
  have hs2 : ((w.alloc (.cells #[.int .i64 id, .int .i64 a, .int .i64 b, .int .i64 ser, .slice pa l.length pc] 30)).alloc (.cells #[.slice none 0 0] 85)).heap.size = w.heap.size + 2 := by simp
  rw [hs1] at hX0
  try rw [hs1]
  generalize (w.alloc (.cells #[.int .i64 id, .int .i64 a, .int .i64 b, .int .i64 ser, .slice pa l.length pc] 30)).alloc (.cells #[.slice none 0 0] 85) = W at *
  have HBW := Lib.hid hb1; have HT := Lib.hid hT
  clear hb0 hB1 hs1 hb1
  have hO0 : ROwn elK W (w.heap.size + 2) (.slice none 0 0) [] := ROwn.nil _ _
  have hK0 : Below (w.heap.size + 1) W W := Below.refl _ _
  have q0 := hT.cell 0; have q1 := hT.cell 1; have q2 := hT.cell 2; have q3 := hT.cell 3; have q4 := hT.cell 4
  simp only [List.getElem?_cons_zero, List.getElem?_cons_succ] at q0 q1 q2 q3 q4
  clear hT
  go_wp2_with fail
  refine (put_any (w.heap.size + 1) (w.heap.size + 2) (.slice none 0 0) ([]) id 3 W (by omega) hid hX0 hO0 (by omega) (by have := hK0.size; omega) (by simp [big_len])).mono ?_
  rintro en W1 ⟨v1, rfl, hX1, hO1, hk, hf⟩
  have hK1 := hK0.trans hk
  have q0 := (hk.cell (p := ⟨w.heap.size, 0, none⟩) (Nat.lt_succ_self _)).trans q0
  have q1 := (hk.cell (p := ⟨w.heap.size, 1, none⟩) (Nat.lt_succ_self _)).trans q1
  have q2 := (hk.cell (p := ⟨w.heap.size, 2, none⟩) (Nat.lt_succ_self _)).trans q2
  have q3 := (hk.cell (p := ⟨w.heap.size, 3, none⟩) (Nat.lt_succ_self _)).trans q3
  have q4 := (hk.cell (p := ⟨w.heap.size, 4, none⟩) (Nat.lt_succ_self _)).trans q4
  clear hX0 hO0 hK0 hk hf
  go_wp2_with fail
  refine (put_any (w.heap.size + 1) (w.heap.size + 2) v1 ([] ++ big 3 id) ser 2 W1 (by omega) hser hX1 hO1 (by omega) (by have := hK1.size; omega) (by simp [big_len])).mono ?_
  rintro en W2 ⟨v2, rfl, hX2, hO2, hk, hf⟩
  have hK2 := hK1.trans hk
  have q0 := (hk.cell (p := ⟨w.heap.size, 0, none⟩) (Nat.lt_succ_self _)).trans q0
  have q1 := (hk.cell (p := ⟨w.heap.size, 1, none⟩) (Nat.lt_succ_self _)).trans q1
  have q2 := (hk.cell (p := ⟨w.heap.size, 2, none⟩) (Nat.lt_succ_self _)).trans q2
  have q3 := (hk.cell (p := ⟨w.heap.size, 3, none⟩) (Nat.lt_succ_self _)).trans q3
  have q4 := (hk.cell (p := ⟨w.heap.size, 4, none⟩) (Nat.lt_succ_self _)).trans q4
  clear hX1 hO1 hK1 hk hf
  go_wp2_with fail
  refine (put_any (w.heap.size + 1) (w.heap.size + 2) v2 ([] ++ big 3 id ++ big 2 ser) a 1 W2 (by omega) ha hX2 hO2 (by omega) (by have := hK2.size; omega) (by simp [big_len])).mono ?_
  rintro en W3 ⟨v3, rfl, hX3, hO3, hk, hf⟩
  have hK3 := hK2.trans hk
  have q0 := (hk.cell (p := ⟨w.heap.size, 0, none⟩) (Nat.lt_succ_self _)).trans q0
  have q1 := (hk.cell (p := ⟨w.heap.size, 1, none⟩) (Nat.lt_succ_self _)).trans q1
  have q2 := (hk.cell (p := ⟨w.heap.size, 2, none⟩) (Nat.lt_succ_self _)).trans q2
  have q3 := (hk.cell (p := ⟨w.heap.size, 3, none⟩) (Nat.lt_succ_self _)).trans q3
  have q4 := (hk.cell (p := ⟨w.heap.size, 4, none⟩) (Nat.lt_succ_self _)).trans q4
  clear hX2 hO2 hK2 hk hf
  go_wp2_with fail
  refine (put_any (w.heap.size + 1) (w.heap.size + 2) v3 ([] ++ big 3 id ++ big 2 ser ++ big 1 a) b 1 W3 (by omega) hb hX3 hO3 (by omega) (by have := hK3.size; omega) (by simp [big_len])).mono ?_
  rintro en W4 ⟨v4, rfl, hX4, hO4, hk, hf⟩
  have hK4 := hK3.trans hk
  have q0 := (hk.cell (p := ⟨w.heap.size, 0, none⟩) (Nat.lt_succ_self _)).trans q0
  have q1 := (hk.cell (p := ⟨w.heap.size, 1, none⟩) (Nat.lt_succ_self _)).trans q1
  have q2 := (hk.cell (p := ⟨w.heap.size, 2, none⟩) (Nat.lt_succ_self _)).trans q2
  have q3 := (hk.cell (p := ⟨w.heap.size, 3, none⟩) (Nat.lt_succ_self _)).trans q3
  have q4 := (hk.cell (p := ⟨w.heap.size, 4, none⟩) (Nat.lt_succ_self _)).trans q4
  clear hX3 hO3 hK3 hk hf
  go_wp2_with fail
  refine (put_any (w.heap.size + 1) (w.heap.size + 2) v4 ([] ++ big 3 id ++ big 2 ser ++ big 1 a ++ big 1 b) l.length 1 W4 (by omega) (by omega) hX4 hO4 (by omega) (by have := hK4.size; omega) (by simp [big_len])).mono ?_
  rintro en W5 ⟨v5, rfl, hX5, hO5, hk, hf⟩
  have hK5 := hK4.trans hk
  have q0 := (hk.cell (p := ⟨w.heap.size, 0, none⟩) (Nat.lt_succ_self _)).trans q0
  have q1 := (hk.cell (p := ⟨w.heap.size, 1, none⟩) (Nat.lt_succ_self _)).trans q1
  have q2 := (hk.cell (p := ⟨w.heap.size, 2, none⟩) (Nat.lt_succ_self _)).trans q2
  have q3 := (hk.cell (p := ⟨w.heap.size, 3, none⟩) (Nat.lt_succ_self _)).trans q3
  have q4 := (hk.cell (p := ⟨w.heap.size, 4, none⟩) (Nat.lt_succ_self _)).trans q4
  clear hX4 hO4 hK4 hk hf
  have hhead : [] ++ big 3 id ++ big 2 ser ++ big 1 a ++ big 1 b ++ big 1 l.length = headB id ser a b l.length := by simp [headB]
  rw [hhead] at hO5
  clear hhead
  have HX5 := Lib.hid hX5; have HO5 := Lib.hid hO5; have HK5 := Lib.hid hK5
  clear hX5 hO5 hK5 q0 q1 q2 q3
  go_wp2
  go_loopw [5, 25] (fun y i wr => ∃ (j : Nat) (u : Value), j ≤ l.length ∧ i = .int .i64 j ∧ Box wr (w.heap.size + 1) 85 [u] ∧ ROwn elK wr (w.heap.size + 2) u (headB id ser a b l.length ++ (l.take j).flatMap spB) ∧ Below (w.heap.size + 1) W wr) (fun _ i _ => l.length - (intOf i).toNat)
  case atStart => exact ⟨0, v5, Nat.zero_le _, rfl, HX5.out, by simpa using HO5.out, HK5.out⟩
  case round =>
    obtain ⟨j, u, hj, rfl, hbox, hown, hbw⟩ := hrel
    have HBX := Lib.hid hbox; have HOW := Lib.hid hown; have HBK := Lib.hid hbw
    clear hbox hown hbw
    by_cases hjt : j < l.length
    · obtain ⟨g, off, rfl, hbl, hc⟩ := H3.out (by omega)
      obtain ⟨q0, q1⟩ := eS_at hc j hjt
      have hbb : Below w.heap.size w wr := HBW.out.trans (HBK.out.mono (by omega))
      have e0 := (hbb.cell (p := ⟨g, off + j * 2, none⟩) hbl).trans q0
      have e1 := (hbb.cell (p := ⟨g, off + j * 2 + 1, none⟩) hbl).trans q1
      obtain ⟨s0, s1, s2, s3⟩ := hs l[j] (List.getElem_mem hjt)
      have i2 : (j : Int) < (l.length : Int) := by omega
      have i3 : (0 : Int) ≤ (j : Int) := by omega
      have i5 : IntKind.i64.wrap ((j : Int) + 1) = ((j + 1 : Nat) : Int) := by rw [IntWalk.i64_in _ (by omega)]; omega
      have HTK : RowKit.Hid ((l.take (j + 1)).flatMap spB = (l.take j).flatMap spB ++ (big 3 l[j].1.toNat ++ big 3 l[j].2.toNat)) := Lib.hid (by
        rw [List.take_succ_eq_append_getElem hjt, List.flatMap_append]; simp [spB])
      obtain ⟨x, hx⟩ : ∃ x : Nat, l[j].1 = (x : Int) := ⟨l[j].1.toNat, by omega⟩
      obtain ⟨y, hy⟩ : ∃ y : Nat, l[j].2 = (y : Int) := ⟨l[j].2.toNat, by omega⟩
      rw [hx] at e0 s0 s1 HTK; rw [hy] at e1 s2 s3 HTK
      rw [Int.toNat_natCast, Int.toNat_natCast] at HTK
      have hx4 : x < 1099511627776 := by omega
      have hy4 : y < 1099511627776 := by omega
      have HSW : RowKit.Hid (w.heap.size + 2 ≤ wr.heap.size) := Lib.hid (by have := HBK.out.size; omega)
      have HLL : RowKit.Hid ((headB id ser a b l.length ++ (l.take j).flatMap spB).length ≤ 700) := Lib.hid (by rw [List.length_append, headB_len, flatB_len, List.length_take]; omega)
      have HD := Lib.hid (Box.new wr 67 [.int .i64 x, .int .i64 y])
      have HS2 : RowKit.Hid ((wr.alloc (.cells #[.int .i64 x, .int .i64 y] 67)).heap.size = wr.heap.size + 1) := Lib.hid (asz _ _)
      have HBA := Lib.hid ((br wr).alloc (Nat.le_refl _) (.cells #[.int .i64 x, .int .i64 y] 67))
      clear q0 q1 hc hbb s0 s1 s2 s3 hx hy H3 hs HX5 HO5 HK5
      go_wp2_with fail
      refine (put_any (w.heap.size + 1) (w.heap.size + 2) u _ x 3 _ (by omega) hx4 (HBX.out.next HBA.out) (HOW.out.next HBA.out) (by omega) (by have := HS2.out; have := HSW.out; omega) (by have := HLL.out; omega)).mono ?_
      rintro en Y1 ⟨u1, rfl, hX1, hO1, hk1, hf1⟩
      have hD1 := HD.out.of_block (hf1 wr.heap.size (by rw [HS2.out]; omega) (by have := HSW.out; omega) (fun cs fr e => by have h2 := HD.out; unfold Box at h2; rw [h2] at e; injection e with e; injection e with _ e; cases e))
      have d1 := hD1.cell 1; 
      simp only [List.getElem?_cons_zero, List.getElem?_cons_succ] at d1
      have HX1 := Lib.hid hX1; have HO1 := Lib.hid hO1; have HK1 := Lib.hid hk1
      clear hX1 hO1 hk1 hf1 hD1 e0 e1
      go_wp2_with fail
      refine (put_any (w.heap.size + 1) (w.heap.size + 2) u1 _ y 3 _ (by omega) hy4 HX1.out HO1.out (by omega) (by have := HS2.out; have := HSW.out; have := HK1.out.size; omega) (by have := HLL.out; rw [List.length_append, big_len]; omega)).mono ?_
      rintro en Y2 ⟨u2, rfl, hX2, hO2, hk2, hf2⟩
      rw [List.append_assoc, List.append_assoc, ← HTK.out] at hO2
      have HX2 := Lib.hid hX2; have HO2 := Lib.hid hO2
      have HK2 : RowKit.Hid (Below (w.heap.size + 1) W Y2) := Lib.hid (((HBK.out.trans (HBA.out.mono (by have := HSW.out; omega))).trans HK1.out).trans hk2)
      clear hX2 hO2 hk2 hf2 d1
      go_wp2
      go_roundw
      case rel => exact ⟨j + 1, u2, by omega, rfl, HX2.out, HO2.out, HK2.out⟩
      case measure => simp [intOf]; omega
    · have e : j = l.length := by omega
      subst e
      rw [List.take_length] at HOW
      have f0 := HBX.out.cell 0
      simp only [List.getElem?_cons_zero] at f0
      have hcv := conv_rdK HOW.out.rd
      go_wp2
      go_ret
      refine ⟨?_, ?_⟩
      · first | rfl | (simp; done) | simp_all
      · exact (HBW.out.trans (HBK.out.mono (by omega)))
end Gt
end Go.Proofs.YtdfdjampodkpgaaDoor
