/- Gate: writing a token. -/
import Derived.Test.YtdfdjampodkpgaaDoorGateBody
import Derived.Test.YtdfdjampodkpgaaDoorPassEl
import Derived.Test.YtdfdjampodkpgaaDoorJDrop
import Derived.Test.YtdfdjampodkpgaaDoorJSpell
set_option linter.unusedSimpArgs false
set_option linter.unusedVariables false
namespace Go.Proofs.YtdfdjampodkpgaaDoor
open Go.RowKit
namespace Gt
open Sn Pa Rg Tg
abbrev tkOf (p : Ps) : Tk := ⟨p.id, p.a, p.b, p.ser⟩
def rawS (s : ByteArray) : ByteArray := Sl.sB (Sl.rawF (Sl.nt s))
/-- a token's bytes -/
def bodyS (p : Ps) (l : List Sp) : ByteArray := ⟨(bodyL (tkOf p) l).toArray⟩
def wrF (eps : List Ep) (p : Ps) (l : List Sp) : ByteArray × Int :=
  if passE p l ≠ 0 then (emptyS, passE p l) else if 17 < l.length then (emptyS, 2) else if (sealF eps (bodyS p l)).2 ≠ 0 then (emptyS, (sealF eps (bodyS p l)).2) else (rawS (sealF eps (bodyS p l)).1, 0)
theorem bodyS_size (p : Ps) (l : List Sp) : (bodyS p l).size = 8 + 6 * l.length := by
  show (bodyL (tkOf p) l).toArray.size = _
  simp only [List.size_toArray]
  unfold bodyL
  rw [List.length_append, headB_len, flatB_len]
theorem sealF_size (eps : List Ep) (s : ByteArray) : (sealF eps s).1.size ≤ 120 := by
  rcases seal_cases eps s with ⟨_, e⟩ | ⟨_, _, e⟩ | h
  · rw [e]; show emptyS.size ≤ 120; decide
  · rw [e]; show emptyS.size ≤ 120; decide
  · rcases h with ⟨_, _, _, _, e⟩ | ⟨n, h, _, hs, e⟩
    · rw [e]; show emptyS.size ≤ 120; decide
    · rw [e]; show (sealed _ s).size ≤ 120; rw [sealed_size]; omega
theorem canon_each : ∀ {l : List Sp}, Canon l → ∀ s ∈ l, s.1 < s.2
  | [], _, s, hs => by cases hs
  | t :: l, h, s, hs => by
    rcases List.mem_cons.1 hs with rfl | hs
    · exact canon_head h
    · exact canon_each (canon_tail h) s hs
theorem in_rng {l : List Sp} (h : inS3 l) (hc : chkS l = 0) : ∀ s ∈ l, 0 ≤ s.1 ∧ s.1 < 1099511627776 ∧ 0 ≤ s.2 ∧ s.2 < 1099511627776 := fun s hs => by
  obtain ⟨h1, h2⟩ := h s hs
  have h3 := canon_each ((chkS_ok l).1 hc).2.2 s hs
  omega
set_option maxRecDepth 100000 in
set_option maxHeartbeats 2000000 in
theorem write_any (v : Value) (eps : List Ep) (p : Ps) (d : Value) (l : List Sp) (w : World) (hv : Rd 3 Rg.eE w v eps) (hd : RdE elS w d l) : Calls Tryd.prog 9 #[v, aP p d] w (SealQ (wrF eps p l) w) := by
  obtain ⟨R, hR⟩ : ∃ R, wrF eps p l = R := ⟨_, rfl⟩
  rw [hR]
  unfold SealQ
  unfold wrF at hR
  have HV := Lib.hid hv; have HD := Lib.hid hd
  have CC := Lib.hid (fun w' (hb : Below w.heap.size w w') => Pa.check_any p d l w' (hd.below hb))
  obtain ⟨id, born, a, b, ser⟩ := p
  obtain ⟨pa, pc, rfl, h1, h2, h3⟩ := hd
  clear h3
  have hle := h2
  unfold maxLen at hle
  have HB0 := Lib.hid ((br w).alloc (Nat.le_refl _) (.cells #[.int .i64 id, .int .i64 born, .int .i64 a, .int .i64 b, .int .i64 ser, .slice pa l.length pc] 25))
  have HX0 := Lib.hid (Box.new w 25 [.int .i64 id, .int .i64 born, .int .i64 a, .int .i64 b, .int .i64 ser, .slice pa l.length pc])
  by_cases c1 : passE ⟨id, born, a, b, ser⟩ l ≠ 0
  · rw [if_pos c1] at hR
    have HR := Lib.hid hR
    have hn : (passE ⟨id, born, a, b, ser⟩ l != 0) = true := by simpa using c1
    clear hR c1
    generalize passE ⟨id, born, a, b, ser⟩ l = ec at *
    show Calls Tryd.prog 9 #[v, .agg #[.int .i64 id, .int .i64 born, .int .i64 a, .int .i64 b, .int .i64 ser, .slice pa l.length pc]] w _
    go_enter Tryd.func9, Tryd.ntmps9
    go_wp2_with fail
    refine (CC.out _ HB0.out).mono ?_
    rintro en w1 ⟨rfl, hb1⟩
    have HB1 := Lib.hid (bt HB0.out hb1); clear hb1
    go_wp2
    go_ret2
    rw [← HR.out]
    exact ⟨rfl, HB1.out⟩
  rw [if_neg c1] at hR
  have c2 : passE ⟨id, born, a, b, ser⟩ l = 0 := by simpa using c1
  have HOK := Lib.hid (passE_ok.1 c2)
  rw [c2] at CC
  clear c1 c2
  by_cases c3 : 17 < l.length
  · rw [if_pos c3] at hR
    have HR := Lib.hid hR
    clear hR
    have c3' : (17 : Int) < (l.length : Int) := by omega
    show Calls Tryd.prog 9 #[v, .agg #[.int .i64 id, .int .i64 born, .int .i64 a, .int .i64 b, .int .i64 ser, .slice pa l.length pc]] w _
    go_enter Tryd.func9, Tryd.ntmps9
    go_wp2_with fail
    refine (CC.out _ HB0.out).mono ?_
    rintro en w1 ⟨rfl, hb1⟩
    have hX1 := HX0.out.next hb1
    have x0 := hX1.cell 5
    simp only [List.getElem?_cons_zero, List.getElem?_cons_succ] at x0
    have HB1 := Lib.hid (bt HB0.out hb1); clear hb1 hX1
    go_wp2
    go_ret2
    rw [← HR.out]
    exact ⟨rfl, HB1.out⟩
  rw [if_neg c3] at hR
  have c3' : ¬ (17 : Int) < (l.length : Int) := by omega
  obtain ⟨⟨g1, g2, _, g3, g4, _, g5, g6⟩, hcs, hin⟩ := HOK.out
  have g3' : 0 ≤ a ∧ a < 6 := by have := g3; unfold zn at this; simpa using this
  have g4' : 0 ≤ b ∧ b < 6 := by have := g4; unfold zn at this; simpa using this
  simp only at g1 g2 g5 g6
  obtain ⟨nid, rfl⟩ : ∃ n : Nat, id = (n : Int) := ⟨id.toNat, by omega⟩
  obtain ⟨na, rfl⟩ : ∃ n : Nat, a = (n : Int) := ⟨a.toNat, by omega⟩
  obtain ⟨nb, rfl⟩ : ∃ n : Nat, b = (n : Int) := ⟨b.toNat, by omega⟩
  obtain ⟨ns, rfl⟩ : ∃ n : Nat, ser = (n : Int) := ⟨ser.toNat, by omega⟩
  have CB := Lib.hid (fun w' (hb : Below w.heap.size w w') => body_any nid ns na nb (.slice pa l.length pc) l w' (HD.out.below hb) (by omega) (by omega) (by omega) (by omega) (by omega) (in_rng hin hcs))
  have hbs : bodyS ⟨(nid : Int), born, na, nb, ns⟩ l = ⟨(headB nid ns na nb l.length ++ l.flatMap spB).toArray⟩ := by
    unfold bodyS bodyL tkOf; simp
  have hsz := bodyS_size ⟨(nid : Int), born, na, nb, ns⟩ l
  rw [← hbs] at CB
  have CS := Lib.hid (fun w' (hb : Below w.heap.size w w') => seal_any v eps (bodyS ⟨(nid : Int), born, na, nb, ns⟩ l) (by rw [hsz]; omega) w' (HV.out.below hb))
  have hss := sealF_size eps (bodyS ⟨(nid : Int), born, na, nb, ns⟩ l)
  generalize bodyS ⟨(nid : Int), born, na, nb, ns⟩ l = S at *
  unfold SealQ at CS
  obtain ⟨T, hT⟩ : ∃ T, (sealF eps S).1 = T := ⟨_, rfl⟩
  obtain ⟨E, hE⟩ : ∃ E, (sealF eps S).2 = E := ⟨_, rfl⟩
  rw [hT, hE] at hR
  rw [hT] at hss
  have CT := Lib.hid (fun w' => Sl.raw_any T (by omega) w')
  have hrs : rawS T = Sl.sB (Sl.rawF (Sl.nt T)) := rfl
  rw [← hrs] at CT
  rw [hT, hE] at CS
  generalize rawS T = TT at *
  have HR := Lib.hid hR
  clear hrs hT hE hR hss hsz hbs hcs hin g1 g2 g3 g4 g5 g6 g3' g4' HOK c3
  have go1 : ∀ (w2 : World), Below w.heap.size w w2 → True := fun _ _ => trivial
  clear go1
  by_cases c4 : E ≠ 0
  · have hn : (E != 0) = true := by simpa using c4
    have hR2 : R = (emptyS, E) := by rw [← HR.out, if_pos c4]
    have HR2 := Lib.hid hR2
    clear hR2 HR c4
    show Calls Tryd.prog 9 #[v, .agg #[.int .i64 (nid : Int), .int .i64 born, .int .i64 (na : Int), .int .i64 (nb : Int), .int .i64 (ns : Int), .slice pa l.length pc]] w _
    go_enter Tryd.func9, Tryd.ntmps9
    go_wp2_with fail
    refine (CC.out _ HB0.out).mono ?_
    rintro en w1 ⟨rfl, hb1⟩
    have hX1 := HX0.out.next hb1
    have x0 := hX1.cell 0; have x2 := hX1.cell 2; have x3 := hX1.cell 3; have x4 := hX1.cell 4; have x5 := hX1.cell 5
    simp only [List.getElem?_cons_zero, List.getElem?_cons_succ] at x0 x2 x3 x4 x5
    have HB1 := Lib.hid (bt HB0.out hb1); clear hb1 hX1
    go_wp2_with fail
    refine (CB.out _ HB1.out).mono ?_
    rintro en w2 ⟨rfl, hb2⟩
    have HB2 := Lib.hid (bt HB1.out hb2); clear hb2
    go_wp2_with fail
    refine (CS.out _ HB2.out).mono ?_
    rintro en w3 ⟨rfl, hb3⟩
    have HB3 := Lib.hid (bt HB2.out hb3); clear hb3
    go_wp2
    go_ret2
    rw [HR2.out]
    exact ⟨rfl, HB3.out⟩
  · have hn : (E != 0) = false := by simpa using c4
    have hE0 : E = 0 := by simpa using c4
    have hR2 : R = (TT, 0) := by rw [← HR.out, if_neg c4]
    have HR2 := Lib.hid hR2
    clear hR2 HR c4 hE0
    show Calls Tryd.prog 9 #[v, .agg #[.int .i64 (nid : Int), .int .i64 born, .int .i64 (na : Int), .int .i64 (nb : Int), .int .i64 (ns : Int), .slice pa l.length pc]] w _
    go_enter Tryd.func9, Tryd.ntmps9
    go_wp2_with fail
    refine (CC.out _ HB0.out).mono ?_
    rintro en w1 ⟨rfl, hb1⟩
    have hX1 := HX0.out.next hb1
    have x0 := hX1.cell 0; have x2 := hX1.cell 2; have x3 := hX1.cell 3; have x4 := hX1.cell 4; have x5 := hX1.cell 5
    simp only [List.getElem?_cons_zero, List.getElem?_cons_succ] at x0 x2 x3 x4 x5
    have HB1 := Lib.hid (bt HB0.out hb1); clear hb1 hX1
    go_wp2_with fail
    refine (CB.out _ HB1.out).mono ?_
    rintro en w2 ⟨rfl, hb2⟩
    have HB2 := Lib.hid (bt HB1.out hb2); clear hb2
    go_wp2_with fail
    refine (CS.out _ HB2.out).mono ?_
    rintro en w3 ⟨rfl, hb3⟩
    have HB3 := Lib.hid (bt HB2.out hb3); clear hb3
    go_wp2_with fail
    refine (CT.out _).mono ?_
    rintro en w4 ⟨rfl, hb4⟩
    have HB4 := Lib.hid (bt HB3.out hb4); clear hb4
    go_wp2
    go_ret2
    rw [HR2.out]
    exact ⟨rfl, HB4.out⟩
end Gt
end Go.Proofs.YtdfdjampodkpgaaDoor
