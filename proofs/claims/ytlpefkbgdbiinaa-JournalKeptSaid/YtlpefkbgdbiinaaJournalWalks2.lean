/- Journals: items, sync, add, crash. -/
import Derived.Test.YtlpefkbgdbiinaaJournalWalks
import Derived.Test.YtlpefkbgdbiinaaBox
set_option linter.unusedVariables false
namespace Go.Proofs.Ytlpefkbgdbiinaa
open Go.RowKit
namespace Jr
open Fr
def ItemsQ (r : List Bs × Int) (w : World) (e : Ending) (w' : World) : Prop := ∃ v, e = .returned (.tuple #[v, .int .i64 r.2]) ∧ RdE elS w' v r.1 ∧ Below w.heap.size w w'
def LogQ (r : Lg × Int) (w : World) (e : Ending) (w' : World) : Prop := e = .returned (.tuple #[aL r.1.1 r.1.2, .int .i64 r.2]) ∧ Below w.heap.size w w'
abbrev LB (K T : Bs) : Obj := .cells #[.string K, .string T] 34
theorem lb0 (w : World) (K T : Bs) : (w.alloc (LB K T)).cell? ⟨w.heap.size, 0, none⟩ = some (.string K) := by rw [World.cell?_alloc_mark]; rfl
theorem lb1 (w : World) (K T : Bs) : (w.alloc (LB K T)).cell? ⟨w.heap.size, 1, none⟩ = some (.string T) := by rw [World.cell?_alloc_mark]; rfl
/-- a log in a block of its own -/
abbrev Lb (w : World) (b : Nat) (x y : Bs) : Prop := Box w b 34 [.string x, .string y]
theorem Lb.put {w : World} {b : Nat} {x y : Bs} (h : Lb w b x y) (x' y' : Bs) : Lb ((w.setCell ⟨b, 0, none⟩ (.string x')).setCell ⟨b, 1, none⟩ (.string y')) b x' y' := (Box.set h 0 (.string x')).set 1 (.string y')
theorem below2 {B b : Nat} {w w1 : World} (h : Below B w w1) (hb : B ≤ b) (u v : Value) : Below B w ((w1.setCell ⟨b, 0, none⟩ u).setCell ⟨b, 1, none⟩ v) := (h.setCell (p := ⟨b, 0, none⟩) hb u).setCell (p := ⟨b, 1, none⟩) hb v
set_option maxHeartbeats 1000000 in
theorem items_any (K T : Bs) (hs : K.size + T.size ≤ 1000000000000000) (w : World) : Calls Try.prog 17 #[aL K T] w (ItemsQ (itemsF K T) w) := by
  have C1 := Lib.hid (check_any K T hs)
  have C2 := Lib.hid (all_any K T hs)
  have hsx : (K ++ T).size ≤ 1000000000000000 := by rw [ByteArray.size_append]; omega
  have C3 := Lib.hid (read_any (K ++ T) hsx)
  have hR : itemsF K T = if lok K T = true then (itemsJ K T, 0) else ([], 1) := rfl
  have hC : chkJ K T = if lok K T = true then 0 else 1 := rfl
  have hJ : itemsJ K T = (rd 64 (K ++ T).data.toList).1 := rfl
  obtain ⟨X, hX⟩ : ∃ X, K ++ T = X := ⟨_, rfl⟩
  rw [hX] at C2 C3 hJ
  rw [hR]
  rw [hC] at C1
  obtain ⟨R, hRR⟩ : ∃ R, rd 64 X.data.toList = R := ⟨_, rfl⟩
  rw [hRR] at C3 hJ
  rw [hJ]
  clear hX hR hC hJ hRR hsx
  unfold aL at *
  have k0 := lb0 w K T
  have k1 := lb1 w K T
  have HB0 := Lib.hid ((br w).alloc (Nat.le_refl _) (LB K T))
  rcases hb : lok K T with _ | _
  · rw [hb, if_neg (by simp)] at C1
    rw [if_neg (by simp)]
    have HN := Lib.hid (fun w => Rd.nil (k := elS.k) (enc := elS.enc) w)
    clear hb
    go_enter Try.func17, Try.ntmps17
    go_wp2_with fail
    refine (C1.out _).mono ?_
    rintro en w1 ⟨rfl, b1⟩
    have B1 := Lib.hid (bt HB0.out b1)
    clear b1
    go_wp2_with fail
    go_ret2
    exact ⟨_, rfl, HN.out _, B1.out⟩
  · rw [hb, if_pos rfl] at C1
    rw [if_pos rfl]
    clear hb
    go_enter Try.func17, Try.ntmps17
    go_wp2_with fail
    refine (C1.out _).mono ?_
    rintro en w1 ⟨rfl, b1⟩
    have B1 := Lib.hid (bt HB0.out b1)
    have c0 := kp b1 k0
    have c1 := kp b1 k1
    clear b1
    go_wp2_with fail
    refine (C2.out _).mono ?_
    rintro en w2 ⟨rfl, b2⟩
    have B2 := Lib.hid (bt B1.out b2)
    clear b2
    go_wp2_with fail
    refine (C3.out _).mono ?_
    rintro en w3 ⟨v3, rfl, r3, b3⟩
    have B3 := Lib.hid (bt B2.out b3)
    have R3 := Lib.hid r3.rd
    clear b3 r3
    go_wp2_with fail
    go_ret2
    exact ⟨_, rfl, R3.out, B3.out⟩
end Jr
end Go.Proofs.Ytlpefkbgdbiinaa
