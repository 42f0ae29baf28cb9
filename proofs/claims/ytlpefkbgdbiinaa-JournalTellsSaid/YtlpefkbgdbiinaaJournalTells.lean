/- Journals: the law that all answer as the document says. (Written by gen_journal2.py.) -/
import Derived.Test.YtlpefkbgdbiinaaJournalAdds
set_option linter.unusedVariables false
namespace Go.Proofs.Ytlpefkbgdbiinaa
open Go.RowKit
namespace Jr
open Fr
theorem grownBy_setCell2 (W : World) (b j : Nat) (v : Value) : W.grownBy (W.setCell ⟨b, j, none⟩ v) (some b) :=
  ⟨rfl, rfl, rfl, by simp [World.setCell], fun k _ hk => Below.heap_setCell _ _ _ k (fun e => hk (by rw [e]))⟩
set_option maxHeartbeats 8000000 in
theorem tells_ok (K T s AA AB DA DB KT : Bs) (k f h : Int) (X : List Bs) (w : World)
    (ct : ∀ w, (Op.stringOp .add K T).run Try.prog w = .ok (.string KT) w)
    (C1 : RowKit.Hid (∀ w, Calls Try.prog 17 #[aL K T] w (ItemsQ (X, 0) w)))
    (C2 : RowKit.Hid (∀ w, Calls Try.prog 18 #[aL K T, .string s] w (LogQ ((AA, AB), f) w)))
    (C3 : RowKit.Hid (∀ w, Calls Try.prog 19 #[aL K T] w (LogQ ((KT, emptyS), 0) w)))
    (C4 : RowKit.Hid (∀ w, Calls Try.prog 20 #[aL K T, .int .i64 k] w (LogQ ((DA, DB), h) w)))
    (C5 : RowKit.Hid (∀ w, Calls Try.prog 21 #[aL K T] w (IntQ 0 w)))
    (C6 : RowKit.Hid (∀ w, Calls Try.prog 22 #[aL K T, .string s] w (LogQ ((AA, AB), f) w)))
    (C7 : RowKit.Hid (∀ w, Calls Try.prog 23 #[aL K T, .int .i64 k] w (LogQ ((DA, DB), h) w)))
    (C8 : RowKit.Hid (∀ w, Calls Try.prog 24 #[aL K T] w fun e w' => ∃ v, e = .returned v ∧ ROwn elS w' w.heap.size v X ∧ Below w.heap.size w w'))
    (C9 : RowKit.Hid (∀ w, Calls Try.prog 26 #[aL K T] w (IntQ 0 w))) :
    Calls Try.prog 7 #[aL K T, .string s, .int .i64 k] w (TrueQ w) := by
  have CB := Lib.hid begun_any
  have CS := fun v u => Lib.hid (same_self X v u)
  have hem : emptyS.toList = [] := by rw [ByteArray.toList_eq]; rfl
  have hf : (f == f) = true := by simp
  have hh : (h == h) = true := by simp
  have q1 : (AA.toList == AA.toList) = true := by simp
  have q2 : (AB.toList == AB.toList) = true := by simp
  have q3 : (DA.toList == DA.toList) = true := by simp
  have q4 : (DB.toList == DB.toList) = true := by simp
  have q5 : (KT.toList == KT.toList) = true := by simp
  unfold aL at *
  have HX := Lib.hid (Box.new w 34 [.string K, .string T])
  have BB := Lib.hid ((br w).alloc (Nat.le_refl _) (LB K T))
  go_enter Try.func7, Try.ntmps7
  go_wp2_with fail
  refine (C1.out _).mono ?_
  rintro en w1 ⟨v1, rfl, r1, b1⟩
  replace HX := Lib.hid ((HX.out.next b1))
  replace BB := Lib.hid (bt BB.out b1)
  have R1 := Lib.hid r1
  have BW := Lib.hid (br w1)
  clear b1 r1
  have HX0 := HX.out.cell 0; have HX1 := HX.out.cell 1
  simp only [List.getElem?_cons_zero, List.getElem?_cons_succ] at HX0 HX1
  go_wp2_with fail
  refine (C2.out _).mono ?_
  rintro en w2 ⟨rfl, b2⟩
  replace HX := Lib.hid ((HX.out.next b2).alloc (LB AA AB))
  replace BW := Lib.hid (bt BW.out b2)
  replace BW := Lib.hid (BW.out.alloc BW.out.size (LB AA AB))
  replace BB := Lib.hid (bt BB.out b2)
  replace BB := Lib.hid (BB.out.alloc BB.out.size (LB AA AB))
  have Hb := Lib.hid (Box.new w2 34 [.string AA, .string AB])
  clear b2 HX0 HX1
  have HX0 := HX.out.cell 0; have HX1 := HX.out.cell 1
  simp only [List.getElem?_cons_zero, List.getElem?_cons_succ] at HX0 HX1
  go_wp2_with fail
  refine (C3.out _).mono ?_
  rintro en w3 ⟨rfl, b3⟩
  replace HX := Lib.hid ((HX.out.next b3).alloc (LB KT emptyS))
  replace Hb := Lib.hid ((Hb.out.next b3).alloc (LB KT emptyS))
  replace BW := Lib.hid (bt BW.out b3)
  replace BW := Lib.hid (BW.out.alloc BW.out.size (LB KT emptyS))
  replace BB := Lib.hid (bt BB.out b3)
  replace BB := Lib.hid (BB.out.alloc BB.out.size (LB KT emptyS))
  have Hc := Lib.hid (Box.new w3 34 [.string KT, .string emptyS])
  clear b3 HX0 HX1
  have HX0 := HX.out.cell 0; have HX1 := HX.out.cell 1
  simp only [List.getElem?_cons_zero, List.getElem?_cons_succ] at HX0 HX1
  go_wp2_with fail
  refine (C4.out _).mono ?_
  rintro en w4 ⟨rfl, b4⟩
  replace HX := Lib.hid ((HX.out.next b4).alloc (LB DA DB))
  replace Hb := Lib.hid ((Hb.out.next b4).alloc (LB DA DB))
  replace Hc := Lib.hid ((Hc.out.next b4).alloc (LB DA DB))
  replace BW := Lib.hid (bt BW.out b4)
  replace BW := Lib.hid (BW.out.alloc BW.out.size (LB DA DB))
  replace BB := Lib.hid (bt BB.out b4)
  replace BB := Lib.hid (BB.out.alloc BB.out.size (LB DA DB))
  have Hd := Lib.hid (Box.new w4 34 [.string DA, .string DB])
  clear b4 HX0 HX1
  have HX0 := HX.out.cell 0; have HX1 := HX.out.cell 1
  simp only [List.getElem?_cons_zero, List.getElem?_cons_succ] at HX0 HX1
  go_wp2_with fail
  refine (C5.out _).mono ?_
  rintro en w5 ⟨rfl, b5⟩
  replace HX := Lib.hid ((HX.out.next b5))
  replace Hb := Lib.hid ((Hb.out.next b5))
  replace Hc := Lib.hid ((Hc.out.next b5))
  replace Hd := Lib.hid ((Hd.out.next b5))
  replace BW := Lib.hid (bt BW.out b5)
  replace BB := Lib.hid (bt BB.out b5)
  clear b5 HX0 HX1
  have HX0 := HX.out.cell 0; have HX1 := HX.out.cell 1
  simp only [List.getElem?_cons_zero, List.getElem?_cons_succ] at HX0 HX1
  go_wp2_with fail
  refine (C6.out _).mono ?_
  rintro en w6 ⟨rfl, b6⟩
  replace HX := Lib.hid ((HX.out.next b6).alloc (LB AA AB))
  replace Hb := Lib.hid ((Hb.out.next b6).alloc (LB AA AB))
  replace Hc := Lib.hid ((Hc.out.next b6).alloc (LB AA AB))
  replace Hd := Lib.hid ((Hd.out.next b6).alloc (LB AA AB))
  replace BW := Lib.hid (bt BW.out b6)
  replace BW := Lib.hid (BW.out.alloc BW.out.size (LB AA AB))
  replace BB := Lib.hid (bt BB.out b6)
  replace BB := Lib.hid (BB.out.alloc BB.out.size (LB AA AB))
  have Hx := Lib.hid (Box.new w6 34 [.string AA, .string AB])
  clear b6 HX0 HX1
  have HX0 := HX.out.cell 0; have HX1 := HX.out.cell 1
  simp only [List.getElem?_cons_zero, List.getElem?_cons_succ] at HX0 HX1
  go_wp2_with fail
  refine (C7.out _).mono ?_
  rintro en w7 ⟨rfl, b7⟩
  replace HX := Lib.hid ((HX.out.next b7).alloc (LB DA DB))
  replace Hb := Lib.hid ((Hb.out.next b7).alloc (LB DA DB))
  replace Hc := Lib.hid ((Hc.out.next b7).alloc (LB DA DB))
  replace Hd := Lib.hid ((Hd.out.next b7).alloc (LB DA DB))
  replace Hx := Lib.hid ((Hx.out.next b7).alloc (LB DA DB))
  replace BW := Lib.hid (bt BW.out b7)
  replace BW := Lib.hid (BW.out.alloc BW.out.size (LB DA DB))
  replace BB := Lib.hid (bt BB.out b7)
  replace BB := Lib.hid (BB.out.alloc BB.out.size (LB DA DB))
  have Hy := Lib.hid (Box.new w7 34 [.string DA, .string DB])
  have ltHX := HX.out.lt
  rw [World.size_alloc] at ltHX
  have ltHb := Hb.out.lt
  rw [World.size_alloc] at ltHb
  have ltHc := Hc.out.lt
  rw [World.size_alloc] at ltHc
  have ltHd := Hd.out.lt
  rw [World.size_alloc] at ltHd
  have ltHx := Hx.out.lt
  rw [World.size_alloc] at ltHx
  have ltHy := Hy.out.lt
  rw [World.size_alloc] at ltHy
  have ltW := BW.out.size
  rw [World.size_alloc] at ltW
  have ltB := BB.out.size
  rw [World.size_alloc] at ltB
  replace HX := Lib.hid (HX.out.alloc (.cells #[.string ⟨#[]⟩, .string ⟨#[]⟩] 34))
  replace Hb := Lib.hid (Hb.out.alloc (.cells #[.string ⟨#[]⟩, .string ⟨#[]⟩] 34))
  replace Hc := Lib.hid (Hc.out.alloc (.cells #[.string ⟨#[]⟩, .string ⟨#[]⟩] 34))
  replace Hd := Lib.hid (Hd.out.alloc (.cells #[.string ⟨#[]⟩, .string ⟨#[]⟩] 34))
  replace Hx := Lib.hid (Hx.out.alloc (.cells #[.string ⟨#[]⟩, .string ⟨#[]⟩] 34))
  replace Hy := Lib.hid (Hy.out.alloc (.cells #[.string ⟨#[]⟩, .string ⟨#[]⟩] 34))
  replace BW := Lib.hid (BW.out.alloc BW.out.size (.cells #[.string ⟨#[]⟩, .string ⟨#[]⟩] 34))
  replace BB := Lib.hid (BB.out.alloc BB.out.size (.cells #[.string ⟨#[]⟩, .string ⟨#[]⟩] 34))
  have Hk := Lib.hid (Box.new (w7.alloc (LB DA DB)) 34 [.string ⟨#[]⟩, .string ⟨#[]⟩])
  rw [World.size_alloc] at Hk
  have HkL := Hk.out.lt
  clear b7 HX0 HX1
  have HX0 := HX.out.cell 0; have HX1 := HX.out.cell 1
  have Hk0 := Hk.out.cell 0; have Hk1 := Hk.out.cell 1
  simp only [List.getElem?_cons_zero, List.getElem?_cons_succ] at HX0 HX1 Hk0 Hk1
  go_wp2_with fail
  generalize (w7.alloc (.cells #[.string DA, .string DB] 34)).alloc (.cells #[.string ⟨#[]⟩, .string ⟨#[]⟩] 34) = W7 at *
  go_region_held3 (fun w' => w'.cell? ⟨w.heap.size, 0, none⟩ = some (.string K) ∧ w'.cell? ⟨w.heap.size, 1, none⟩ = some (.string T))
    (first | exact ⟨((HX8.out.other (w7.heap.size + 1) 0 (.string KT) (by omega)).other (w7.heap.size + 1) 1 (.string ⟨#[]⟩) (by omega)).cell 0, ((HX8.out.other (w7.heap.size + 1) 0 (.string KT) (by omega)).other (w7.heap.size + 1) 1 (.string ⟨#[]⟩) (by omega)).cell 1⟩ | (go_split_ands; exact ⟨((HX8.out.other (w7.heap.size + 1) 0 (.string KT) (by omega)).other (w7.heap.size + 1) 1 (.string ⟨#[]⟩) (by omega)).cell 0, ((HX8.out.other (w7.heap.size + 1) 0 (.string KT) (by omega)).other (w7.heap.size + 1) 1 (.string ⟨#[]⟩) (by omega)).cell 1⟩) | exact ⟨HX8.out.cell 0, HX8.out.cell 1⟩ | (go_split_ands; exact ⟨HX8.out.cell 0, HX8.out.cell 1⟩) | go_keep)
    (first | (go_at_call 24; (with_reducible refine (C8.out _).mono ?_); rintro en w8 ⟨v8, rfl, r8, b8⟩; have b8d := Lib.hid (show Below W7.heap.size W7 w8 from bd (br _) b8); have R8 := Lib.hid r8; have HX8 := Lib.hid (HX.out.next b8d.out); have Hk8 := Lib.hid (Hk.out.next b8d.out); have r0 := Hk8.out.cell 0; have r1 := Hk8.out.cell 1; have g0 := Hk8.out.froz 0; have g1 := Hk8.out.froz 1; simp only [List.getElem?_cons_zero, List.getElem?_cons_succ] at r0 r1; clear b8 r8))
  all_goals
    clear HX0 HX1 Hk0 Hk1 r0 r1 g0 g1
    have HX := Lib.hid (((HX.out.next b8d.out).other (w7.heap.size + 1) 0 (.string KT) (by omega)).other (w7.heap.size + 1) 1 (.string ⟨#[]⟩) (by omega))
    have Hb := Lib.hid (((Hb.out.next b8d.out).other (w7.heap.size + 1) 0 (.string KT) (by omega)).other (w7.heap.size + 1) 1 (.string ⟨#[]⟩) (by omega))
    have Hc := Lib.hid (((Hc.out.next b8d.out).other (w7.heap.size + 1) 0 (.string KT) (by omega)).other (w7.heap.size + 1) 1 (.string ⟨#[]⟩) (by omega))
    have Hd := Lib.hid (((Hd.out.next b8d.out).other (w7.heap.size + 1) 0 (.string KT) (by omega)).other (w7.heap.size + 1) 1 (.string ⟨#[]⟩) (by omega))
    have Hx := Lib.hid (((Hx.out.next b8d.out).other (w7.heap.size + 1) 0 (.string KT) (by omega)).other (w7.heap.size + 1) 1 (.string ⟨#[]⟩) (by omega))
    have Hy := Lib.hid (((Hy.out.next b8d.out).other (w7.heap.size + 1) 0 (.string KT) (by omega)).other (w7.heap.size + 1) 1 (.string ⟨#[]⟩) (by omega))
    have Hk := Lib.hid (Lb.put Hk8.out KT ⟨#[]⟩)
    have BW := Lib.hid (below2 (bt BW.out b8d.out) (b := w7.heap.size + 1) (by omega) (.string KT) (.string ⟨#[]⟩))
    have BB := Lib.hid (below2 (bt BB.out b8d.out) (b := w7.heap.size + 1) (by omega) (.string KT) (.string ⟨#[]⟩))
    have hsz : w7.heap.size + 1 < W7.heap.size := HkL
    have R8b : ROwn elS ((w8.setCell ⟨w7.heap.size + 1, 0, none⟩ (.string KT)).setCell ⟨w7.heap.size + 1, 1, none⟩ (.string ⟨#[]⟩)) W7.heap.size v8 X := (R8.out.kept (grownBy_setCell2 w8 (w7.heap.size + 1) 0 (.string KT)) (.inr (fun e => by have := (R8.out.lt _ e).1; have h2 : W7.drew.heap.size = W7.heap.size := rfl; omega))).kept (grownBy_setCell2 _ (w7.heap.size + 1) 1 (.string ⟨#[]⟩)) (.inr (fun e => by have := (R8.out.lt _ e).1; have h2 : W7.drew.heap.size = W7.heap.size := rfl; omega))
    have R8 := Lib.hid R8b.rd
    generalize (w8.setCell ⟨w7.heap.size + 1, 0, none⟩ (.string KT)).setCell ⟨w7.heap.size + 1, 1, none⟩ (.string ⟨#[]⟩) = W9 at *
    have R1W := Lib.hid (R1.out.below BW.out)
    go_wp2_with fail
    refine (CB.out _).mono ?_
    rintro en wA ⟨rfl, bA⟩
    replace HX := Lib.hid (HX.out.next bA)
    replace Hb := Lib.hid (Hb.out.next bA)
    replace Hc := Lib.hid (Hc.out.next bA)
    replace Hd := Lib.hid (Hd.out.next bA)
    replace Hx := Lib.hid (Hx.out.next bA)
    replace Hy := Lib.hid (Hy.out.next bA)
    replace Hk := Lib.hid (Hk.out.next bA)
    replace R1W := Lib.hid (R1W.out.below bA)
    replace R8 := Lib.hid (R8.out.below bA)
    replace BB := Lib.hid (bt BB.out bA)
    clear bA
    have HX0 := HX.out.cell 0; have HX1 := HX.out.cell 1
    simp only [List.getElem?_cons_zero, List.getElem?_cons_succ] at HX0 HX1
    go_wp2_with fail
    refine (C9.out _).mono ?_
    rintro en wB ⟨rfl, bB⟩
    replace HX := Lib.hid (HX.out.next bB)
    replace Hb := Lib.hid (Hb.out.next bB)
    replace Hc := Lib.hid (Hc.out.next bB)
    replace Hd := Lib.hid (Hd.out.next bB)
    replace Hx := Lib.hid (Hx.out.next bB)
    replace Hy := Lib.hid (Hy.out.next bB)
    replace Hk := Lib.hid (Hk.out.next bB)
    replace R1W := Lib.hid (R1W.out.below bB)
    replace R8 := Lib.hid (R8.out.below bB)
    replace BB := Lib.hid (bt BB.out bB)
    clear bB
    clear HX0 HX1
    go_wp2_with fail
    refine ((CS _ _).out _ R1W.out R8.out).mono ?_
    rintro en wC ⟨rfl, bC⟩
    replace HX := Lib.hid (HX.out.next bC)
    replace Hb := Lib.hid (Hb.out.next bC)
    replace Hc := Lib.hid (Hc.out.next bC)
    replace Hd := Lib.hid (Hd.out.next bC)
    replace Hx := Lib.hid (Hx.out.next bC)
    replace Hy := Lib.hid (Hy.out.next bC)
    replace Hk := Lib.hid (Hk.out.next bC)
    replace R1W := Lib.hid (R1W.out.below bC)
    replace R8 := Lib.hid (R8.out.below bC)
    replace BB := Lib.hid (bt BB.out bC)
    clear bC
    have HX0 := HX.out.cell 0; have HX1 := HX.out.cell 1
    have Hb0 := Hb.out.cell 0; have Hb1 := Hb.out.cell 1
    have Hc0 := Hc.out.cell 0; have Hc1 := Hc.out.cell 1
    have Hd0 := Hd.out.cell 0; have Hd1 := Hd.out.cell 1
    have Hx0 := Hx.out.cell 0; have Hx1 := Hx.out.cell 1
    have Hy0 := Hy.out.cell 0; have Hy1 := Hy.out.cell 1
    have Hk0 := Hk.out.cell 0; have Hk1 := Hk.out.cell 1
    simp only [List.getElem?_cons_zero, List.getElem?_cons_succ] at HX0 HX1 Hb0 Hb1 Hc0 Hc1 Hd0 Hd1 Hx0 Hx1 Hy0 Hy1 Hk0 Hk1
    go_wp2_with fail
    go_ret
    exact ⟨by first | rfl | (simp; done), BB.out⟩
set_option maxHeartbeats 8000000 in
theorem tells_no (K T s AA AB DA DB KT : Bs) (k f h : Int) (X : List Bs) (w : World)
    (C1 : RowKit.Hid (∀ w, Calls Try.prog 17 #[aL K T] w (ItemsQ ([], 1) w)))
    (C2 : RowKit.Hid (∀ w, Calls Try.prog 18 #[aL K T, .string s] w (LogQ ((AA, AB), f) w)))
    (C3 : RowKit.Hid (∀ w, Calls Try.prog 19 #[aL K T] w (LogQ ((emptyS, emptyS), 1) w)))
    (C4 : RowKit.Hid (∀ w, Calls Try.prog 20 #[aL K T, .int .i64 k] w (LogQ ((DA, DB), h) w)))
    (C5 : RowKit.Hid (∀ w, Calls Try.prog 21 #[aL K T] w (IntQ 1 w)))
    (C6 : RowKit.Hid (∀ w, Calls Try.prog 22 #[aL K T, .string s] w (LogQ ((AA, AB), f) w)))
    (C7 : RowKit.Hid (∀ w, Calls Try.prog 23 #[aL K T, .int .i64 k] w (LogQ ((DA, DB), h) w)))
    (C8 : RowKit.Hid (∀ w, Calls Try.prog 24 #[aL K T] w fun e w' => ∃ v, e = .returned v ∧ ROwn elS w' w.heap.size v X ∧ Below w.heap.size w w'))
    (C9 : RowKit.Hid (∀ w, Calls Try.prog 26 #[aL K T] w (IntQ 1 w))) :
    Calls Try.prog 7 #[aL K T, .string s, .int .i64 k] w (TrueQ w) := by
  have CB := Lib.hid begun_any
  have CS := fun v u => Lib.hid (same_self [] v u)
  have hem : emptyS.toList = [] := by rw [ByteArray.toList_eq]; rfl
  have hf : (f == f) = true := by simp
  have hh : (h == h) = true := by simp
  have q1 : (AA.toList == AA.toList) = true := by simp
  have q2 : (AB.toList == AB.toList) = true := by simp
  have q3 : (DA.toList == DA.toList) = true := by simp
  have q4 : (DB.toList == DB.toList) = true := by simp
  have q5 : (KT.toList == KT.toList) = true := by simp
  unfold aL at *
  have HX := Lib.hid (Box.new w 34 [.string K, .string T])
  have BB := Lib.hid ((br w).alloc (Nat.le_refl _) (LB K T))
  go_enter Try.func7, Try.ntmps7
  go_wp2_with fail
  refine (C1.out _).mono ?_
  rintro en w1 ⟨v1, rfl, r1, b1⟩
  replace HX := Lib.hid ((HX.out.next b1))
  replace BB := Lib.hid (bt BB.out b1)
  have R1 := Lib.hid r1
  have BW := Lib.hid (br w1)
  clear b1 r1
  have HX0 := HX.out.cell 0; have HX1 := HX.out.cell 1
  simp only [List.getElem?_cons_zero, List.getElem?_cons_succ] at HX0 HX1
  go_wp2_with fail
  refine (C2.out _).mono ?_
  rintro en w2 ⟨rfl, b2⟩
  replace HX := Lib.hid ((HX.out.next b2).alloc (LB AA AB))
  replace BW := Lib.hid (bt BW.out b2)
  replace BW := Lib.hid (BW.out.alloc BW.out.size (LB AA AB))
  replace BB := Lib.hid (bt BB.out b2)
  replace BB := Lib.hid (BB.out.alloc BB.out.size (LB AA AB))
  have Hb := Lib.hid (Box.new w2 34 [.string AA, .string AB])
  clear b2 HX0 HX1
  have HX0 := HX.out.cell 0; have HX1 := HX.out.cell 1
  simp only [List.getElem?_cons_zero, List.getElem?_cons_succ] at HX0 HX1
  go_wp2_with fail
  refine (C3.out _).mono ?_
  rintro en w3 ⟨rfl, b3⟩
  replace HX := Lib.hid ((HX.out.next b3).alloc (LB emptyS emptyS))
  replace Hb := Lib.hid ((Hb.out.next b3).alloc (LB emptyS emptyS))
  replace BW := Lib.hid (bt BW.out b3)
  replace BW := Lib.hid (BW.out.alloc BW.out.size (LB emptyS emptyS))
  replace BB := Lib.hid (bt BB.out b3)
  replace BB := Lib.hid (BB.out.alloc BB.out.size (LB emptyS emptyS))
  have Hc := Lib.hid (Box.new w3 34 [.string emptyS, .string emptyS])
  clear b3 HX0 HX1
  have HX0 := HX.out.cell 0; have HX1 := HX.out.cell 1
  simp only [List.getElem?_cons_zero, List.getElem?_cons_succ] at HX0 HX1
  go_wp2_with fail
  refine (C4.out _).mono ?_
  rintro en w4 ⟨rfl, b4⟩
  replace HX := Lib.hid ((HX.out.next b4).alloc (LB DA DB))
  replace Hb := Lib.hid ((Hb.out.next b4).alloc (LB DA DB))
  replace Hc := Lib.hid ((Hc.out.next b4).alloc (LB DA DB))
  replace BW := Lib.hid (bt BW.out b4)
  replace BW := Lib.hid (BW.out.alloc BW.out.size (LB DA DB))
  replace BB := Lib.hid (bt BB.out b4)
  replace BB := Lib.hid (BB.out.alloc BB.out.size (LB DA DB))
  have Hd := Lib.hid (Box.new w4 34 [.string DA, .string DB])
  clear b4 HX0 HX1
  have HX0 := HX.out.cell 0; have HX1 := HX.out.cell 1
  simp only [List.getElem?_cons_zero, List.getElem?_cons_succ] at HX0 HX1
  go_wp2_with fail
  refine (C5.out _).mono ?_
  rintro en w5 ⟨rfl, b5⟩
  replace HX := Lib.hid ((HX.out.next b5))
  replace Hb := Lib.hid ((Hb.out.next b5))
  replace Hc := Lib.hid ((Hc.out.next b5))
  replace Hd := Lib.hid ((Hd.out.next b5))
  replace BW := Lib.hid (bt BW.out b5)
  replace BB := Lib.hid (bt BB.out b5)
  clear b5 HX0 HX1
  have HX0 := HX.out.cell 0; have HX1 := HX.out.cell 1
  simp only [List.getElem?_cons_zero, List.getElem?_cons_succ] at HX0 HX1
  go_wp2_with fail
  refine (C6.out _).mono ?_
  rintro en w6 ⟨rfl, b6⟩
  replace HX := Lib.hid ((HX.out.next b6).alloc (LB AA AB))
  replace Hb := Lib.hid ((Hb.out.next b6).alloc (LB AA AB))
  replace Hc := Lib.hid ((Hc.out.next b6).alloc (LB AA AB))
  replace Hd := Lib.hid ((Hd.out.next b6).alloc (LB AA AB))
  replace BW := Lib.hid (bt BW.out b6)
  replace BW := Lib.hid (BW.out.alloc BW.out.size (LB AA AB))
  replace BB := Lib.hid (bt BB.out b6)
  replace BB := Lib.hid (BB.out.alloc BB.out.size (LB AA AB))
  have Hx := Lib.hid (Box.new w6 34 [.string AA, .string AB])
  clear b6 HX0 HX1
  have HX0 := HX.out.cell 0; have HX1 := HX.out.cell 1
  simp only [List.getElem?_cons_zero, List.getElem?_cons_succ] at HX0 HX1
  go_wp2_with fail
  refine (C7.out _).mono ?_
  rintro en w7 ⟨rfl, b7⟩
  replace HX := Lib.hid ((HX.out.next b7).alloc (LB DA DB))
  replace Hb := Lib.hid ((Hb.out.next b7).alloc (LB DA DB))
  replace Hc := Lib.hid ((Hc.out.next b7).alloc (LB DA DB))
  replace Hd := Lib.hid ((Hd.out.next b7).alloc (LB DA DB))
  replace Hx := Lib.hid ((Hx.out.next b7).alloc (LB DA DB))
  replace BW := Lib.hid (bt BW.out b7)
  replace BW := Lib.hid (BW.out.alloc BW.out.size (LB DA DB))
  replace BB := Lib.hid (bt BB.out b7)
  replace BB := Lib.hid (BB.out.alloc BB.out.size (LB DA DB))
  have Hy := Lib.hid (Box.new w7 34 [.string DA, .string DB])
  have ltHX := HX.out.lt
  rw [World.size_alloc] at ltHX
  have ltHb := Hb.out.lt
  rw [World.size_alloc] at ltHb
  have ltHc := Hc.out.lt
  rw [World.size_alloc] at ltHc
  have ltHd := Hd.out.lt
  rw [World.size_alloc] at ltHd
  have ltHx := Hx.out.lt
  rw [World.size_alloc] at ltHx
  have ltHy := Hy.out.lt
  rw [World.size_alloc] at ltHy
  have ltW := BW.out.size
  rw [World.size_alloc] at ltW
  have ltB := BB.out.size
  rw [World.size_alloc] at ltB
  replace HX := Lib.hid (HX.out.alloc (.cells #[.string ⟨#[]⟩, .string ⟨#[]⟩] 34))
  replace Hb := Lib.hid (Hb.out.alloc (.cells #[.string ⟨#[]⟩, .string ⟨#[]⟩] 34))
  replace Hc := Lib.hid (Hc.out.alloc (.cells #[.string ⟨#[]⟩, .string ⟨#[]⟩] 34))
  replace Hd := Lib.hid (Hd.out.alloc (.cells #[.string ⟨#[]⟩, .string ⟨#[]⟩] 34))
  replace Hx := Lib.hid (Hx.out.alloc (.cells #[.string ⟨#[]⟩, .string ⟨#[]⟩] 34))
  replace Hy := Lib.hid (Hy.out.alloc (.cells #[.string ⟨#[]⟩, .string ⟨#[]⟩] 34))
  replace BW := Lib.hid (BW.out.alloc BW.out.size (.cells #[.string ⟨#[]⟩, .string ⟨#[]⟩] 34))
  replace BB := Lib.hid (BB.out.alloc BB.out.size (.cells #[.string ⟨#[]⟩, .string ⟨#[]⟩] 34))
  have Hk := Lib.hid (Box.new (w7.alloc (LB DA DB)) 34 [.string ⟨#[]⟩, .string ⟨#[]⟩])
  rw [World.size_alloc] at Hk
  have HkL := Hk.out.lt
  clear b7 HX0 HX1
  have R8 := Lib.hid (Rd.nil (k := elS.k) (enc := elS.enc) ((w7.alloc (LB DA DB)).alloc (.cells #[.string ⟨#[]⟩, .string ⟨#[]⟩] 34)))
  go_wp2_with fail
  generalize (w7.alloc (.cells #[.string DA, .string DB] 34)).alloc (.cells #[.string ⟨#[]⟩, .string ⟨#[]⟩] 34) = W9 at *
  have R1W := Lib.hid (R1.out.below BW.out)
  go_wp2_with fail
  refine (CB.out _).mono ?_
  rintro en wA ⟨rfl, bA⟩
  replace HX := Lib.hid (HX.out.next bA)
  replace Hb := Lib.hid (Hb.out.next bA)
  replace Hc := Lib.hid (Hc.out.next bA)
  replace Hd := Lib.hid (Hd.out.next bA)
  replace Hx := Lib.hid (Hx.out.next bA)
  replace Hy := Lib.hid (Hy.out.next bA)
  replace Hk := Lib.hid (Hk.out.next bA)
  replace R1W := Lib.hid (R1W.out.below bA)
  replace R8 := Lib.hid (R8.out.below bA)
  replace BB := Lib.hid (bt BB.out bA)
  clear bA
  have HX0 := HX.out.cell 0; have HX1 := HX.out.cell 1
  simp only [List.getElem?_cons_zero, List.getElem?_cons_succ] at HX0 HX1
  go_wp2_with fail
  refine (C9.out _).mono ?_
  rintro en wB ⟨rfl, bB⟩
  replace HX := Lib.hid (HX.out.next bB)
  replace Hb := Lib.hid (Hb.out.next bB)
  replace Hc := Lib.hid (Hc.out.next bB)
  replace Hd := Lib.hid (Hd.out.next bB)
  replace Hx := Lib.hid (Hx.out.next bB)
  replace Hy := Lib.hid (Hy.out.next bB)
  replace Hk := Lib.hid (Hk.out.next bB)
  replace R1W := Lib.hid (R1W.out.below bB)
  replace R8 := Lib.hid (R8.out.below bB)
  replace BB := Lib.hid (bt BB.out bB)
  clear bB
  clear HX0 HX1
  go_wp2_with fail
  refine ((CS _ _).out _ R1W.out R8.out).mono ?_
  rintro en wC ⟨rfl, bC⟩
  replace HX := Lib.hid (HX.out.next bC)
  replace Hb := Lib.hid (Hb.out.next bC)
  replace Hc := Lib.hid (Hc.out.next bC)
  replace Hd := Lib.hid (Hd.out.next bC)
  replace Hx := Lib.hid (Hx.out.next bC)
  replace Hy := Lib.hid (Hy.out.next bC)
  replace Hk := Lib.hid (Hk.out.next bC)
  replace R1W := Lib.hid (R1W.out.below bC)
  replace R8 := Lib.hid (R8.out.below bC)
  replace BB := Lib.hid (bt BB.out bC)
  clear bC
  have HX0 := HX.out.cell 0; have HX1 := HX.out.cell 1
  have Hb0 := Hb.out.cell 0; have Hb1 := Hb.out.cell 1
  have Hc0 := Hc.out.cell 0; have Hc1 := Hc.out.cell 1
  have Hd0 := Hd.out.cell 0; have Hd1 := Hd.out.cell 1
  have Hx0 := Hx.out.cell 0; have Hx1 := Hx.out.cell 1
  have Hy0 := Hy.out.cell 0; have Hy1 := Hy.out.cell 1
  have Hk0 := Hk.out.cell 0; have Hk1 := Hk.out.cell 1
  simp only [List.getElem?_cons_zero, List.getElem?_cons_succ] at HX0 HX1 Hb0 Hb1 Hc0 Hc1 Hd0 Hd1 Hx0 Hx1 Hy0 Hy1 Hk0 Hk1
  go_wp2_with fail
  go_ret
  exact ⟨by first | rfl | (simp; done), BB.out⟩
theorem tells_end (x : Lg) (s : Bs) (k : Int) (w : World) (hx : x.1.size ≤ 140737488351232 ∧ x.2.size ≤ 140737488351232) (hs : s.size ≤ 140737488351232) (_ : (Lit.int .i64 k).wf = true) : Calls Try.prog 7 #[aL x.1 x.2, .string s, .int .i64 k] w (TrueQ w) := by
  obtain ⟨K, T⟩ := x
  simp only at hx
  have c1 := items_any K T (by omega)
  have c2 := add_any K T s (by omega) (by omega)
  have c3 := sync_any K T (by omega)
  have c4 := crash_any K T k (by omega)
  have c5 := checkR_any K T (by omega)
  have c6 := addR_any K T s (by omega) (by omega)
  have c7 := crashR_any K T k (by omega)
  have c8 := itemsR_own K T (by omega)
  have c9 := check_any K T (by omega)
  have ct := fun w => run_string_add_sum (P := Try.prog) (w := w) K T (by omega)
  by_cases hl : lok K T = true
  · have hC : chkJ K T = 0 := by unfold chkJ; rw [if_pos hl]
    rw [itemsF_ok hl] at c1
    rw [syncJ_ok hl] at c3
    rw [hC] at c5 c9
    exact tells_ok K T s _ _ _ _ _ k _ _ (itemsJ K T) w ct (Lib.hid c1) (Lib.hid c2) (Lib.hid c3) (Lib.hid c4) (Lib.hid c5) (Lib.hid c6) (Lib.hid c7) (Lib.hid c8) (Lib.hid c9)
  · have hC : chkJ K T = 1 := by unfold chkJ; rw [if_neg hl]
    have hI : itemsF K T = ([], 1) := by unfold itemsF; rw [if_neg hl]
    have hS : syncJ K T = ((emptyS, emptyS), 1) := by unfold syncJ; rw [if_neg hl]; rfl
    rw [hI] at c1
    rw [hS] at c3
    rw [hC] at c5 c9
    exact tells_no K T s _ _ _ _ emptyS k _ _ (itemsJ K T) w (Lib.hid c1) (Lib.hid c2) (Lib.hid c3) (Lib.hid c4) (Lib.hid c5) (Lib.hid c6) (Lib.hid c7) (Lib.hid c8) (Lib.hid c9)
end Jr
end Go.Proofs.Ytlpefkbgdbiinaa
