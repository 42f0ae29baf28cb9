/- The package's answers on tags are the document's: the walk. -/
import Derived.Test.YtpddfoifgieghaaTagRef5
import Derived.Test.YtpddfoifgieghaaTagLaws3
import Derived.Test.YtpddfoifgieghaaTagApart2
import Derived.Deep.RegionHeld3
set_option linter.unusedVariables false
namespace Go.Proofs.Ytpddfoifgieghaa
open Go.RowKit
namespace Tg
theorem eqS (x : S) (w : World) : Sem.run Try.prog (binOp .eql 26 (.agg #[.int .u64 (wi x.a), .int .u64 (wi x.b), .int .u64 (wi x.c), .int .u64 (wi x.d)]) (.agg #[.int .u64 (wi x.a), .int .u64 (wi x.b), .int .u64 (wi x.c), .int .u64 (wi x.d)])) w = .ok (.bool true) w := by
  rw [eq4, decide_eq_true rfl]
set_option maxHeartbeats 4000000 in
set_option maxRecDepth 100000 in
theorem tells_walk (v : S) (m : W64) (a b : W64) (s : ByteArray) (w : World) (hs : s.size ≤ 140737488351232) : Calls Try.prog 9 #[aS v, .int .u64 (wi m), aK a b, .string s] w fun e w' => e = .returned (.bool true) ∧ Below w.heap.size w w' := by
  have C1 := rnd_any v
  have C2 := roundOf_any v
  have C3 := start_any a b
  have C4 := startOf_any a b
  have C5 := take_any v m
  have C6 := takenOf_any v m
  have C7 := finish_any v
  have C8 := finishOf_any v
  have C9 := fun w => of_any a b s w hs
  have CA := fun w => tagOf_any a b s w hs
  generalize round v = rv at *
  generalize start a b = st at *
  generalize take v m = tk at *
  generalize finish v = fi at *
  generalize tagF a b s.data.toList = tg at *
  have hq1 := eqS rv
  have hq2 := eqS st
  have hq3 := eqS tk
  have hx1 : (wi fi == wi fi) = true := by simp
  have hx2 : (wi tg == wi tg) = true := by simp
  have hgd : Try.prog.eqGuardType Try.prog.depth 26 = false := by kernel_rfl
  unfold aS aK at *
  have C1 := Lib.hid C1; have C2 := Lib.hid C2; have C3 := Lib.hid C3; have C4 := Lib.hid C4; have C5 := Lib.hid C5
  have C6 := Lib.hid C6; have C7 := Lib.hid C7; have C8 := Lib.hid C8; have C9 := Lib.hid C9; have CA := Lib.hid CA
  go_enter Try.func9, Try.ntmps9
  go_wp2_with fail
  have hs1 : (w.alloc (.cells #[.int .u64 (wi v.a), .int .u64 (wi v.b), .int .u64 (wi v.c), .int .u64 (wi v.d)] 26)).heap.size = w.heap.size + 1 := by simp
  have hb1 := (br (w.alloc (.cells #[.int .u64 (wi v.a), .int .u64 (wi v.b), .int .u64 (wi v.c), .int .u64 (wi v.d)] 26))).alloc (Nat.le_refl _) (.cells #[.int .u64 (wi a), .int .u64 (wi b)] 24)
  rw [hs1] at hb1
  obtain ⟨b0, b1, b2, b3⟩ := box4 (v := v) (t := 26) hb1
  have k0 : ((w.alloc (.cells #[.int .u64 (wi v.a), .int .u64 (wi v.b), .int .u64 (wi v.c), .int .u64 (wi v.d)] 26)).alloc (.cells #[.int .u64 (wi a), .int .u64 (wi b)] 24)).cell? ⟨w.heap.size + 1, 0, none⟩ = some (.int .u64 (wi a)) := by rw [← hs1, World.cell?_alloc_mark]; rfl
  have k1 : ((w.alloc (.cells #[.int .u64 (wi v.a), .int .u64 (wi v.b), .int .u64 (wi v.c), .int .u64 (wi v.d)] 26)).alloc (.cells #[.int .u64 (wi a), .int .u64 (wi b)] 24)).cell? ⟨w.heap.size + 1, 1, none⟩ = some (.int .u64 (wi b)) := by rw [← hs1, World.cell?_alloc_mark]; rfl
  have HB0 : Below w.heap.size w ((w.alloc (.cells #[.int .u64 (wi v.a), .int .u64 (wi v.b), .int .u64 (wi v.c), .int .u64 (wi v.d)] 26)).alloc (.cells #[.int .u64 (wi a), .int .u64 (wi b)] 24)) := ((br w).alloc (Nat.le_refl _) _).alloc (by simp) _
  clear hb1 hs1
  generalize (w.alloc (.cells #[.int .u64 (wi v.a), .int .u64 (wi v.b), .int .u64 (wi v.c), .int .u64 (wi v.d)] 26)).alloc (.cells #[.int .u64 (wi a), .int .u64 (wi b)] 24) = wx at *
  generalize hob : w.heap.size = ob at *
  generalize hkb : ob + 1 = kb at *
  have HOB := Lib.hid hob; clear hob hkb
  have HB0 := Lib.hid HB0
  go_region_held3 (fun w' => w'.cell? ⟨ob, 0, none⟩ = some (.int .u64 (wi v.a)) ∧ w'.cell? ⟨ob, 1, none⟩ = some (.int .u64 (wi v.b)) ∧ w'.cell? ⟨ob, 2, none⟩ = some (.int .u64 (wi v.c)) ∧ w'.cell? ⟨ob, 3, none⟩ = some (.int .u64 (wi v.d)) ∧ w'.cell? ⟨kb, 0, none⟩ = some (.int .u64 (wi a)) ∧ w'.cell? ⟨kb, 1, none⟩ = some (.int .u64 (wi b)))
    (first | go_keep | (go_split_ands; (repeat' apply And.intro) <;> first | assumption | (with_reducible exact kp hbe (by assumption)) | (with_reducible exact kp hbd (by assumption)) | (with_reducible exact kp hbc (by assumption)) | (with_reducible exact kp hbb (by assumption)) | (with_reducible exact kp hba (by assumption)) | (with_reducible exact kp hbf (by assumption)) | (with_reducible exact kp hbg (by assumption)) | (with_reducible exact kp hbh (by assumption)) | (with_reducible exact kp hbi (by assumption)) | (with_reducible exact kp hbj (by assumption)) | (with_reducible exact kp hbk (by assumption)) | (with_reducible exact kp hbl (by assumption)) | (with_reducible exact kp hbm (by assumption)) | (with_reducible exact kp hbn (by assumption))))
    (first
      | (go_at_call 12; (with_reducible refine (begun_any _).mono ?_); rintro en wa ⟨rfl, hba⟩)
      | (go_at_call 25; (with_reducible refine (C1.out _).mono ?_); rintro en wb ⟨rfl, hbb⟩)
      | (go_at_call 26; (with_reducible refine (C2.out _).mono ?_); rintro en wc ⟨rfl, hbc⟩)
      | (go_at_call 14; (with_reducible refine (words_x s _ hs).mono ?_); rintro en wd ⟨vw, rfl, hvw, hbd⟩)
      | (go_at_call 27; (with_reducible refine (wordsOf_any s _ hs).mono ?_); rintro en we ⟨vu, rfl, hvu, hbe⟩)
      | (go_at_call 18; (with_reducible refine (sameu_any vw vu _ _ _ (hvw.below hbe).rd hvu.rd).mono ?_); rintro en wf ⟨rfl, hbf⟩; rw [decide_eq_true rfl])
      | (go_at_call 13; (with_reducible refine (C3.out _).mono ?_); rintro en wg ⟨rfl, hbg⟩)
      | (go_at_call 28; (with_reducible refine (C4.out _).mono ?_); rintro en wh ⟨rfl, hbh⟩)
      | (go_at_call 15; (with_reducible refine (C5.out _).mono ?_); rintro en wi' ⟨rfl, hbi⟩)
      | (go_at_call 29; (with_reducible refine (C6.out _).mono ?_); rintro en wj ⟨rfl, hbj⟩)
      | (go_at_call 16; (with_reducible refine (C7.out _).mono ?_); rintro en wk ⟨rfl, hbk⟩)
      | (go_at_call 30; (with_reducible refine (C8.out _).mono ?_); rintro en wl ⟨rfl, hbl⟩)
      | (go_at_call 17; (with_reducible refine (C9.out _).mono ?_); rintro en wm ⟨rfl, hbm⟩)
      | (go_at_call 31; (with_reducible refine (CA.out _).mono ?_); rintro en wn ⟨rfl, hbn⟩))
  go_wp2
  go_ret
  have := HOB.out
  subst this
  exact ⟨by first | rfl | (simp; done), bt (bt (bt (bt (bt (bt (bt (bt (bt (bt (bt (bt (bt (bd HB0.out hba) hbb) hbc) hbd) hbe) hbf) hbg) hbh) hbi) hbj) hbk) hbl) hbm) hbn⟩
end Tg
end Go.Proofs.Ytpddfoifgieghaa
