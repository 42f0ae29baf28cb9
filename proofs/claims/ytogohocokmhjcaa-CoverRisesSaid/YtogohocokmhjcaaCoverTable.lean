/- The table of the best prices. -/
import Derived.Test.YtogohocokmhjcaaCoverWalks
import Derived.Deep.CutRange
import Derived.Deep.CutBlock
import Derived.Deep.RegionHeld3
import Derived.Deep.RegionWith
set_option linter.unusedVariables false
namespace Go.Proofs.Ytogohocokmhjcaa
open Go.RowKit
namespace Cv
theorem with_any (g : Nat) (od op d t0 : Int) (k : Nat) (w : World) (hk : RowKit.Hid ((if od < d then d - od else 0) = (k : Int))) (hk4 : k ≤ 400) (hg : g < w.heap.size) (hc : w.cell? ⟨g, 1 + k, none⟩ = some (.int .i64 t0)) (b0 : 0 ≤ t0 ∧ t0 ≤ 1000000000) (b1 : 0 ≤ op ∧ op ≤ 1000000) (b2 : 0 ≤ d ∧ d ≤ 400) (b3 : 1 ≤ od ∧ od ≤ 400) :
    Calls Try.prog 41 #[.pointer (some ⟨g, 0, none⟩), .agg #[.int .i64 od, .int .i64 op], .int .i64 d] w fun e w' => e = .returned (.int .i64 (op + t0)) ∧ Below w.heap.size w w' := by
  have hc2 := World.new_ne w _ hc
  have i0 : (0 : Int) ≤ (k : Int) := by omega
  have i1 : (k : Int) < 401 := by omega
  have s1 : IntKind.i64.wrap (d - od) = d - od := IntWalk.i64_in _ (by omega)
  have s2 : IntKind.i64.wrap (op + t0) = op + t0 := IntWalk.i64_in _ (by omega)
  have hkm := hk.out
  go_enter Try.func41, Try.ntmps41
  go_wp2_with fail
  go_quiet (fail)
  go_wp2
  go_ret
  exact ⟨rfl, by first | exact bn ((br w).alloc (Nat.le_refl _) _) _ | exact (br w).alloc (Nat.le_refl _) _⟩
structure Tb (W w : World) (g : Nat) (T : Nat → Int) : Prop where
  below : Below W.heap.size W w
  ge : W.heap.size ≤ g
  lt : g < w.heap.size
  cell : ∀ j : Nat, j ≤ 400 → w.cell? ⟨g, 1 + j, none⟩ = some (.int .i64 (T j))
  froz : ∀ j : Nat, j ≤ 400 → w.frozen? ⟨g, 1 + j, none⟩ = false
section
variable {W w w' : World} {g : Nat} {T : Nat → Int}
theorem Tb.next (h : Tb W w g T) (hb : Below w.heap.size w w') : Tb W w' g T :=
  ⟨bt h.below hb, h.ge, kl hb h.lt, fun j hj => (hb.cell (p := ⟨g, 1 + j, none⟩) h.lt).trans (h.cell j hj), fun j hj => (hb.frozen (p := ⟨g, 1 + j, none⟩) h.lt).trans (h.froz j hj)⟩
theorem Tb.alloc (h : Tb W w g T) (o : Obj) : Tb W (w.alloc o) g T := h.next ((br w).alloc (Nat.le_refl _) o)
theorem Tb.set (h : Tb W w g T) (k : Nat) (hk : k ≤ 400) (x : Int) : Tb W (w.setCell ⟨g, 1 + k, none⟩ (.int .i64 x)) g (fun j => if j = k then x else T j) := by
  refine ⟨h.below.setCell h.ge _, h.ge, ?_, fun j hj => ?_, fun j hj => ?_⟩
  · have := h.lt; simpa using this
  · by_cases e : j = k
    · subst e; rw [if_pos rfl]; exact World.cell?_setCell_same w _ _ (h.cell j hj)
    · rw [if_neg e, World.cell?_setCell_other w _ _ _ (by intro e2; injection e2; omega)]
      exact h.cell j hj
  · rw [World.frozen?_setCell]; exact h.froz j hj
end
def Z0 : Array Value := #[.slice none 0 0] ++ (Array.replicate 401 (.int .i64 0))
theorem zero_tbl (w : World) : Sem.run Try.prog (zeroValue 62) w = .ok (.agg Z0) w := by kernel_rfl
theorem Z0_ne : (Z0 = #[]) = False := by
  apply eq_false; intro h; have := congrArg Array.size h; simp [Z0] at this
theorem Z0_cell (v : Value) (j : Nat) (hj : j ≤ 400) : (Z0.setIfInBounds 0 v)[1 + j]? = some (.int .i64 0) := by
  have h1 : (1 + j) ≠ 0 := by omega
  rw [Array.getElem?_setIfInBounds_ne (by omega)]
  unfold Z0
  rw [Array.getElem?_append_right (by simp)]
  simp [Array.getElem?_replicate]; omega
def lk (xs : List Offer) (D k : Nat) : Int := (xs.take k).foldl (fun m o => min m (o.2 + best xs (D - o.1.toNat))) big
theorem lk_succ (xs : List Offer) (D k : Nat) (h : k < xs.length) : lk xs D (k + 1) = min (lk xs D k) (xs[k].2 + best xs (D - xs[k].1.toNat)) := by
  unfold lk; rw [take_snocO xs k h, List.foldl_append]; rfl
theorem lk_all (xs : List Offer) (ok : Ok xs) (D : Nat) (h : 1 ≤ D) : lk xs D xs.length = best xs D := by
  obtain ⟨m, rfl⟩ : ∃ m, D = m + 1 := ⟨D - 1, by omega⟩
  rw [best_succ xs ok.all]
  unfold lk least; rw [List.take_length]
theorem lk_bd (xs : List Offer) (ok : Ok xs) (D k : Nat) (hD : D ≤ 400) : 0 ≤ lk xs D k ∧ lk xs D k ≤ big := by
  unfold lk
  have : ∀ (l : List Offer) (m : Int), (∀ o ∈ l, o ∈ xs) → 0 ≤ m → m ≤ big → 0 ≤ l.foldl (fun m o => min m (o.2 + best xs (D - o.1.toNat))) m ∧ l.foldl (fun m o => min m (o.2 + best xs (D - o.1.toNat))) m ≤ big := by
    intro l
    induction l with
    | nil => intro m _ h1 h2; exact ⟨h1, h2⟩
    | cons o l ih =>
      intro m hm h1 h2
      have h3 := (best_bd ok (D - o.1.toNat)).1
      have h4 := ok.all o (hm o (by simp))
      unfold okO at h4
      have := ih (min m (o.2 + best xs (D - o.1.toNat))) (fun x hx => hm x (by simp [hx])) (by omega) (by omega)
      exact this
  exact this _ _ (fun o ho => List.mem_of_mem_take ho) (by decide) (by decide)
def TblQ (xs : List Offer) (n : Nat) (w : World) (e : Ending) (w' : World) : Prop := ∃ g T, e = .returned (.pointer (some ⟨g, 0, none⟩)) ∧ Tb w w' g T ∧ ∀ j, j ≤ n → T j = best xs j
set_option maxHeartbeats 1000000 in
theorem table_any (v : Value) (xs : List Offer) (n : Nat) (hn : n ≤ 400) (w : World) (h : Rd 2 eO w v xs) (hl8 : xs.length ≤ 8) (ok : Ok xs) : Calls Try.prog 40 #[v, .int .i64 n] w (TblQ xs n w) := by
  have hle := h.len_le
  obtain ⟨a, cap, rfl, h1, h2, h3⟩ := h
  have H3 := Lib.hid h3; clear h3
  have OK := Lib.hid ok; clear ok
  have hz := zero_tbl
  have hz2 := Z0_ne
  go_enter Try.func40, Try.ntmps40
  go_wp2_with fail
  go_loopw [6] (fun d wr => ∃ D : Nat, 1 ≤ D ∧ D ≤ n + 1 ∧ d = .int .i64 D ∧ ∃ T, Tb w wr w.heap.size T ∧ ∀ j, j < D → T j = best xs j) (fun d _ => (n + 1 - intOf d).toNat)
  case atStart =>
    refine ⟨1, by omega, by omega, rfl, fun _ => 0, ⟨(br w).alloc (Nat.le_refl _) _, Nat.le_refl _, by simp, fun j hj => ?_, fun j hj => ?_⟩, fun j hj => ?_⟩
    · rw [World.cell?_alloc_mark]; exact Z0_cell _ j hj
    · rw [World.frozen?_alloc_mark]; simp
    · obtain rfl : j = 0 := by omega
      exact (best_zero xs).symm
  case round =>
    obtain ⟨D, hD1, hD2, rfl, T, hT, hB⟩ := hrel
    have HT := Lib.hid hT; have HB := Lib.hid hB
    clear hB
    by_cases hDn : D ≤ n
    · have c1 := hT.cell D (by omega)
      have f1 := hT.froz D (by omega)
      clear hT
      have i1 : (D : Int) < 401 := by omega
      have c1x := c1
      clear c1x
      go_wp2_with fail
      have HT0 := HT.out.set D (by omega) 9223372036854775807
      go_loopw [24] (fun i wq => ∃ k : Nat, k ≤ xs.length ∧ i = .int .i64 k ∧ ∃ T', Tb w wq w.heap.size T' ∧ (∀ j, j < D → T' j = best xs j) ∧ T' D = lk xs D k) (fun i _ => (xs.length - (intOf i).toNat))
      case atStart =>
        refine ⟨0, Nat.zero_le _, rfl, _, HT0, fun j hj => ?_, ?_⟩
        · simp only [if_neg (show ¬ j = D by omega)]; exact HB.out j hj
        · simp only [if_true]; rfl
      case round =>
        obtain ⟨k, hk, rfl, T', hT, hB', hC⟩ := hrel
        clear HT0 HT c1 f1 HB
        by_cases hlt : k < xs.length
        · obtain ⟨b, off, rfl, hbl, hc⟩ := H3.out (by omega)
          obtain ⟨c0, c1⟩ := eO_at hc k hlt
          have c0 := (hT.below.cell (p := ⟨b, off + k * 2, none⟩) hbl).trans c0
          have c1 := (hT.below.cell (p := ⟨b, off + k * 2 + 1, none⟩) hbl).trans c1
          clear hc H3
          have hok := OK.out.all _ (List.getElem_mem hlt)
          have hlk := lk_succ xs D k hlt
          generalize xs[k] = c at *
          obtain ⟨cd, cp⟩ := c
          obtain ⟨q1, q2, q3, q4⟩ := hok
          obtain ⟨kk, hkk⟩ : ∃ kk : Nat, kk = D - cd.toNat := ⟨_, rfl⟩
          simp only at q1 q2 q3 q4 hlk c0 c1
          rw [← hkk] at hlk
          have hkk2 : (if cd < (D : Int) then (D : Int) - cd else 0) = (kk : Int) := by split <;> omega
          have hk4 : kk ≤ 400 := by omega
          have hkD : kk < D := by omega
          have hbb := best_bd OK.out kk
          have hTk := hB' kk hkD
          have hlb := lk_bd xs OK.out D k (by omega)
          have cD := hT.cell D (by omega)
          have fD := hT.froz D (by omega)
          have cK := hT.cell kk (by omega)
          rw [hC] at cD
          rw [hTk] at cK
          have HT := Lib.hid hT; have HB2 := Lib.hid hB'; have HC := Lib.hid hC; have HL := Lib.hid hlk; have HK := Lib.hid hkk2
          clear hT hB' hC hlk hkk2 hkk hTk OK
          generalize lk xs D k = L at *
          have HLB := Lib.hid hlb
          clear hlb
          have i0 : (0 : Int) ≤ (D : Int) := by omega
          go_wp2_with fail
          have TX := HT.out.alloc (.cells #[.int .i64 cd, .int .i64 cp] 47)
          have o0 : (wr.alloc (.cells #[.int .i64 cd, .int .i64 cp] 47)).cell? ⟨wr.heap.size, 0, none⟩ = some (.int .i64 cd) := by rw [World.cell?_alloc_mark]; rfl
          have o1 : (wr.alloc (.cells #[.int .i64 cd, .int .i64 cp] 47)).cell? ⟨wr.heap.size, 1, none⟩ = some (.int .i64 cp) := by rw [World.cell?_alloc_mark]; rfl
          have ol : wr.heap.size < (wr.alloc (.cells #[.int .i64 cd, .int .i64 cp] 47)).heap.size := by simp
          clear c0 c1 cD fD cK
          generalize wr.alloc (.cells #[.int .i64 cd, .int .i64 cp] 47) = wx at *
          generalize wr.heap.size = ob at *
          have cD := TX.cell D (by omega)
          have fD := TX.froz D (by omega)
          have cK := TX.cell kk (by omega)
          rw [HC.out] at cD
          have hTk := HB2.out kk hkD
          rw [hTk] at cK
          clear hTk
          generalize best xs kk = Bk at *
          have gl := TX.lt
          have HTX := Lib.hid TX
          clear TX
          go_region_with ((go_at_call 41; refine (with_any w.heap.size cd cp D Bk kk _ HK hk4 (by exact gl) (by exact cK) ⟨by omega, by omega⟩ ⟨q3, q4⟩ ⟨by omega, by omega⟩ ⟨q1, q2⟩).mono ?_; rintro en wc ⟨rfl, hbc⟩; have cDc := (hbc.cell (p := ⟨w.heap.size, 1 + D, none⟩) gl).trans cD; have fDc := (hbc.frozen (p := ⟨w.heap.size, 1 + D, none⟩) gl).trans fD; have hbc := Lib.hid hbc))
          all_goals
            go_wp2
            have hT3 := HTX.out.next (bd (br wx) hbc.out)
            go_roundw
            case rel => exact ⟨k + 1, by omega, by go_num, _, hT3.set D (by omega) _, fun j hj => by simp only [if_neg (show ¬ j = D by omega)]; exact HB2.out j hj, by rw [HL.out]; simp only [if_true]; first | rfl | (split <;> omega) | omega⟩
            case measure => simp [intOf]; omega
        · obtain rfl : k = xs.length := by omega
          have hbest := lk_all xs OK.out D hD1
          have HT3 := Lib.hid hT; have HC3 := Lib.hid (hC.trans hbest); have HB3 := Lib.hid hB'
          clear hT hC hbest hB' hlt H3 OK
          go_wp2
          go_roundw
          case rel =>
            refine ⟨D + 1, by omega, by omega, by go_num, T', HT3.out, fun j hj => ?_⟩
            by_cases e : j = D
            · rw [e]; exact HC3.out
            · exact HB3.out j (by omega)
          case measure => simp [intOf]; omega
    · obtain rfl : D = n + 1 := by omega
      clear hT H3 OK hz hz2
      go_wp2
      go_ret
      exact ⟨w.heap.size, T, rfl, HT.out, fun j hj => HB.out j (by omega)⟩
end Cv
end Go.Proofs.Ytogohocokmhjcaa
