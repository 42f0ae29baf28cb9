/- The plan: package cover. -/
import Derived.Test.YtogohocokmhjcaaCoverBest
import Derived.Test.YtogohocokmhjcaaOwn
import Derived.Deep.LoopGhost
import Derived.WalkMore
import Derived.Deep.RegionWith
set_option linter.unusedVariables false
namespace Go.Proofs.Ytogohocokmhjcaa
open Go.RowKit
namespace Cv
/-- the first offer that may come last in a cheapest cover of n days -/
def fits (xs : List Offer) (n : Nat) (o : Offer) : Bool := decide (o.2 + best xs (n - o.1.toNat) = best xs n)
def pick (xs : List Offer) (n : Nat) : Nat := xs.findIdx (fits xs n)
def daysAt (xs : List Offer) (i : Nat) : Nat := (xs.getD i (0, 0)).1.toNat
def planG (xs : List Offer) : Nat → Nat → List Int
  | 0, _ => []
  | f + 1, n => if n = 0 then [] else (pick xs n : Int) :: planG xs f (n - daysAt xs (pick xs n))
def planL (xs : List Offer) (n : Nat) : List Int := planG xs n n
theorem pick_lt {xs : List Offer} (h : Ok xs) (n : Nat) (h1 : 1 ≤ n) (h2 : n ≤ 400) : pick xs n < xs.length := by
  obtain ⟨o, ho, e⟩ := best_mem h n h1 (by omega)
  exact List.findIdx_lt_length_of_exists ⟨o, ho, by simp [fits, e]⟩
theorem pick_fits {xs : List Offer} (h : Ok xs) (n : Nat) (h1 : 1 ≤ n) (h2 : n ≤ 400) : fits xs n (xs[pick xs n]'(pick_lt h n h1 h2)) = true :=
  List.findIdx_getElem (w := pick_lt h n h1 h2)
theorem pick_first {xs : List Offer} (n k : Nat) (hk : k < xs.length) (hf : fits xs n xs[k] = true) (hb : ∀ j (hj : j < xs.length), j < k → fits xs n xs[j] = false) : pick xs n = k := by
  unfold pick
  rw [List.findIdx_eq hk]
  exact ⟨hf, fun j hj => hb j (by omega) hj⟩
theorem days_pos {xs : List Offer} (h : Ok xs) (n : Nat) (h1 : 1 ≤ n) (h2 : n ≤ 400) : 1 ≤ daysAt xs (pick xs n) := by
  have hp := pick_lt h n h1 h2
  have := h.all _ (List.getElem_mem hp)
  unfold daysAt
  rw [List.getD_eq_getElem?_getD, List.getElem?_eq_getElem hp]
  unfold okO at this
  simp; omega
theorem planG_fuel {xs : List Offer} (h : Ok xs) : ∀ f g n : Nat, n ≤ f → n ≤ g → n ≤ 400 → planG xs f n = planG xs g n := by
  intro f
  induction f with
  | zero =>
    intro g n h1 h2 _
    obtain rfl : n = 0 := by omega
    cases g <;> rfl
  | succ f ih =>
    intro g n h1 h2 h4
    cases g with
    | zero =>
      obtain rfl : n = 0 := by omega
      rfl
    | succ g =>
      unfold planG
      by_cases h0 : n = 0
      · rw [if_pos h0, if_pos h0]
      · rw [if_neg h0, if_neg h0]
        have := days_pos h n (by omega) h4
        rw [ih g _ (by omega) (by omega) (by omega)]
theorem planL_zero (xs : List Offer) : planL xs 0 = [] := rfl
theorem planL_step {xs : List Offer} (h : Ok xs) (n : Nat) (h1 : 1 ≤ n) (h2 : n ≤ 400) : planL xs n = (pick xs n : Int) :: planL xs (n - daysAt xs (pick xs n)) := by
  have := days_pos h n h1 h2
  obtain ⟨m, rfl⟩ : ∃ m, n = m + 1 := ⟨n - 1, by omega⟩
  unfold planL
  rw [planG, if_neg (by omega)]
  rw [planG_fuel h m _ _ (by omega) (Nat.le_refl _) (by omega)]
theorem planG_len (xs : List Offer) : ∀ f n, (planG xs f n).length ≤ f := by
  intro f
  induction f with
  | zero => intro n; simp [planG]
  | succ f ih => intro n; unfold planG; split; simp; simpa using ih _
def PlanQ (xs : List Offer) (d : Int) (w : World) (e : Ending) (w' : World) : Prop :=
  ∃ v L, e = .returned (.tuple #[v, .int .i64 (readyF xs d)]) ∧ Rd 1 eI w' v L ∧ Below w.heap.size w w' ∧ L = if readyF xs d = 0 then planL xs d.toNat else []
theorem Tb.keep {W w w' : World} {g B : Nat} {T : Nat → Int} (h : Tb W w g T) (hb : Below B w w') (hg : g < B) (hB : W.heap.size ≤ B) (hs : B ≤ w.heap.size) : Tb W w' g T :=
  ⟨h.below.trans (hb.mono hB), h.ge, by have := hb.size; have := h.lt; omega, fun j hj => (hb.cell (p := ⟨g, 1 + j, none⟩) hg).trans (h.cell j hj), fun j hj => (hb.frozen (p := ⟨g, 1 + j, none⟩) hg).trans (h.froz j hj)⟩
set_option maxHeartbeats 2000000 in
set_option maxRecDepth 100000 in
theorem plan_any (v : Value) (xs : List Offer) (d : Int) (w : World) (h : Rd 2 eO w v xs) : Calls Try.prog 24 #[v, .int .i64 d] w (PlanQ xs d w) := by
  have H := Lib.hid h
  have hle := h.len_le
  obtain ⟨a, cap, rfl, h1, h2, h3⟩ := h
  have H3 := Lib.hid h3
  clear h3
  by_cases hr : readyF xs d = 0
  · obtain ⟨hc, n, rfl, hn⟩ := ready_ok hr
    obtain ⟨hl8, hok⟩ := check_ok hc
    have Hr := Lib.hid hr; have OK := Lib.hid hok
    clear hr hok hc
    go_enter Try.func24, Try.ntmps24
    go_wp2
    go_step3
    go_wp2_with fail
    refine (ready_any _ xs n _ H.out).mono ?_
    rintro en w1 ⟨rfl, hb1⟩
    rw [Hr.out]
    have H1 := Lib.hid (H.out.below hb1)
    go_wp2_with fail
    refine (table_any _ xs n hn _ H1.out hl8 OK.out).mono ?_
    rintro en w2 ⟨g, T, rfl, hT, hB⟩
    have HT := Lib.hid hT; have HB := Lib.hid hB
    have hb2 := hT.below
    have hgl := hT.lt
    clear hT hB
    go_wp2
    go_step3
    go_wp2
    have hown0 : OwnI w2 w2.heap.size (.slice none 0 0) [] := World.ownsRow_nil w2 w2.heap.size 3 1
    have HO0 := Lib.hid hown0; clear hown0
    have hw12 : w1.heap.size ≤ w2.heap.size := hb2.size
    go_loopg [1, 8] n (fun k z v wr => ∃ (y : Int) (L : List Int), z = .int .i64 y ∧ y.toNat ≤ k ∧ -400 ≤ y ∧ y ≤ (n : Int) ∧ RowKit.Hid (L ++ planL xs y.toNat = planL xs n) ∧ OwnI wr w2.heap.size v L ∧ Below w2.heap.size w2 wr)
    case atStart => exact ⟨n, [], rfl, by omega, by omega, by omega, Lib.hid (by simp), HO0.out, br w2⟩
    case round =>
      obtain ⟨y, L, rfl, y1, y2, y3, HL, hown, hbw⟩ := hrel
      clear HO0
      by_cases hy : 0 < y
      · obtain ⟨m, rfl⟩ : ∃ m : Nat, y = m := ⟨y.toNat, by omega⟩
        have hm0 : decide (0 < m) = true := decide_eq_true (by omega)
        have hLb : L.length ≤ 400 := by
          have e1 := congrArg List.length HL.out
          have e2 := planG_len xs n n
          rw [List.length_append] at e1
          unfold planL at e1; omega
        have HO := Lib.hid hown; clear hown
        have HBW := Lib.hid hbw; clear hbw
        go_wp2_with fail
        go_loopg [1, 8, 24] xs.length (fun g2 z v i wy => ∃ j : Nat, j + g2 = xs.length ∧ i = .int .i64 j ∧ z = .int .i64 m ∧ (∀ (q : Nat) (hq : q < xs.length), q < j → fits xs m xs[q] = false) ∧ OwnI wy w2.heap.size v L ∧ Below w2.heap.size w2 wy)
        case atStart => exact ⟨0, by omega, rfl, rfl, fun q _ h => by omega, HO.out, HBW.out⟩
        case round =>
          obtain ⟨j, hj, rfl, rfl, hno, hown, hbw⟩ := hrel
          clear HO HBW
          by_cases hlt : j < xs.length
          · obtain ⟨b, off, rfl, hbl, hc⟩ := H3.out (by omega)
            obtain ⟨c0, c1⟩ := eO_at hc j hlt
            have HTb : Tb w1 wr g T := HT.out.keep hbw hgl hw12 (Nat.le_refl _)
            have hbl1 : b < w1.heap.size := Nat.lt_of_lt_of_le hbl hb1.size
            have c0 := (HTb.below.cell (p := ⟨b, off + j * 2, none⟩) hbl1).trans ((hb1.cell (p := ⟨b, off + j * 2, none⟩) hbl).trans c0)
            have c1 := (HTb.below.cell (p := ⟨b, off + j * 2 + 1, none⟩) hbl1).trans ((hb1.cell (p := ⟨b, off + j * 2 + 1, none⟩) hbl).trans c1)
            clear hc H3 H H1
            have hok := OK.out.all _ (List.getElem_mem hlt)
            have hdec : fits xs m xs[j] = decide (xs[j].2 + best xs (m - xs[j].1.toNat) = best xs m) := rfl
            have hpick := fun hf => pick_first (xs := xs) m j hlt hf (fun q hq h => hno q hq h)
            have hstep := planL_step OK.out m (by omega) (by omega)
            have hday : daysAt xs j = xs[j].1.toNat := by unfold daysAt; rw [List.getD_eq_getElem?_getD, List.getElem?_eq_getElem hlt]; rfl
            have hnx : fits xs m xs[j] = false → ∀ (q : Nat) (hq : q < xs.length), q < j + 1 → fits xs m xs[q] = false := fun hf q hq h => by
              by_cases e : q = j
              · subst e; exact hf
              · exact hno q hq (by omega)
            have HNX := Lib.hid hnx; have HPICK := Lib.hid hpick; have HSTEP := Lib.hid hstep; have HDAY := Lib.hid hday
            clear hnx hpick hstep hday hno
            generalize hcx : xs[j] = c at *
            obtain ⟨cd, cp⟩ := c
            obtain ⟨q1, q2, q3, q4⟩ := hok
            obtain ⟨kk, hkk⟩ : ∃ kk : Nat, kk = m - cd.toNat := ⟨_, rfl⟩
            simp only at q1 q2 q3 q4 c0 c1 hdec
            rw [← hkk] at hdec
            have hkk2 : (if cd < (m : Int) then (m : Int) - cd else 0) = (kk : Int) := by split <;> omega
            have HK := Lib.hid hkk2
            have hk4 : kk ≤ 400 := by omega
            have hm4 : m ≤ 400 := by omega
            have hbk := best_bd OK.out kk
            have hbm := best_bd OK.out m
            have HO := Lib.hid hown; have HBW := Lib.hid hbw
            have hvb : ∀ k, Value.ownBlock _ = some k → k < wr.heap.size := fun k hk => (hown.lt k hk).2
            have HVB := Lib.hid hvb
            have hbase : w2.heap.size ≤ wr.heap.size := hbw.size
            have HTB := Lib.hid HTb
            clear hkk2 hown hbw hvb HTb hcx
            have i0 : (0 : Int) ≤ (m : Int) := by omega
            have i1 : (m : Int) < 401 := by omega
            have hkb : 0 ≤ best xs kk ∧ best xs kk ≤ 1000000000 := by omega
            have hjm : j < 1000 := by omega
            go_wp2_with fail
            have TX := HTB.out.alloc (.cells #[.int .i64 cd, .int .i64 cp] 47)
            have OX := HO.out.next ((br wr).alloc (Nat.le_refl _) (.cells #[.int .i64 cd, .int .i64 cp] 47))
            have BX := HBW.out.alloc hbase (.cells #[.int .i64 cd, .int .i64 cp] 47)
            have o0 : (wr.alloc (.cells #[.int .i64 cd, .int .i64 cp] 47)).cell? ⟨wr.heap.size, 0, none⟩ = some (.int .i64 cd) := by rw [World.cell?_alloc_mark]; rfl
            have o1 : (wr.alloc (.cells #[.int .i64 cd, .int .i64 cp] 47)).cell? ⟨wr.heap.size, 1, none⟩ = some (.int .i64 cp) := by rw [World.cell?_alloc_mark]; rfl
            have ol : wr.heap.size < (wr.alloc (.cells #[.int .i64 cd, .int .i64 cp] 47)).heap.size := by simp
            have hbase' : w2.heap.size ≤ wr.heap.size := hbase
            clear c0 c1 hbase
            generalize wr.alloc (.cells #[.int .i64 cd, .int .i64 cp] 47) = wx at *
            generalize wr.heap.size = ob at *
            have cM := TX.cell m hm4
            have cK := TX.cell kk hk4
            rw [HB.out m (by omega)] at cM
            rw [HB.out kk (by omega)] at cK
            have gl := TX.lt
            have HTX := Lib.hid TX; have HOX := Lib.hid OX; have HBX := Lib.hid BX
            clear TX OX BX
            by_cases hfit : cp + best xs kk = best xs m
            · have hf : fits xs m (cd, cp) = true := hdec.trans (decide_eq_true hfit)
              have hp := Lib.hid (HPICK.out hf)
              have hbq : (cp + best xs kk == best xs m) = true := beq_iff_eq.2 hfit
              clear hdec hf HNX HPICK hfit
              generalize best xs kk = Bk at *
              generalize best xs m = Bm at *
              go_region_with ((go_at_call 41; refine (with_any g cd cp m Bk kk _ HK hk4 (by exact gl) (by exact cK) hkb ⟨q3, q4⟩ ⟨by omega, by omega⟩ ⟨q1, q2⟩).mono ?_; rintro en wc ⟨rfl, hbc⟩; have cMc := (hbc.cell (p := ⟨g, 1 + m, none⟩) gl).trans cM; have o0c := (hbc.cell (p := ⟨ob, 0, none⟩) ol).trans o0; have hbc := Lib.hid hbc))
              all_goals
                have B3 := bd (br wx) hbc.out
                have O3 := HOX.out.next B3
                have ol3 : ob < wc.heap.size := Nat.lt_of_lt_of_le ol B3.size
                have hb3 : w2.heap.size ≤ wc.heap.size := by omega
                have B4 := HBX.out.trans (B3.mono (by omega))
                have HO3 := Lib.hid O3; have HB4 := Lib.hid B4
                clear O3 B3 B4
                go_wp2_with (at_builtin; refine app_int' rfl (.tmp 40) (.tmp 42) rfl w2.heap.size _ L rfl (HO3.out.next ((br wc).alloc (Nat.le_refl _) (.cells #[.int .i64 j] 3))) wc.heap.size 1 j rfl (by rw [World.cell?_alloc_mark]; rfl) (by omega) (by simp; omega) ?_; intro v1 w3 hown3 hbe hfar; have e0 := (hfar ⟨ob, 0, none⟩ (by simp; omega) (fun e => by have := HVB.out _ e; simp at this)).trans ((World.cell?_alloc_lt wc _ ⟨ob, 0, none⟩ ol3).trans o0c); have HO4 := Lib.hid hown3; have HBE := Lib.hid hbe; clear hown3 hbe hfar)
                have hnewl : RowKit.Hid ((L ++ [(j : Int)]) ++ planL xs ((m : Int) - cd).toNat = planL xs n) := Lib.hid (by
                  have e1 := HL.out
                  rw [Int.toNat_natCast, HSTEP.out, hp.out, HDAY.out] at e1
                  rw [← e1, List.append_assoc, show ((m : Int) - cd).toNat = m - cd.toNat by omega]
                  rfl)
                have hb5 : Below w2.heap.size w2 w3 := (HB4.out.alloc hb3 (.cells #[.int .i64 j] 3)).trans HBE.out
                go_roundg ((m : Int) - cd).toNat
                case rel => exact ⟨(m : Int) - cd, L ++ [(j : Int)], by first | rfl | go_num, Nat.le_refl _, by omega, by omega, hnewl, HO4.out, hb5⟩
                case measure => omega
            · have hf : fits xs m (cd, cp) = false := hdec.trans (decide_eq_false hfit)
              have hp := Lib.hid (HNX.out hf)
              have hbq : (cp + best xs kk == best xs m) = false := beq_eq_false_iff_ne.2 hfit
              clear hdec hf HNX HPICK hfit
              generalize best xs kk = Bk at *
              generalize best xs m = Bm at *
              go_region_with ((go_at_call 41; refine (with_any g cd cp m Bk kk _ HK hk4 (by exact gl) (by exact cK) hkb ⟨q3, q4⟩ ⟨by omega, by omega⟩ ⟨q1, q2⟩).mono ?_; rintro en wc ⟨rfl, hbc⟩; have cMc := (hbc.cell (p := ⟨g, 1 + m, none⟩) gl).trans cM; have hbc := Lib.hid hbc))
              all_goals
                have B3 := bd (br wx) hbc.out
                have O3 := HOX.out.next B3
                have B4 := HBX.out.trans (B3.mono (by omega))
                have HO3 := Lib.hid O3; have HB4 := Lib.hid B4
                clear O3 B3 B4
                go_wp2
                go_roundg (xs.length - (j + 1))
                case rel => exact ⟨j + 1, by omega, by go_num, rfl, hp.out, by first | exact HO3.out | exact HO3.out.drew, by first | exact HB4.out | exact HB4.out.drew⟩
                case measure => omega
          · exfalso
            have p1 := pick_lt OK.out m (by omega) (by omega)
            have p2 := pick_fits OK.out m (by omega) (by omega)
            rw [hno _ p1 (by omega)] at p2
            cases p2
      · have hz : y.toNat = 0 := by omega
        have hL : L = planL xs n := by
          have := HL.out
          rw [hz, planL_zero, List.append_nil] at this
          exact this
        have HLL := Lib.hid hL; have HO := Lib.hid hown
        clear hL hown hz HL
        go_wp2
        try rw [Exit.noGoto_ret]
        go_ret2
        exact ⟨_, L, by rw [Hr.out]; rfl, HO.out.rd, bt (bt hb1 hb2) hbw, by rw [Hr.out, if_pos rfl, HLL.out]; rfl⟩
  · have hb : (readyF xs d != 0) = true := by simp [hr]
    generalize hC : readyF xs d = C at *
    have HC := Lib.hid hC
    have HR := Lib.hid hr
    clear hr hC
    go_enter Try.func24, Try.ntmps24
    go_wp2
    go_step3
    go_wp2_with fail
    refine (ready_any _ xs d _ H.out).mono ?_
    rintro en w1 ⟨rfl, hb1⟩
    rw [HC.out]
    go_wp2
    try rw [Exit.noGoto_ret]
    go_ret2
    exact ⟨_, [], by rw [HC.out]; rfl, Rd.nil _, hb1, by rw [HC.out, if_neg HR.out]⟩
end Cv
end Go.Proofs.Ytogohocokmhjcaa
