/- Gate: the statement AdmitOnly. (gen_gate15.py) -/
import Derived.Test.YtdfdjampodkpgaaDoorGateLaw1
import Derived.Test.YtdfdjampodkpgaaDoorGatePlain3
import Derived.Deep.RegionHeld3
set_option linter.unusedSimpArgs false
set_option linter.unusedVariables false
namespace Go.Proofs.YtdfdjampodkpgaaDoor
open Go.RowKit
namespace Gt
open Sn Pa Rg Tg
theorem rd_mid {α : Type} {k : Nat} {enc : α → List Value} {w : World} {b off n cap : Nat} {xs : List α} (h : Rd k enc w (.slice (some ⟨b, off, none⟩) n cap) xs) (j : Nat) (hj : j < xs.length) : Rd k enc w (.slice (some ⟨b, off + j * k, none⟩) 1 (cap - j)) [xs[j]] := by
  obtain ⟨a', cap', e, h1, h2, h3⟩ := h
  injection e with e1 e2 e3
  subst e1 e2 e3
  obtain ⟨b', off', e, hb, hc⟩ := h3 (by omega)
  injection e with e; injection e with e4 e5; subst e4 e5
  refine ⟨_, _, rfl, by simp; omega, by omega, fun _ => ⟨b, off + j * k, rfl, hb, fun i hi l u hu => ?_⟩⟩
  have : i = 0 := by simpa using hi
  subst this
  have := hc j hj l u hu
  rw [Nat.zero_mul, Nat.zero_add, Nat.add_assoc]
  exact this
/-- what is known of one who is admitted -/
theorem only_facts {eps : List Ep} {xs : List Px} {t : ByteArray} {n z : Int} (h : admF eps xs t n z = 0) : pasE (pls xs) = 0 ∧ ∃ tk kl, rdF eps t = ((tk, kl), 0) ∧ ∃ k, ∃ hk : k < xs.length, xs[k].p.id = tk.id ∧ (∀ (q : Nat) (h : q < xs.length), xs[q].p.id = tk.id → q = k) ∧ xs[k].p.ser = tk.ser ∧ passE xs[k].p xs[k].l = 0 ∧ rawB xs[k].p xs[k].l n z = true := by
  unfold admF at h
  by_cases c1 : pasE (pls xs) ≠ 0
  · rw [if_pos c1] at h; exact absurd h c1
  rw [if_neg c1] at h
  have hp : pasE (pls xs) = 0 := by simpa using c1
  refine ⟨hp, ?_⟩
  unfold rawG at h
  obtain ⟨⟨⟨tk, kl⟩, e⟩, hr⟩ : ∃ r, rdF eps t = r := ⟨_, rfl⟩
  rw [hr] at h
  by_cases c2 : e ≠ 0
  · rw [if_pos c2] at h; exact absurd h c2
  rw [if_neg c2] at h
  have he : e = 0 := by simpa using c2
  subst he
  refine ⟨tk, kl, hr, ?_⟩
  rcases atX_cases xs tk.id with ⟨ha, _⟩ | ⟨k, hk, ha, hid⟩
  · rw [admT_none (r := (tk, kl)) ha] at h; cases h
  · rw [admT_some (r := (tk, kl)) hk ha] at h
    refine ⟨k, hk, hid, fun q hq hqi => ?_, ?_⟩
    · have h1 := at_self hp q hq
      rw [hqi, ha] at h1
      omega
    by_cases c3 : xs[k].p.ser ≠ tk.ser
    · rw [if_pos c3] at h; cases h
    rw [if_neg c3] at h
    by_cases c4 : rawB (psOf tk) kl n z = false
    · rw [if_pos c4] at h; cases h
    rw [if_neg c4] at h
    by_cases c5 : rawB xs[k].p xs[k].l n z = false
    · rw [if_pos c5] at h; cases h
    exact ⟨by simpa using c3, pasG_all _ _ hp xs[k].pl (List.mem_map.2 ⟨_, List.getElem_mem hk, rfl⟩), by simpa using c5⟩
set_option maxRecDepth 100000 in
set_option maxHeartbeats 4000000 in
theorem admitOnly (v u : Value) (eps : List Ep) (xs : List Px) (t : ByteArray) (n z : Int) (ht : t.size ≤ 1100000) (w : World) (hv : Rd 3 Rg.eE w v eps) (hx : RdX w u xs) (hT : Sl.Tab w) :
    Calls Tryd.prog 6 #[v, u, .string t, .int .i64 n, .int .i64 z] w (BoolQ true w) := by
  have HTB := Lib.hid (fun w' (hb : Below w.heap.size w w') => hT.below hb)
  have HVB := Lib.hid (fun w' (hb : Below w.heap.size w w') => hv.below hb)
  have HXB := Lib.hid (fun w' (hb : Below w.heap.size w w') => hx.next hb)
  have CB := Lib.hid (fun w' h => begun_any w' h)
  have CA := Lib.hid (admit_any v u eps xs t n z ht w hv hx hT)
  have hof := only_facts (eps := eps) (xs := xs) (t := t) (n := n) (z := z)
  obtain ⟨F, hF⟩ : ∃ F, admF eps xs t n z = F := ⟨_, rfl⟩
  rw [hF] at CA hof
  clear hF
  by_cases c : F ≠ 0
  · have hn : (F != 0) = true := by simpa using c
    clear c hof
    go_enter Tryd.func6, Tryd.ntmps6
    go_wp2_with fail
    refine CA.out.mono ?_
    rintro en w1 ⟨rfl, b1⟩
    have HB1 := Lib.hid b1; clear b1
    go_wp2_with fail
    refine (CB.out _ (HTB.out _ HB1.out)).mono ?_
    rintro en w2 ⟨rfl, b2⟩
    go_wp2
    go_ret
    exact ⟨by first | rfl | (simp; done), bt HB1.out b2⟩
  have hF0 : F = 0 := by simpa using c
  subst hF0
  clear c
  obtain ⟨hp, tk, kl, hr, k, hk, hid, huq, hser, hpe, hraw⟩ := hof rfl
  have CR := Lib.hid (fun w' (hb : Below w.heap.size w w') => read_any v eps t ht w' (HVB.out _ hb) (HTB.out _ hb))
  unfold RdQ at CR
  rw [hr] at CR
  obtain ⟨hue, i0, hi0, hg0⟩ := only_sealed hr
  have CH := Lib.hid (fun w' (hb : Below w.heap.size w w') => Pa.has_any xs[k].p xs[k].v xs[k].l n z w' ((HXB.out _ hb).ln _ (List.getElem_mem hk)))
  rw [hpe, hraw] at CH
  simp only [decide_true, Bool.true_and] at CH
  have hkl : RowKit.Hid (∀ j (hj : j < eps.length), goodW eps tk kl (unS t) j = decide ((wrF [eps[j]] (psOf tk) kl).2 = 0 ∧ unE (wrF [eps[j]] (psOf tk) kl).1 = 0 ∧ unS (wrF [eps[j]] (psOf tk) kl).1 = unS t)) := Lib.hid (fun j hj => by unfold goodW; rw [List.getElem?_eq_getElem hj])
  have HANY := Lib.hid (anyTo_yes hg0 eps.length hi0)
  obtain ⟨G, hG⟩ : ∃ G, goodW eps tk kl (unS t) = G := ⟨_, rfl⟩
  rw [hG] at hkl HANY
  clear hG hg0 hi0 i0 hr hof hp hpe hraw
  have CU := Lib.hid (fun w' => Sl.unspelled_any t ht w')
  unfold Sl.RQ at CU
  have hcu : Sl.sB (Sl.readF (Sl.nt t)).1 = unS t := rfl
  have hce : (Sl.readF (Sl.nt t)).2 = 0 := hue
  rw [hcu, hce] at CU
  have hle := hx.rd.len_le
  have hle2 := hv.len_le
  have hvv := hv
  obtain ⟨ua, uc, rfl, h1, h2, h3⟩ := hx.rd
  obtain ⟨va, vc, rfl, g1, g2, g3⟩ := hvv
  have H3 := Lib.hid h3; clear h3 hx hT ht hcu hce hue
  have G3 := Lib.hid g3; clear g3
  obtain ⟨ki, ka, kb, ks⟩ := tk
  simp only at hid hser huq
  simp only [psOf] at hkl
  generalize unS t = S at *
  have HUQ := Lib.hid huq; have HID := Lib.hid hid; have HSER := Lib.hid hser
  clear huq hid hser hv
  go_enter Tryd.func6, Tryd.ntmps6
  go_wp2_with fail
  refine CA.out.mono ?_
  rintro en w1 ⟨rfl, b1⟩
  have HB1 := Lib.hid b1; clear b1
  go_wp2_with fail
  refine (CB.out _ (HTB.out _ HB1.out)).mono ?_
  rintro en w2 ⟨rfl, b2⟩
  have HB2 := Lib.hid (bt HB1.out b2); clear b2 HB1
  go_wp2_with fail
  refine (CR.out _ HB2.out).mono ?_
  rintro en w3 ⟨d, rfl, hrd3, _, b3⟩
  simp only at hrd3 ⊢
  have HRD3 := Lib.hid hrd3
  obtain ⟨da, dc, rfl, _, _, _⟩ := hrd3
  have hba := (br w3).alloc (Nat.le_refl _) (.cells #[.int .i64 ki, .int .i64 ka, .int .i64 kb, .int .i64 ks, .slice da kl.length dc] 30)
  have HK := Lib.hid (Box.new w3 30 [.int .i64 ki, .int .i64 ka, .int .i64 kb, .int .i64 ks, .slice da kl.length dc])
  have HBa := Lib.hid (bt (bt HB2.out b3) hba)
  have HRDa := Lib.hid (HRD3.out.below hba)
  clear hba b3 HB2 CA CB CR HRD3
  go_wp2_with fail
  generalize hWA : w3.alloc (.cells #[.int .i64 ki, .int .i64 ka, .int .i64 kb, .int .i64 ks, .slice da kl.length dc] 30) = WA at *
  clear hWA
  go_loopw [14, 15] (fun f i wr => ∃ (j : Nat) (fb : Bool), j ≤ xs.length ∧ i = .int .i64 j ∧ f = .bool fb ∧ fb = decide (k < j) ∧ Below WA.heap.size WA wr) (fun _ i _ => xs.length - (intOf i).toNat)
  case atStart => exact ⟨0, false, Nat.zero_le _, rfl, rfl, by simp, br WA⟩
  case round =>
    obtain ⟨j, fb, hj, rfl, rfl, hfb, hbw⟩ := hrel
    have HBW := Lib.hid (bt HBa.out hbw)
    have HBX := Lib.hid hbw
    have hkk := HK.out.next hbw
    have HFB := Lib.hid hfb; clear hfb
    by_cases hlt : j < xs.length
    · obtain ⟨g, off, rfl, hbl, hc⟩ := H3.out (by omega)
      obtain ⟨q0, q1, q2, q3, q4, q5⟩ := eX_at hc j hlt
      have d0 := (HBW.out.cell (p := ⟨g, off + j * 6, none⟩) hbl).trans q0
      have d1 := (HBW.out.cell (p := ⟨g, off + j * 6 + 1, none⟩) hbl).trans q1
      have d2 := (HBW.out.cell (p := ⟨g, off + j * 6 + 2, none⟩) hbl).trans q2
      have d3 := (HBW.out.cell (p := ⟨g, off + j * 6 + 3, none⟩) hbl).trans q3
      have d4 := (HBW.out.cell (p := ⟨g, off + j * 6 + 4, none⟩) hbl).trans q4
      have d5 := (HBW.out.cell (p := ⟨g, off + j * 6 + 5, none⟩) hbl).trans q5
      have e0 := hkk.cell 0; have e3 := hkk.cell 3
      simp only [List.getElem?_cons_zero, List.getElem?_cons_succ] at e0 e3
      have i1 : (j : Int) < (xs.length : Int) := by omega
      have i0 : (0 : Int) ≤ (j : Int) := by omega
      clear hc q0 q1 q2 q3 q4 q5 hkk hbw H3
      by_cases he : xs[j].p.id = ki
      · have ejk := HUQ.out j hlt he
        subst ejk
        have hser2 := HSER.out
        have hbt : (xs[j].p.id == ki) = true := by simp [he]
        have hbs : (xs[j].p.ser == ks) = true := by simp [hser2]
        clear he hser2
        unfold aP Px.v at CH
        unfold Px.v at d5
        clear HSER HID HUQ
        generalize xs[j].p.id = t0 at *
        generalize xs[j].p.born = t1 at *
        generalize xs[j].p.a = t2 at *
        generalize xs[j].p.b = t3 at *
        generalize xs[j].p.ser = t4 at *
        generalize xs[j].a = pa at *; generalize xs[j].l.length = pl at *; generalize xs[j].cap = pc at *
        go_wp2_with fail
        go_quiet (fail)
        go_wp2_with fail
        refine (CH.out _ (by first | exact HBW.out | exact bn HBW.out _)).mono ?_
        rintro en w5 ⟨rfl, hb5⟩
        have hb5 : Below wr.heap.size wr w5 := by first | exact hb5 | exact bt (bn (br wr) _) hb5
        have e3 := kp hb5 e3
        have d4 := kp hb5 d4
        have HB5 := Lib.hid (bt HBX.out hb5); clear hb5
        go_wp2_with fail
        go_quiet (fail)
        go_wp2
        go_roundw
        case rel => exact ⟨j + 1, true, by omega, by go_num, rfl, by simp, by first | exact HB5.out | exact bn HB5.out _⟩
        case measure => simp [intOf]; omega
      · have hbt : (xs[j].p.id == ki) = false := by simp [he]
        have hjk : j ≠ k := fun e => by subst e; exact he HID.out
        have hfb2 : fb = decide (k < j + 1) := by
          rw [HFB.out]; apply decide_eq_decide.2; omega
        have HFB2 := Lib.hid hfb2
        clear he hjk hfb2 d1 d2 d3 d4 d5
        generalize xs[j].p.id = aj at *
        go_wp2_with fail
        go_quiet (fail)
        go_wp2
        go_roundw
        case rel => exact ⟨j + 1, fb, by omega, by go_num, rfl, HFB2.out, by first | exact HBX.out | exact bn HBX.out _⟩
        case measure => simp [intOf]; omega
    · have hft : fb = true := by rw [HFB.out]; exact decide_eq_true (by omega)
      subst hft
      clear HFB H3 hkk HUQ HID HSER CH
      go_wp2
      go_loopw [18, 19] (fun f i wy => ∃ (m : Nat) (fb : Bool), m ≤ eps.length ∧ i = .int .i64 m ∧ f = .bool fb ∧ fb = anyTo G m ∧ Below WA.heap.size WA wy) (fun _ i _ => eps.length - (intOf i).toNat)
      case atStart => exact ⟨0, false, Nat.zero_le _, rfl, rfl, rfl, hbw⟩
      case round =>
        obtain ⟨m, fb, hm, rfl, rfl, hfb, hby⟩ := hrel
        have HBY := Lib.hid (bt HBa.out hby)
        have HBZ := Lib.hid hby
        have hkk := HK.out.next hby
        have HRDy := Lib.hid (HRDa.out.below hby)
        have HFB := Lib.hid hfb; clear hfb
        by_cases hlm : m < eps.length
        · obtain ⟨vg, voff, rfl, hvl, _⟩ := G3.out (by omega)
          have hmid := rd_mid (HVB.out _ HBY.out) m hlm
          have HMID := Lib.hid hmid
          have CW := Lib.hid (fun vv w' (h : Rd 3 Rg.eE w' vv [eps[m]]) dd (h2 : RdE elS w' dd kl) => write_any vv [eps[m]] ⟨ki, 1, ka, kb, ks⟩ dd kl w' h h2)
          unfold SealQ at CW
          have hgm := hkl.out m hlm
          have hws := wr_size [eps[m]] ⟨ki, 1, ka, kb, ks⟩ kl
          obtain ⟨⟨U, UE⟩, hU⟩ : ∃ r, wrF [eps[m]] ⟨ki, 1, ka, kb, ks⟩ kl = r := ⟨_, rfl⟩
          rw [hU] at CW hgm hws
          clear hU
          simp only at CW hgm hws
          have CV := Lib.hid (fun w' => Sl.unspelled_any U (by omega) w')
          unfold Sl.RQ at CV
          have hcv : Sl.sB (Sl.readF (Sl.nt U)).1 = unS U := rfl
          have hcw : (Sl.readF (Sl.nt U)).2 = unE U := rfl
          rw [hcv, hcw] at CV
          generalize unS U = SU at *
          generalize unE U = EU at *
          have e0 := hkk.cell 0; have e1 := hkk.cell 1; have e2 := hkk.cell 2; have e3 := hkk.cell 3; have e4 := hkk.cell 4
          simp only [List.getElem?_cons_zero, List.getElem?_cons_succ] at e0 e1 e2 e3 e4
          have i1 : (m : Int) < (eps.length : Int) := by omega
          have i0 : (0 : Int) ≤ (m : Int) := by omega
          have i2 : (m : Int) ≤ (m : Int) + 1 := by omega
          have i3 : (m : Int) + 1 ≤ (vc : Int) := by omega
          have i4 : (0 : Int) ≤ (m : Int) + 1 := by omega
          have i5 : ((m : Int) + 1).toNat = m + 1 := by omega
          have i6 : IntKind.i64.wrap ((m : Int) + 1) = (m : Int) + 1 := IntWalk.i64_in _ (by omega)
          have i7 : ¬ vc = m := by omega
          have HG : RowKit.Hid (anyTo G (m + 1) = (fb || decide (UE = 0 ∧ EU = 0 ∧ SU = S))) := Lib.hid (by rw [← hgm, HFB.out]; rfl)
          have HRDd := Lib.hid (rdE_dr (E := elS) HRDy.out)
          have HMIDd := Lib.hid (rd_dr HMID.out)
          clear hmid hcv hcw hws hgm hkk hby HFB
          go_wp2_with fail
          go_region_held3 (fun w' => w'.cell? ⟨w3.heap.size, 0, none⟩ = some (.int .i64 ki) ∧ w'.cell? ⟨w3.heap.size, 1, none⟩ = some (.int .i64 ka) ∧ w'.cell? ⟨w3.heap.size, 2, none⟩ = some (.int .i64 kb) ∧ w'.cell? ⟨w3.heap.size, 3, none⟩ = some (.int .i64 ks) ∧ w'.cell? ⟨w3.heap.size, 4, none⟩ = some (.slice da kl.length dc))
            (first | (go_split_ands; (repeat' apply And.intro) <;> first | (with_reducible assumption) | (refine kp bX ?_; with_reducible assumption)) | go_keep | fail)
            (first
              | (go_at_call 9; refine (CW.out _ _ ?_ _ ?_).mono ?_; exact HMIDd.out; exact HRDd.out; rintro en4 w4 ⟨rfl, bX⟩; have HB4 := Lib.hid (bt (bn (br _) 1) bX))
              | fail)
          have HB4b := Lib.hid (bt HBZ.out HB4.out)
          clear e0 e1 e2 e3 e4
          go_wp2_with fail
          refine (CV.out _).mono ?_
          rintro en5 w5 ⟨rfl, b5⟩
          have HB5 := Lib.hid (bt HB4b.out b5); clear b5
          go_wp2_with fail
          refine (CU.out _).mono ?_
          rintro en6 w6 ⟨rfl, b6⟩
          have HB6 := Lib.hid (bt HB5.out b6); clear b6 i2 i3 i4 i5 i7
          cases fb
          · by_cases c1 : UE = 0
            · by_cases c2 : EU = 0
              · by_cases c3 : SU = S
                · have f3 : (SU.toList == S.toList) = true := by rw [c3]; simp
                  have hv2 : anyTo G (m + 1) = true := by rw [HG.out, decide_eq_true ⟨c1, c2, c3⟩]; rfl
                  have HV2 := Lib.hid hv2
                  subst c1 c2
                  clear c3 hv2
                  go_wp2
                  go_roundw
                  case rel => exact ⟨m + 1, true, by omega, by go_num, rfl, HV2.out.symm, HB6.out⟩
                  case measure => simp [intOf]; omega
                · have f3 : (SU.toList == S.toList) = false := str_ne c3
                  have hv2 : anyTo G (m + 1) = false := by rw [HG.out, decide_eq_false (fun h => c3 h.2.2)]; rfl
                  have HV2 := Lib.hid hv2
                  subst c1 c2
                  clear c3 hv2
                  go_wp2
                  go_roundw
                  case rel => exact ⟨m + 1, false, by omega, by go_num, rfl, HV2.out.symm, HB6.out⟩
                  case measure => simp [intOf]; omega
              · have f2 : (EU == 0) = false := by simp [c2]
                have hv2 : anyTo G (m + 1) = false := by rw [HG.out, decide_eq_false (fun h => c2 h.2.1)]; rfl
                have HV2 := Lib.hid hv2
                subst c1
                clear c2 hv2
                go_wp2
                go_roundw
                case rel => exact ⟨m + 1, false, by omega, by go_num, rfl, HV2.out.symm, HB6.out⟩
                case measure => simp [intOf]; omega
            · have f1 : (UE == 0) = false := by simp [c1]
              have hv2 : anyTo G (m + 1) = false := by rw [HG.out, decide_eq_false (fun h => c1 h.1)]; rfl
              have HV2 := Lib.hid hv2
              clear c1 hv2
              go_wp2
              go_roundw
              case rel => exact ⟨m + 1, false, by omega, by go_num, rfl, HV2.out.symm, HB6.out⟩
              case measure => simp [intOf]; omega
          · have hv2 : anyTo G (m + 1) = true := by rw [HG.out]; rfl
            have HV2 := Lib.hid hv2
            clear hv2
            go_wp2
            go_roundw
            case rel => exact ⟨m + 1, true, by omega, by go_num, rfl, HV2.out.symm, HB6.out⟩
            case measure => simp [intOf]; omega
        · have e : m = eps.length := by omega
          subst e
          have hft : fb = true := by rw [HFB.out]; exact HANY.out
          subst hft
          go_wp2
          go_ret
          exact ⟨by first | rfl | (simp; done), HBY.out⟩
end Gt
end Go.Proofs.YtdfdjampodkpgaaDoor
