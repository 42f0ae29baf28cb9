/- Joined by shake.py: RingBegun RingLaws OpenW OpenR RingEnd RingRef RingKey RingLaws2 RingRef2 RingTells RingRef3. -/
import Derived.Test.YtdfdjampodkpgaaDoorJDrop
import Derived.Deep.RegionHeld3
import Derived.OwnWalk
import Derived.Test.YtdfdjampodkpgaaDoorJTag
import Derived.ProofKit
import Derived.OpenShut
import Derived.Lib.SmallJoins
import Derived.Laws.IdiomArrays
import Derived.Test.YtdfdjampodkpgaaDoorJRing
import Derived.Deep.Slices
import Derived.Deep.Fields
import Derived.ChangeSame
import Derived.Deep.LoopGhost
import Derived.Laws.StructEq
import Derived.Test.YtdfdjampodkpgaaDoorJTagR
set_option linter.unusedSimpArgs false
set_option linter.unusedVariables false
set_option maxRecDepth 20000

/-! RingBegun -/
section
/- Rings: what must be in any case. -/
set_option linter.unusedSimpArgs false
set_option linter.unusedVariables false
namespace Go.Proofs.YtdfdjampodkpgaaDoor
open Go.RowKit
namespace Rg
open Tg
def K1 : Ep := (3, 1, 2)
def K2 : Ep := (7, 3, 4)
def wren : ByteArray := ⟨#[119, 114, 101, 110]⟩
theorem rd2a (w : World) (p p' : Int) (q r q' r' : W64) (t : TypeId) (H : Nat) (hH : w.heap.size = H) : Rd 3 eE (w.alloc (.cells #[.int .i64 p, .int .u64 (wi q), .int .u64 (wi r), .int .i64 p', .int .u64 (wi q'), .int .u64 (wi r')] t)) (.slice (some ⟨H, 0, none⟩) 2 2) [(p, q, r), (p', q', r')] := by
  subst hH
  refine ⟨_, _, rfl, Nat.le_refl _, by unfold maxLen; omega, fun _ => ⟨w.heap.size, 0, rfl, by simp, ?_⟩⟩
  intro i hi j u hu
  rw [World.cell?_alloc_mark]
  match i, hi with
  | 0, _ =>
    match j with
    | 0 => simp [eE] at hu; subst hu; rfl
    | 1 => simp [eE] at hu; subst hu; rfl
    | 2 => simp [eE] at hu; subst hu; rfl
    | j + 3 => simp [eE] at hu
  | 1, _ =>
    match j with
    | 0 => simp [eE] at hu; subst hu; rfl
    | 1 => simp [eE] at hu; subst hu; rfl
    | 2 => simp [eE] at hu; subst hu; rfl
    | j + 3 => simp [eE] at hu
theorem keys_any (w : World) : Calls Tryd.prog 36 #[] w fun e w' => ∃ v', e = .returned v' ∧ Rd 3 eE w' v' [K1, K2] ∧ Below w.heap.size w w' := by
  have hr := Lib.hid (rd2a w 3 7 1 2 3 4 54 w.heap.size rfl)
  go_enter Tryd.func36, Tryd.ntmps36
  go_wp2_with fail
  go_ret
  exact ⟨_, rfl, by first | exact hr.out | exact rd_dr hr.out, by first | exact (br _).alloc (Nat.le_refl _) _ | exact bn ((br _).alloc (Nat.le_refl _) _) _⟩
def TT : ByteArray := sealed K2 wren
theorem k_chk : chk [K1, K2] = 0 := by decide
theorem k_seal : sealF [K1, K2] wren = (TT, 0) := by
  unfold sealF; rw [if_neg (by decide)]; rfl
theorem k_size : TT.size = 13 := by unfold TT; rw [sealed_size]; rfl
theorem k_open : openF [K1, K2] TT = (wren, 7, 0) := open_sealed (xs := [K1, K2]) k_chk 1 (by decide) wren (by decide)
theorem k_drop : dropF [K1, K2] 7 = ([K1], 0) := by decide
theorem k_lost : openF [K1] TT = (emptyS, 0, 5) := open_lost (xs := [K1]) (by decide) K2 (by decide) wren (by decide) (by decide)
theorem k_add : addF [K1] (9, 0) = ([K1, (4, 9, 0)], 0) := by decide
theorem k_chk2 : chk [(2, 0, 0), (2, 0, 0)] = 4 := by decide
end Rg
end Go.Proofs.YtdfdjampodkpgaaDoor
end

/-! RingLaws -/
section
/- The law on sealing and opening again. -/
set_option linter.unusedSimpArgs false
set_option linter.unusedVariables false
namespace Go.Proofs.YtdfdjampodkpgaaDoor
open Go.RowKit
namespace Rg
open Tg
end Rg
end Go.Proofs.YtdfdjampodkpgaaDoor
end

/-! OpenW -/
section
/- Arguments that are four words, a key, a word: what they are. -/
set_option linter.unusedSimpArgs false
set_option linter.unusedVariables false
namespace Go.Proofs.YtdfdjampodkpgaaDoor
open Go.ChangeShapes Go.WideShapes Go.ChangeAt Go.RowKit Go.Joins Go.Deep
namespace Tg
theorem word_of {a : Int} (h : (Lit.int .u64 a).wf = true) : ∃ x : W64, a = wi x := by
  have := wf_u64 h
  refine ⟨BitVec.ofNat 64 a.toNat, ?_⟩
  unfold wi
  rw [BitVec.toNat_ofNat, Nat.mod_eq_of_lt (by omega)]; omega
end Tg
theorem openWords {H : Type} {enc : TypeId × Value → H} {W : World} {b0 : Nat} {v : Value} {d : DataW H} {p : List MemPlace} (hv : Value.okWide Tryd.prog W .any b0 126 v) (h : DataW.Trod enc Tryd.prog W 0 (fun _ => true) true 126 v d p) : ∃ x : Tg.S, v = Tg.aS x ∧ True := by
  have hv2 := hv
  simp only [Value.okWide, Tryd.underlying126] at hv2
  obtain ⟨cs, rfl, hsz, _⟩ := hv2
  have hC : Tryd.prog.cellsOf 126 = 4 := by kernel_rfl
  rw [hC] at hsz
  obtain ⟨l⟩ := cs
  match l, hsz with
  | [c0, c1, c2, c3], _ =>
    obtain ⟨fuel, hf⟩ := h
    obtain ⟨y0, y1, y2, y3, n, _, e0, e1, e2, e3⟩ := trod_array4 Tryd.underlying126 (by kernel_rfl) hf
    obtain ⟨z0, q0, _, f0⟩ := DataW.trod_int Tryd.underlying43 e0
    obtain ⟨z1, q1, _, f1⟩ := DataW.trod_int Tryd.underlying43 e1
    obtain ⟨z2, q2, _, f2⟩ := DataW.trod_int Tryd.underlying43 e2
    obtain ⟨z3, q3, _, f3⟩ := DataW.trod_int Tryd.underlying43 e3
    simp at q0 q1 q2 q3
    subst q0 q1 q2 q3
    obtain ⟨x0, rfl⟩ := Tg.word_of f0
    obtain ⟨x1, rfl⟩ := Tg.word_of f1
    obtain ⟨x2, rfl⟩ := Tg.word_of f2
    obtain ⟨x3, rfl⟩ := Tg.word_of f3
    exact ⟨⟨x0, x1, x2, x3⟩, rfl, trivial⟩
theorem openKey {H : Type} {enc : TypeId × Value → H} {W : World} {b0 : Nat} {v : Value} {d : DataW H} {p : List MemPlace} (hv : Value.okWide Tryd.prog W .any b0 45 v) (h : DataW.Trod enc Tryd.prog W 0 (fun _ => true) true 45 v d p) : ∃ x : Tg.W64 × Tg.W64, v = Tg.aK x.1 x.2 ∧ True := by
  obtain ⟨c0, c1, y0, y1, m, rfl, rfl, rfl, hy0, hy1⟩ := open_agg2 Tryd.underlying45 (by kernel_rfl) (by kernel_rfl) hv h
  obtain ⟨a, e0, _, wa⟩ := DataW.trod_int Tryd.underlying43 hy0
  obtain ⟨b, e1, _, wb⟩ := DataW.trod_int Tryd.underlying43 hy1
  simp at e0 e1
  subst e0 e1
  obtain ⟨x0, rfl⟩ := Tg.word_of wa
  obtain ⟨x1, rfl⟩ := Tg.word_of wb
  exact ⟨(x0, x1), rfl, trivial⟩
end Go.Proofs.YtdfdjampodkpgaaDoor
end

/-! OpenR -/
section
/- Arguments that are keys, or slices of epochs: what they are. -/
set_option linter.unusedSimpArgs false
set_option linter.unusedVariables false
namespace Go.Proofs.YtdfdjampodkpgaaDoor
open Go.ChangeShapes Go.WideShapes Go.ChangeAt Go.RowKit Go.Joins Go.Deep
namespace Rg
theorem addr_of {W : World} {a : Addr} {v : Value} (h : W.cell? a = some v) : a = ⟨a.block, a.off, none⟩ := by
  obtain ⟨b, o, s⟩ := a
  cases s with
  | none => rfl
  | some s =>
    unfold World.cell? at h
    simp at h
    split at h <;> simp at h
theorem add_at {a : Addr} (ha : a = ⟨a.block, a.off, none⟩) (k : Nat) : a.add k = ⟨a.block, a.off + k, none⟩ := by
  unfold Addr.add
  by_cases h0 : k = 0
  · rw [if_pos h0]; subst h0; simpa using ha
  · rw [if_neg h0]
end Rg
theorem openEpochs {H : Type} {enc : TypeId × Value → H} {W : World} {b0 : Nat} {v : Value} {d : DataW H} {p : List MemPlace} (hv0 : Value.okWide Tryd.prog W .any b0 22 v) (h : DataW.Trod enc Tryd.prog W 0 (fun _ => true) true 22 v d p) : ∃ xs : List Rg.Ep, Rd 3 Rg.eE W v xs := by
  obtain ⟨a0, len0, cap0, rfl⟩ := okWide_slice Tryd.underlying22 hv0
  obtain ⟨fuel, hf⟩ := h
  have hC : Tryd.prog.cellsOf 54 = 3 := by kernel_rfl
  have hCi : Tryd.prog.cellsOf 3 = 1 := by kernel_rfl
  have hCk : Tryd.prog.cellsOf 45 = 2 := by kernel_rfl
  have hCu : Tryd.prog.cellsOf 43 = 1 := by kernel_rfl
  rcases open_slice Tryd.underlying22 hf with ⟨h1, h2⟩ | ⟨a, len, cap, m, n, D, Pl, h1, h2, h3, h4, h5, h6, h7⟩
  · simp [Value.cells] at h1
    obtain ⟨rfl, rfl, rfl⟩ := h1
    exact ⟨[], Rd.nil W⟩
  · simp [Value.cells] at h1
    obtain ⟨rfl, rfl, rfl⟩ := h1
    rw [if_pos rfl] at h5
    have key : ∀ i : Nat, ∃ q : Rg.Ep, i < m → W.cell? (a.add (i * 3)) = some (.int .i64 q.1) ∧ W.cell? (a.add (i * 3 + 1)) = some (.int .u64 (Tg.wi q.2.1)) ∧ W.cell? (a.add (i * 3 + 2)) = some (.int .u64 (Tg.wi q.2.2)) := by
      intro i
      by_cases him : i < m
      · obtain ⟨cs', hc, ht⟩ := h7 i him
        rw [hC] at hc
        obtain ⟨_, hcl, hat⟩ := World.cells?_some hc
        obtain ⟨ys, n', _, _, _, hlen, hg⟩ := DataW.trod_struct Tryd.underlying54 ht
        match cs', hcl with
        | [c0, c1, c2], _ =>
          have g0 := hg 0 _ rfl
          have g1 := hg 1 _ rfl
          have hl2 : ys.length = 2 := hlen
          have e0 : DataW.trod enc Tryd.prog W 0 (fun _ => true) true n' 3 [c0] = ys[0]? := by simpa [hCi] using g0
          have e1 : DataW.trod enc Tryd.prog W 0 (fun _ => true) true n' 45 [c1, c2] = ys[1]? := by simpa [hCk] using g1
          obtain ⟨z0, hz0⟩ : ∃ z, ys[0]? = some z := ⟨_, List.getElem?_eq_getElem (by omega)⟩
          obtain ⟨z1, hz1⟩ : ∃ z, ys[1]? = some z := ⟨_, List.getElem?_eq_getElem (by omega)⟩
          rw [hz0] at e0; rw [hz1] at e1
          obtain ⟨q0, r0, _, _⟩ := DataW.trod_int Tryd.underlying3 e0
          obtain ⟨ks, n2, _, _, _, hlen2, hg2⟩ := DataW.trod_struct Tryd.underlying45 e1
          have hl3 : ks.length = 2 := hlen2
          have g2 := hg2 0 _ rfl
          have g3 := hg2 1 _ rfl
          have e2 : DataW.trod enc Tryd.prog W 0 (fun _ => true) true n2 43 [c1] = ks[0]? := by simpa [hCu] using g2
          have e3 : DataW.trod enc Tryd.prog W 0 (fun _ => true) true n2 43 [c2] = ks[1]? := by simpa [hCu] using g3
          obtain ⟨z2, hz2⟩ : ∃ z, ks[0]? = some z := ⟨_, List.getElem?_eq_getElem (by omega)⟩
          obtain ⟨z3, hz3⟩ : ∃ z, ks[1]? = some z := ⟨_, List.getElem?_eq_getElem (by omega)⟩
          rw [hz2] at e2; rw [hz3] at e3
          obtain ⟨q2, r2, _, f2⟩ := DataW.trod_int Tryd.underlying43 e2
          obtain ⟨q3, r3, _, f3⟩ := DataW.trod_int Tryd.underlying43 e3
          simp at r0 r2 r3
          subst r0 r2 r3
          obtain ⟨x2, rfl⟩ := Tg.word_of f2
          obtain ⟨x3, rfl⟩ := Tg.word_of f3
          refine ⟨(q0, x2, x3), fun _ => ⟨?_, ?_, ?_⟩⟩
          · have := hat 0 (by omega); rw [Addr.add_zero'] at this; simpa using this
          · have := hat 1 (by omega); rw [Go.Deep.add_add] at this; simpa using this
          · have := hat 2 (by omega); rw [Go.Deep.add_add] at this; simpa using this
      · exact ⟨(0, 0, 0), fun x => absurd x him⟩
    obtain ⟨f, hq⟩ := Classical.axiomOfChoice key
    have hl : ((List.range len0).map f).length = len0 := by simp
    refine ⟨(List.range len0).map f, some a, cap0, by rw [hl], by omega, h4, fun hn => ?_⟩
    have c0 := (hq 0 (by omega)).1
    rw [Nat.zero_mul, Addr.add_zero'] at c0
    have ha := Rg.addr_of c0
    refine ⟨a.block, a.off, by rw [← ha], World.block_lt_of_cell? W a c0, fun i hi j u hu => ?_⟩
    have hil : i < len0 := by omega
    obtain ⟨ci, di, ei⟩ := hq i (by omega)
    rw [Rg.add_at ha] at ci di ei
    have hfi : ((List.range len0).map f)[i] = f i := by simp
    rw [hfi] at hu
    match j with
    | 0 => simp [Rg.eE] at hu; subst hu; exact ci
    | 1 => simp [Rg.eE] at hu; subst hu; exact di
    | 2 => simp [Rg.eE] at hu; subst hu; exact ei
    | j + 3 => simp [Rg.eE] at hu
end Go.Proofs.YtdfdjampodkpgaaDoor
end

/-! RingEnd -/
section
/- The law on sealing and opening again: all cases. -/
set_option linter.unusedSimpArgs false
set_option linter.unusedVariables false
namespace Go.Proofs.YtdfdjampodkpgaaDoor
open Go.RowKit
namespace Rg
open Tg
theorem drop_no {xs : List Ep} (hc : chk xs = 0) (i : Nat) (hi : i < xs.length) : atN xs[i].1 (xs.eraseIdx i) = (xs.eraseIdx i).length := by
  obtain ⟨_, _, hp⟩ := chk_spec hc
  refine atN_eq _ _ _ (Nat.le_refl _) (fun j hj _ => ?_) (fun h => absurd h (Nat.lt_irrefl _))
  rw [erase_at xs i j hi hj]
  have hl := List.length_eraseIdx_of_lt hi
  by_cases hji : j < i
  · have := List.pairwise_iff_getElem.1 hp j i (by omega) hi hji
    simp only [if_pos hji]; omega
  · have := List.pairwise_iff_getElem.1 hp i (j + 1) hi (by omega) (by omega)
    simp only [if_neg hji]; omega
theorem drop_keeps {xs : List Ep} (hc : chk xs = 0) (i k : Nat) (hi : i < xs.length) (hk : k < xs.length) (hne : i ≠ k) : ∃ j, ∃ h : j < (xs.eraseIdx i).length, (xs.eraseIdx i)[j] = xs[k] := by
  have hl := List.length_eraseIdx_of_lt hi
  by_cases h : k < i
  · exact ⟨k, by omega, by rw [erase_at xs i k hi (by omega)]; simp only [if_pos h]⟩
  · refine ⟨k - 1, by omega, ?_⟩
    rw [erase_at xs i (k - 1) hi (by omega)]
    simp only [if_neg (show ¬ k - 1 < i by omega)]
    congr 1; omega
end Rg
end Go.Proofs.YtdfdjampodkpgaaDoor
end

/-! RingRef -/
section
/- The document's functions on rings: is a ring right; the key of an epoch. -/
set_option linter.unusedSimpArgs false
set_option linter.unusedVariables false
namespace Go.Proofs.YtdfdjampodkpgaaDoor
open Go.RowKit
namespace Rg
open Tg
set_option maxHeartbeats 2000000 in
theorem checkR_any (v : Value) (xs : List Ep) (w : World) (h : Rd 3 eE w v xs) : Calls Tryd.prog 64 #[v] w (ErrQ (chk xs) w) := by
  obtain ⟨a, cap, rfl, h1, h2, h3⟩ := h
  by_cases hl : 8 < xs.length
  · have hF : chk xs = 2 := by unfold chk; rw [if_pos hl]
    have HF := Lib.hid hF; clear hF h3
    have hl' : (8 : Int) < (xs.length : Int) := by omega
    go_enter Tryd.func64, Tryd.ntmps64
    go_wp2
    go_ret
    exact ⟨by rw [HF.out]; rfl, br _⟩
  · have hF : chk xs = chkR 0 xs := by unfold chk; rw [if_neg hl]
    have HF := Lib.hid hF; clear hF
    have H3 := Lib.hid h3; clear h3
    go_enter Tryd.func64, Tryd.ntmps64
    go_wp2
    go_loopw [3, 4] (fun m i wr => ∃ k : Nat, k ≤ xs.length ∧ i = .int .i64 k ∧ m = .int .i64 (prevNo xs k) ∧ chk xs = chkR (prevNo xs k) (xs.drop k) ∧ Below w.heap.size w wr) (fun _ i _ => xs.length - (intOf i).toNat)
    case atStart => exact ⟨0, Nat.zero_le _, rfl, rfl, HF.out, br _⟩
    case round =>
      obtain ⟨k, hk, rfl, rfl, hch, hbw⟩ := hrel
      by_cases hlt : k < xs.length
      · obtain ⟨g, off, rfl, hbl, hc⟩ := H3.out (by omega)
        have q0 := (eE_at hc k hlt).1
        have c0 := (hbw.cell (p := ⟨g, off + k * 3, none⟩) hbl).trans q0
        have i1 : (k : Int) < (xs.length : Int) := by omega
        have i0 : (0 : Int) ≤ (k : Int) := by omega
        have hstep := chkR_step xs k hlt
        rw [hstep] at hch
        have hpn : prevNo xs (k + 1) = xs[k].1 := by show (xs.getD k (0, 0, 0)).1 = _; rw [List.getD_eq_getElem?_getD, List.getElem?_eq_getElem hlt]; rfl
        have HPN := Lib.hid hpn
        have HBW := Lib.hid hbw
        rcases (show xs[k].1 < 1 ∨ (1 ≤ xs[k].1 ∧ 255 < xs[k].1) ∨ (1 ≤ xs[k].1 ∧ xs[k].1 ≤ 255) by omega) with h | ⟨h, h'⟩ | ⟨h, h'⟩
        · rw [if_pos (by omega)] at hch
          have HCH := Lib.hid hch
          clear hch hstep hc q0 hbw hpn
          generalize xs[k].1 = no at *
          generalize prevNo xs k = pr at *
          go_wp2
          go_ret
          exact ⟨by rw [HCH.out]; rfl, HBW.out⟩
        · rw [if_pos (by omega)] at hch
          have HCH := Lib.hid hch
          clear hch hstep hc q0 hbw hpn
          generalize xs[k].1 = no at *
          generalize prevNo xs k = pr at *
          go_wp2
          go_ret
          exact ⟨by rw [HCH.out]; rfl, HBW.out⟩
        · rw [if_neg (by omega)] at hch
          by_cases hle : xs[k].1 ≤ prevNo xs k
          · rw [if_pos hle] at hch
            have HCH := Lib.hid hch
            clear hch hstep hc q0 hbw hpn
            generalize xs[k].1 = no at *
            generalize prevNo xs k = pr at *
            go_wp2_with fail
            try go_quiet (fail)
            go_wp2
            go_ret
            exact ⟨by rw [HCH.out]; rfl, by first | exact HBW.out | exact bn HBW.out _⟩
          · rw [if_neg hle] at hch
            have HCH := Lib.hid hch
            clear hch hstep hc q0 hbw hpn
            generalize xs[k].1 = no at *
            generalize prevNo xs k = pr at *
            go_wp2_with fail
            try go_quiet (fail)
            go_wp2
            go_roundw
            case rel => exact ⟨k + 1, by omega, by go_num, by rw [HPN.out], HCH.out, by first | exact HBW.out | exact bn HBW.out _⟩
            case measure => simp [intOf]; omega
      · have hch2 : chk xs = 0 := hch.trans (chkR_end xs k (by omega) _)
        have HCH := Lib.hid hch2
        clear hch hch2 H3
        go_wp2
        go_ret
        exact ⟨by rw [HCH.out]; rfl, hbw⟩
end Rg
end Go.Proofs.YtdfdjampodkpgaaDoor
end

/-! RingKey -/
section
/- The document's functions on rings: the key of an epoch; are two rings one. -/
set_option linter.unusedSimpArgs false
set_option linter.unusedVariables false
namespace Go.Proofs.YtdfdjampodkpgaaDoor
open Go.RowKit
namespace Rg
open Tg
theorem ne_ep (x y : Ep) (w : World) : Sem.run Tryd.prog (binOp .neq 54 (.agg #[.int .i64 x.1, .int .u64 (wi x.2.1), .int .u64 (wi x.2.2)]) (.agg #[.int .i64 y.1, .int .u64 (wi y.2.1), .int .u64 (wi y.2.2)])) w = .ok (.bool (!decide (x = y))) w := by
  have e1 : (x.1 == y.1) = decide (x.1 = y.1) := rfl
  have hx : (x = y) ↔ (x.1 = y.1 ∧ x.2.1 = y.2.1 ∧ x.2.2 = y.2.2) := by
    obtain ⟨a, b, c⟩ := x; obtain ⟨a', b', c'⟩ := y; simp
  have e2 : (wi x.2.1 == wi y.2.1) = decide (x.2.1 = y.2.1) := ei
  have e3 : (wi x.2.2 == wi y.2.2) = decide (x.2.2 = y.2.2) := ei
  have hd : decide (x = y) = (decide (x.1 = y.1) && (decide (x.2.1 = y.2.1) && decide (x.2.2 = y.2.2))) := by
    rw [Bool.eq_iff_iff]; simp only [decide_eq_true_eq, Bool.and_eq_true]; exact hx
  rw [hd, ← e1, ← e2, ← e3]
  clear hd hx e1 e2 e3
  generalize x.1 = n; generalize wi x.2.1 = a; generalize wi x.2.2 = b
  generalize y.1 = n'; generalize wi y.2.1 = a'; generalize wi y.2.2 = b'
  go_simp
  by_cases h1 : n = n' <;> by_cases h2 : a = a' <;> by_cases h3 : b = b' <;> simp [h1, h2, h3]
def keyF (no : Int) (xs : List Ep) : (W64 × W64) × Bool := match xs[atN no xs]? with | some x => (x.2, true) | none => ((0, 0), false)
def KeyQ (r : (W64 × W64) × Bool) (w : World) (e : Ending) (w' : World) : Prop := e = .returned (.tuple #[aKey r.1.1 r.1.2, .bool r.2]) ∧ Below w.heap.size w w'
set_option maxHeartbeats 2000000 in
theorem key_any (v : Value) (xs : List Ep) (no : Int) (w : World) (h : Rd 3 eE w v xs) : Calls Tryd.prog 68 #[v, .int .i64 no] w (KeyQ (keyF no xs) w) := by
  have hle := h.len_le
  obtain ⟨a, cap, rfl, h1, h2, h3⟩ := h
  have H3 := Lib.hid h3; clear h3
  obtain ⟨RES, hRES⟩ : ∃ RES, keyF no xs = RES := ⟨_, rfl⟩
  rw [hRES]
  have HRES := Lib.hid hRES; clear hRES
  go_enter Tryd.func68, Tryd.ntmps68
  go_wp2
  go_loopw [6] (fun i wr => ∃ k : Nat, k ≤ xs.length ∧ i = .int .i64 k ∧ (∀ j (hj : j < xs.length), j < k → xs[j].1 ≠ no) ∧ wr = w.alloc (.cells #[.int .u64 0, .int .u64 0] 45)) (fun i _ => xs.length - (intOf i).toNat)
  case atStart => exact ⟨0, Nat.zero_le _, rfl, fun j hj hk => by omega, rfl⟩
  case round =>
    obtain ⟨k, hk, rfl, hall, rfl⟩ := hrel
    have hbw : Below w.heap.size w (w.alloc (.cells #[.int .u64 0, .int .u64 0] 45)) := (br _).alloc (Nat.le_refl _) _
    have b0 : (w.alloc (.cells #[.int .u64 0, .int .u64 0] 45)).cell? ⟨w.heap.size, 0, none⟩ = some (.int .u64 0) := by rw [World.cell?_alloc_mark]; rfl
    have b1 : (w.alloc (.cells #[.int .u64 0, .int .u64 0] 45)).cell? ⟨w.heap.size, 1, none⟩ = some (.int .u64 0) := by rw [World.cell?_alloc_mark]; rfl
    have z0 : (w.alloc (.cells #[.int .u64 0, .int .u64 0] 45)).frozen? ⟨w.heap.size, 0, none⟩ = false := by rw [World.frozen?_alloc_mark]; simp
    have z1 : (w.alloc (.cells #[.int .u64 0, .int .u64 0] 45)).frozen? ⟨w.heap.size, 1, none⟩ = false := by rw [World.frozen?_alloc_mark]; simp
    by_cases hlt : k < xs.length
    · obtain ⟨g, off, rfl, hbl, hc⟩ := H3.out (by omega)
      obtain ⟨q0, q1, q2⟩ := eE_at hc k hlt
      have d0 := (hbw.cell (p := ⟨g, off + k * 3, none⟩) hbl).trans q0
      have d1 := (hbw.cell (p := ⟨g, off + k * 3 + 1, none⟩) hbl).trans q1
      have d2 := (hbw.cell (p := ⟨g, off + k * 3 + 2, none⟩) hbl).trans q2
      have i1 : (k : Int) < (xs.length : Int) := by omega
      have i0 : (0 : Int) ≤ (k : Int) := by omega
      have HALL := Lib.hid hall
      by_cases he : xs[k].1 = no
      · have hat : atN no xs = k := atN_eq no xs k (by omega) hall (fun _ => he)
        have hR := HRES.out
        unfold keyF at hR
        rw [hat, List.getElem?_eq_getElem hlt] at hR
        simp only at hR
        have HR := Lib.hid hR
        obtain ⟨ka, hka⟩ : ∃ ka, xs[k].2.1 = ka := ⟨_, rfl⟩
        obtain ⟨kb, hkb⟩ : ∃ kb, xs[k].2.2 = kb := ⟨_, rfl⟩
        have HKA := Lib.hid hka; have HKB := Lib.hid hkb
        rw [hka] at d1; rw [hkb] at d2
        rw [he] at d0
        clear hc q0 q1 q2 he hall hat hR hka hkb
        go_wp2_with fail
        have y0 : (w.alloc (.cells #[.int .u64 (wi ka), .int .u64 (wi kb)] 45)).cell? ⟨w.heap.size, 0, none⟩ = some (.int .u64 (wi ka)) := by rw [World.cell?_alloc_mark]; rfl
        have y1 : (w.alloc (.cells #[.int .u64 (wi ka), .int .u64 (wi kb)] 45)).cell? ⟨w.heap.size, 1, none⟩ = some (.int .u64 (wi kb)) := by rw [World.cell?_alloc_mark]; rfl
        refine bodyPost_ret (v := .tuple #[aKey ka kb, .bool true]) (by simp [results, Tryd.results68, go_sem, aKey, y0, y1]) rfl ⟨?_, (br w).alloc (Nat.le_refl _) _⟩
        rw [← HR.out, ← HKA.out, ← HKB.out]
      · have hall2 : ∀ j (hj : j < xs.length), j < k + 1 → xs[j].1 ≠ no := fun j hj hjk => by
          by_cases e : j = k
          · subst e; exact he
          · exact hall j hj (by omega)
        have HA2 := Lib.hid hall2
        clear hc q0 q1 q2 hall hall2
        generalize xs[k].1 = nn at *; generalize wi xs[k].2.1 = ka at *; generalize wi xs[k].2.2 = kb at *
        go_wp2
        go_roundw
        case rel => exact ⟨k + 1, by omega, by go_num, HA2.out, by first | rfl | trivial⟩
        case measure => simp [intOf]; omega
    · have hat : atN no xs = xs.length := atN_eq no xs xs.length (Nat.le_refl _) (fun j hj _ => hall j hj (by omega)) (fun h => absurd h (Nat.lt_irrefl _))
      have hR := HRES.out
      unfold keyF at hR
      rw [hat, List.getElem?_eq_none (Nat.le_refl _)] at hR
      simp only at hR
      have HR := Lib.hid hR
      have e00 : wi 0 = 0 := by decide
      have HBW := Lib.hid hbw
      clear hat hR hall hbw H3 HRES
      go_wp2_with fail
      refine bodyPost_ret (v := .tuple #[.agg #[.int .u64 0, .int .u64 0], .bool false]) (by simp [results, Tryd.results68, go_sem, b0, b1]) rfl ⟨?_, HBW.out⟩
      rw [← HR.out]; simp only [aKey, e00]
end Rg
end Go.Proofs.YtdfdjampodkpgaaDoor
end

/-! RingLaws2 -/
section
/- The laws on who is added and on what opens. -/
set_option linter.unusedSimpArgs false
set_option linter.unusedVariables false
namespace Go.Proofs.YtdfdjampodkpgaaDoor
open Go.RowKit
namespace Rg
open Tg
theorem drop_added {xs : List Ep} (hc : chk xs = 0) (h8 : xs.length < 8) (hne : lastNo xs ≠ 255) (k : W64 × W64) : dropF (xs ++ [(lastNo xs + 1, k)]) (lastNo xs + 1) = (xs, 0) := by
  have hca := chk_add hc h8 hne k
  obtain ⟨_, _, hp⟩ := chk_spec hca
  have hl : xs.length < (xs ++ [(lastNo xs + 1, k)]).length := by simp
  have hat := atN_self _ xs.length hl hp
  have he : (xs ++ [(lastNo xs + 1, k)])[xs.length]'hl = (lastNo xs + 1, k) := by simp
  rw [he] at hat
  simp only at hat
  unfold dropF
  rw [if_neg (fun h => h hca), hat, if_neg (by simp)]
  congr 1
  rw [List.eraseIdx_append_of_length_le (Nat.le_refl _)]
  simp
theorem open_ok {xs : List Ep} {t s : ByteArray} {no : Int} (hF : openF xs t = (s, no, 0)) : ∃ k : W64 × W64, keyF no xs = (k, true) ∧ sealF [(no, k)] s = (t, 0) ∧ s.size ≤ 120 := by
  rcases open_cases xs t with ⟨hc, h⟩ | ⟨_, _, h⟩ | ⟨_, _, h⟩ | ⟨_, _, _, _, h⟩ | ⟨hlt, hc, h9, h120, hm, h⟩ | ⟨hlt, _, _, _, _, h⟩
  · rw [hF] at h; injection h with _ h; injection h with _ h; exact absurd h.symm hc
  · rw [hF] at h; simp at h
  · rw [hF] at h; simp at h
  · rw [hF] at h; simp at h
  · rw [hF] at h
    injection h with hs h
    injection h with hno _
    subst hs
    have hat := (atN_spec no xs).2 (by rw [hno]; exact hlt)
    obtain ⟨_, hr, _⟩ := chk_spec hc
    simp only [← hno] at hlt hm
    have hrx := hr xs[atN no xs] (List.getElem_mem hlt)
    have hk : keyF no xs = (xs[atN no xs].2, true) := by unfold keyF; rw [List.getElem?_eq_getElem hlt]
    have hb1 : (bodyOf t).size = t.size - 8 := by unfold bodyOf; simp
    refine ⟨xs[atN no xs].2, hk, ?_, by simp [hb1]; omega⟩
    have hchk : chk [(no, xs[atN no xs].2)] = 0 := by
      rw [hat] at hrx
      exact chk_of (by simp) (fun x hx => by have e : x = (no, xs[atN no xs].2) := by simpa using hx
                                             subst e; exact hrx) (List.pairwise_singleton _ _)
    have hbody : oneB no ++ (bodyOf t).extract 1 (t.size - 8) = bodyOf t := by
      apply ba_ext
      have hl : (bodyOf t).data.toList.length = t.size - 8 := by rw [← hb1]; rfl
      have hl1 : t.data.toList.length = t.size := rfl
      have hd : (bodyOf t).data.toList = t.data.toList.take (t.size - 8) := by
        unfold bodyOf; simp [List.extract_eq_take_drop]
      obtain ⟨c, l, hcl⟩ : ∃ c l, t.data.toList = c :: l := by
        cases h : t.data.toList with
        | nil => rw [h] at hl1; simp at hl1; omega
        | cons c l => exact ⟨c, l, rfl⟩
      obtain ⟨m, hm8⟩ : ∃ m, t.size - 8 = m + 1 := ⟨t.size - 9, by omega⟩
      have hf : firstB t = (c.toNat : Int) := by unfold firstB; rw [hcl]; rfl
      have ho : (oneB no).data.toList = [c] := by
        unfold oneB; rw [hno, hf]; simp
      have hx : ((bodyOf t).extract 1 (t.size - 8)).data.toList = l.take m := by
        rw [hm8]; simp only [ByteArray.data_extract, Array.toList_extract, List.extract_eq_take_drop, hd, hcl, hm8]
        simp [List.take_take]
      rw [ByteArray.data_append, Array.toList_append, ho, hx, hd, hcl, hm8]
      rfl
    unfold sealF
    rw [if_neg (fun h => h hchk)]
    have hsz : ((bodyOf t).extract 1 (t.size - 8)).size = t.size - 9 := by simp [hb1]; omega
    simp only [List.getLast?_singleton]
    rw [if_neg (by rw [hsz]; omega)]
    unfold sealed
    simp only
    rw [hbody, hm]
  · rw [hF] at h; simp at h
end Rg
end Go.Proofs.YtdfdjampodkpgaaDoor
end

/-! RingRef2 -/
section
/- The document's functions on rings: a key is added, an epoch is dropped. -/
set_option linter.unusedSimpArgs false
set_option linter.unusedVariables false
namespace Go.Proofs.YtdfdjampodkpgaaDoor
open Go.RowKit
namespace Rg
open Tg
def goneF (no : Int) (l : List Ep) : List Ep := l.filter (fun x => x.1 ≠ no)
theorem gone_hit (no : Int) (l : List Ep) (x : Ep) (h : x.1 = no) : goneF no (l ++ [x]) = goneF no l := by
  unfold goneF; rw [List.filter_append, List.filter_cons_of_neg (by simp [h])]; simp
theorem gone_miss (no : Int) (l : List Ep) (x : Ep) (h : x.1 ≠ no) : goneF no (l ++ [x]) = goneF no l ++ [x] := by
  unfold goneF; rw [List.filter_append, List.filter_cons_of_pos (by simp [h])]; simp
end Rg
end Go.Proofs.YtdfdjampodkpgaaDoor
end

/-! RingTells -/
section
/- The law that Check, Add and Drop answer as the document says. -/
set_option linter.unusedSimpArgs false
set_option linter.unusedVariables false
namespace Go.Proofs.YtdfdjampodkpgaaDoor
open Go.RowKit
namespace Rg
open Tg
end Rg
end Go.Proofs.YtdfdjampodkpgaaDoor
end

/-! RingRef3 -/
section
/- The document's sealing: eight bytes of a number, the least one first. -/
set_option linter.unusedSimpArgs false
set_option linter.unusedVariables false
namespace Go.Proofs.YtdfdjampodkpgaaDoor
open Go.RowKit
namespace Rg
open Tg
theorem one_any (n : Int) (w : World) (h0 : 0 ≤ n) (h1 : n ≤ 255) : Calls Tryd.prog 45 #[.int .i64 n] w fun e w' => e = .returned (.string (oneB n)) ∧ Below w.heap.size w w' := by
  have w8 : IntKind.u8.wrap n = n := by rw [IntKind.wrap_u8]; omega
  have hcv : (convert 84 9 (.slice (some ⟨w.heap.size, 0, none⟩) 1 1)).run Tryd.prog (w.alloc (.cells #[.int .u8 n] 5)) = .ok (.string (oneB n)) (w.alloc (.cells #[.int .u8 n] 5)) := by
    refine run_convert_bytes_back _ 84 9 5 ⟨w.heap.size, 0, none⟩ 1 [UInt8.ofNat n.toNat] Tryd.underlying84 Tryd.underlying5 Tryd.underlying9 (fun j hj => ?_)
    have hj1 : j = 0 := by simpa using hj
    subst hj1
    have ha : (⟨w.heap.size, 0, none⟩ : Addr).add 0 = ⟨w.heap.size, 0, none⟩ := by unfold Addr.add; split <;> simp_all
    rw [ha, World.cell?_alloc_mark]
    have : ((UInt8.ofNat n.toNat).toNat : Int) = n := by
      have : (UInt8.ofNat n.toNat).toNat = n.toNat % 256 := by simp
      rw [this]; omega
    simp only [List.getElem_cons_zero]
    rw [this]; rfl
  have HO := Lib.hid (rfl : oneB n = oneB n)
  go_enter Tryd.func45, Tryd.ntmps45
  go_wp2_with fail
  go_ret
  exact ⟨rfl, by first | exact (br _).alloc (Nat.le_refl _) _ | exact bn ((br _).alloc (Nat.le_refl _) _) _⟩
/-- what is left of a number behind k bytes -/
def qk (N : W64) (k : Nat) : Nat := N.toNat / 2 ^ (8 * k)
theorem qk_lt (N : W64) (k : Nat) : qk N k ≤ 18446744073709551615 := by
  have h1 : qk N k ≤ N.toNat := Nat.div_le_self _ _
  have h2 := N.isLt
  omega
theorem qk_mod (N : W64) (k : Nat) : qk N k % 256 = byteOf N k := rfl
theorem qk_div (N : W64) (k : Nat) : qk N k / 256 = qk N (k + 1) := by
  unfold qk
  rw [Nat.div_div_eq_div_mul, Nat.mul_add, Nat.pow_add]
def pre8 (N : W64) (k : Nat) : ByteArray := ⟨((leL N).take k).toArray⟩
theorem pre8_succ (N : W64) (k : Nat) (h : k < 8) : pre8 N (k + 1) = pre8 N k ++ oneB (byteOf N k : Int) := by
  apply ba_ext
  unfold pre8 oneB
  have hl : k < (leL N).length := by rw [leL_len]; exact h
  rw [ByteArray.data_append, Array.toList_append, List.take_succ_eq_append_getElem hl]
  simp only
  congr 1
  have := leL_at N k hl
  have hb := byteOf_lt N k
  have e : (leL N)[k] = UInt8.ofNat (byteOf N k) := by
    match k, h with
    | 0, _ => rfl
    | 1, _ => rfl
    | 2, _ => rfl
    | 3, _ => rfl
    | 4, _ => rfl
    | 5, _ => rfl
    | 6, _ => rfl
    | 7, _ => rfl
  rw [e]; simp
theorem pre8_size (N : W64) (k : Nat) : (pre8 N k).size ≤ 8 := by
  have h1 : (pre8 N k).size = ((leL N).take k).length := by unfold pre8; rfl
  have h2 : ((leL N).take k).length ≤ 8 := by rw [List.length_take, leL_len]; omega
  omega
theorem one_len (n : Int) : (oneB n).size = 1 := rfl
set_option maxHeartbeats 2000000 in
theorem least_any (N : W64) (w : World) : Calls Tryd.prog 81 #[.int .u64 (wi N)] w fun e w' => e = .returned (.string ⟨(leL N).toArray⟩) ∧ Below w.heap.size w w' := by
  have hN : wi N = (qk N 0 : Int) := by unfold wi qk; simp
  have hz : pre8 N 0 = ⟨#[]⟩ := rfl
  have HZ := Lib.hid hz
  have h8 : pre8 N 8 = ⟨(leL N).toArray⟩ := by unfold pre8; rw [List.take_of_length_le (by rw [leL_len]; omega)]
  have H8 := Lib.hid h8
  rw [hN]
  clear hz h8 hN
  go_enter Tryd.func81, Tryd.ntmps81
  go_wp2
  go_loopw [0, 3, 4] (fun n s i wr => ∃ k : Nat, k ≤ 8 ∧ i = .int .i64 k ∧ n = .int .u64 (qk N k : Int) ∧ s = .string (pre8 N k) ∧ Below w.heap.size w wr) (fun _ _ i _ => 8 - (intOf i).toNat)
  case atStart => exact ⟨0, by omega, rfl, rfl, by rw [HZ.out], br w⟩
  case round =>
    obtain ⟨k, hk, rfl, rfl, rfl, hbw⟩ := hrel
    by_cases hlt : k < 8
    · have s1 := qk_mod N k
      have s2 := qk_div N k
      have b1 := qk_lt N k
      have b2 := byteOf_lt N k
      have P := Lib.hid (pre8_succ N k hlt)
      have ps := pre8_size N k
      have hon := Lib.hid (fun w => one_any (byteOf N k) w (by omega) (by omega))
      obtain ⟨x', hx'⟩ : ∃ x', qk N (k + 1) = x' := ⟨_, rfl⟩
      rw [hx'] at s2
      have HX' := Lib.hid hx'
      generalize qk N k = x at *
      generalize byteOf N k = y at *
      have d1 : (x : Int).tdiv 256 = (x' : Int) := by rw [Int.tdiv_eq_ediv_of_nonneg (by omega)]; omega
      have d1' : (x : Int) / 256 = (x' : Int) := by omega
      have m1 : (x : Int).tmod 256 = (y : Int) := by rw [Int.tmod_eq_emod_of_nonneg (by omega)]; omega
      have m1' : (x : Int) % 256 = (y : Int) := by omega
      have hw : IntKind.i64.wrap (y : Int) = (y : Int) := IntWalk.i64_in _ (by omega)
      generalize hPk : pre8 N k = Pk at *
      have os := one_len (y : Int)
      generalize oneB (y : Int) = On at *
      clear s1 s2 hx'
      have HBW := Lib.hid hbw
      go_wp2_with fail
      refine (hon.out _).mono ?_
      rintro en w1 ⟨rfl, hb1⟩
      have HB1 := Lib.hid (HBW.out.trans (hb1.mono HBW.out.size))
      clear hb1 hbw
      go_wp2
      go_roundw
      case rel => exact ⟨k + 1, by omega, by go_num, by rw [HX'.out], by rw [P.out], HB1.out⟩
      case measure => simp [intOf]; omega
    · obtain rfl : k = 8 := by omega
      go_wp2
      go_ret
      exact ⟨by rw [← H8.out]; rfl, by first | exact hbw | exact bn hbw _⟩
theorem tag_x (a b : W64) (s : ByteArray) (w : World) (hs : s.size ≤ 140737488351232) : Calls Tryd.prog 82 #[.agg #[.int .u64 (wi a), .int .u64 (wi b)], .string s] w fun e w' => e = .returned (.int .u64 (wi (tagF a b s.data.toList))) ∧ Below w.heap.size w w' := tagOf_any a b s w hs
set_option maxHeartbeats 2000000 in
theorem sealedBy_any (no : Int) (a b : W64) (s : ByteArray) (w : World) (h0 : 0 ≤ no) (h1 : no ≤ 255) (hs : s.size ≤ 1000) : Calls Tryd.prog 65 #[.agg #[.int .i64 no, .int .u64 (wi a), .int .u64 (wi b)], .string s] w fun e w' => e = .returned (.string (sealed (no, a, b) s)) ∧ Below w.heap.size w w' := by
  have C1 := Lib.hid (fun w => one_any no w h0 h1)
  have ho := one_len no
  have HF : RowKit.Hid (sealed (no, a, b) s = (oneB no ++ s) ++ ⟨(leL (tagF a b (oneB no ++ s).data.toList)).toArray⟩) := rfl
  generalize oneB no = On at *
  have hsz : (On ++ s).size ≤ 1001 := by rw [ByteArray.size_append]; omega
  obtain ⟨TS, hTS⟩ : ∃ TS : ByteArray, On ++ s = TS := ⟨_, rfl⟩
  rw [hTS] at HF hsz
  have HTS := Lib.hid hTS
  have C2 := Lib.hid (fun w => tag_x a b TS w (by omega))
  obtain ⟨T, hT⟩ : ∃ T : W64, tagF a b TS.data.toList = T := ⟨_, rfl⟩
  simp only [hT] at C2
  rw [hT] at HF
  have C3 := Lib.hid (least_any T)
  have hLE : (⟨(leL T).toArray⟩ : ByteArray).size = 8 := rfl
  generalize (⟨(leL T).toArray⟩ : ByteArray) = LE at *
  clear hT
  go_enter Tryd.func65, Tryd.ntmps65
  go_wp2_with fail
  refine (C1.out _).mono ?_
  rintro en w1 ⟨rfl, b1⟩
  have B1 := Lib.hid (bt ((br w).alloc (Nat.le_refl _) _) b1)
  have k0 : w1.cell? ⟨w.heap.size, 0, none⟩ = some (.int .i64 no) := boxc (bx b1) 0
  have k1 : w1.cell? ⟨w.heap.size, 1, none⟩ = some (.int .u64 (wi a)) := boxc (bx b1) 1
  have k2 : w1.cell? ⟨w.heap.size, 2, none⟩ = some (.int .u64 (wi b)) := boxc (bx b1) 2
  clear b1
  go_wp2_with fail
  refine (C2.out _).mono ?_
  rintro en w2 ⟨rfl, b2⟩
  have B2 := Lib.hid (bt B1.out b2)
  clear b2 k0 k1 k2
  go_wp2_with fail
  refine (C3.out _).mono ?_
  rintro en w3 ⟨rfl, b3⟩
  have B3 := Lib.hid (bt B2.out b3)
  clear b3
  go_wp2
  go_ret
  exact ⟨by rw [HF.out]; rfl, B3.out⟩
theorem body_split (t : ByteArray) (h9 : 9 ≤ t.size) : oneB (firstB t) ++ t.extract 1 (t.size - 8) = bodyOf t ∧ (bodyOf t).extract 1 (t.size - 8) = t.extract 1 (t.size - 8) := by
  have hl1 : t.data.toList.length = t.size := rfl
  have hd : (bodyOf t).data.toList = t.data.toList.take (t.size - 8) := by
    unfold bodyOf; simp [List.extract_eq_take_drop]
  obtain ⟨c, l, hcl⟩ : ∃ c l, t.data.toList = c :: l := by
    cases h : t.data.toList with
    | nil => rw [h] at hl1; simp at hl1; omega
    | cons c l => exact ⟨c, l, rfl⟩
  obtain ⟨m, hm8⟩ : ∃ m, t.size - 8 = m + 1 := ⟨t.size - 9, by omega⟩
  have hf : firstB t = (c.toNat : Int) := by unfold firstB; rw [hcl]; rfl
  have ho : (oneB (firstB t)).data.toList = [c] := by
    unfold oneB; rw [hf]; simp
  have hx : (t.extract 1 (t.size - 8)).data.toList = l.take m := by
    rw [hm8]; simp only [ByteArray.data_extract, Array.toList_extract, List.extract_eq_take_drop, hcl]
    simp
  constructor
  · apply ba_ext
    rw [ByteArray.data_append, Array.toList_append, ho, hx, hd, hcl, hm8]
    rfl
  · apply ba_ext
    rw [hx, hm8]
    simp only [ByteArray.data_extract, Array.toList_extract, List.extract_eq_take_drop, hd, hcl, hm8]
    simp [List.take_take]
set_option maxHeartbeats 2000000 in
theorem sealOf_any (v : Value) (xs : List Ep) (s : ByteArray) (hss : s.size ≤ 9223372036854775807) (w : World) (h : Rd 3 eE w v xs) : Calls Tryd.prog 31 #[v, .string s] w (SealQ (sealF xs s) w) := by
  have H := Lib.hid h
  have HCK := Lib.hid (checkR_any v xs)
  obtain ⟨ad, cap, rfl, h1, h2, h3⟩ := h
  have H3 := Lib.hid h3; clear h3
  rcases seal_cases xs s with ⟨hc, hF⟩ | ⟨hc, hn, hF⟩ | ⟨n, hn, hc, hs, hF⟩ | ⟨n, hn, hc, hs, hF⟩
  · have HF := Lib.hid hF; have hb : (chk xs != 0) = true := by simp [hc]
    generalize chk xs = C at *
    clear hF
    go_enter Tryd.func31, Tryd.ntmps31
    go_wp2_with fail
    refine (HCK.out _ H.out).mono ?_
    rintro en w1 ⟨rfl, hb1⟩
    go_wp2
    go_ret2
    exact ⟨by rw [HF.out]; rfl, hb1⟩
  · have HF := Lib.hid hF
    have hb : ((xs.length : Int) == 0) = true := by simp [hn]
    rw [hc] at HCK
    clear hF hc hn
    go_enter Tryd.func31, Tryd.ntmps31
    go_wp2_with fail
    refine (HCK.out _ H.out).mono ?_
    rintro en w1 ⟨rfl, hb1⟩
    go_wp2
    go_ret2
    exact ⟨by rw [HF.out]; rfl, hb1⟩
  · have HF := Lib.hid hF
    have hb : ((xs.length : Int) == 0) = false := by rw [beq_eq_false_iff_ne]; omega
    have hs' : (111 : Int) < (s.size : Int) := by omega
    rw [hc] at HCK
    clear hF hc hn
    go_enter Tryd.func31, Tryd.ntmps31
    go_wp2_with fail
    refine (HCK.out _ H.out).mono ?_
    rintro en w1 ⟨rfl, hb1⟩
    go_wp2
    go_ret2
    exact ⟨by rw [HF.out]; rfl, hb1⟩
  · have hb : ((xs.length : Int) == 0) = false := by rw [beq_eq_false_iff_ne]; omega
    have hs' : ¬ (111 : Int) < (s.size : Int) := by omega
    obtain ⟨hl8, hr, _⟩ := chk_spec hc
    have hno := hr _ (List.getElem_mem (l := xs) (n := n) (by omega))
    have hi : (xs.length : Int) - 1 = (n : Int) := by omega
    have hn0 : (0 : Int) ≤ (n : Int) := by omega
    have hn1 : (n : Int) < (xs.length : Int) := by omega
    have hwn : IntKind.i64.wrap (n : Int) = (n : Int) := by rw [IntKind.wrap_i64]; omega
    have hw1 : IntKind.i64.wrap ((xs.length : Int) - 1) = (n : Int) := by rw [hi]; exact hwn
    rw [hc] at HCK
    obtain ⟨g, off, rfl, hbl, hcc⟩ := H3.out (by omega)
    have q := eE_at hcc n (by omega)
    obtain ⟨nn, ka, kb, hx⟩ : ∃ a b c, xs[n]'(by omega) = (a, b, c) := ⟨_, _, _, rfl⟩
    rw [hx] at q hno hF
    simp only at hno q
    have HF := Lib.hid hF
    have C2 := Lib.hid (fun w => sealedBy_any nn ka kb s w (by omega) (by omega) (by omega))
    generalize sealed (nn, ka, kb) s = T at *
    clear hF hc hcc hx
    obtain ⟨q0, q1, q2⟩ := q
    have HN := Lib.hid hn; clear hn
    go_enter Tryd.func31, Tryd.ntmps31
    go_wp2_with fail
    refine (HCK.out _ H.out).mono ?_
    rintro en w1 ⟨rfl, hb1⟩
    have c0 := (hb1.cell (p := ⟨g, off + n * 3, none⟩) hbl).trans q0
    have c1 := (hb1.cell (p := ⟨g, off + n * 3 + 1, none⟩) hbl).trans q1
    have c2 := (hb1.cell (p := ⟨g, off + n * 3 + 2, none⟩) hbl).trans q2
    have HB1 := Lib.hid hb1
    clear hb1 q0 q1 q2
    go_wp2_with fail
    refine (C2.out _).mono ?_
    rintro en w2 ⟨rfl, hb2⟩
    go_wp2
    go_ret2
    exact ⟨by rw [HF.out]; rfl, bt HB1.out hb2⟩
set_option maxHeartbeats 2000000 in
theorem openOf_any (v : Value) (xs : List Ep) (t : ByteArray) (hss : t.size ≤ 9223372036854775807) (w : World) (h : Rd 3 eE w v xs) : Calls Tryd.prog 34 #[v, .string t] w (OpenQ (openF xs t) w) := by
  have H := Lib.hid h
  have HCK := Lib.hid (checkR_any v xs)
  rcases open_cases xs t with ⟨hc, hF⟩ | ⟨hc, h9, hF⟩ | ⟨hc, h9, hF⟩ | ⟨hc, h9, h120, ha, hF⟩ | ⟨hlt, hc, h9, h120, hm, hF⟩ | ⟨hlt, hc, h9, h120, hm, hF⟩
  · have HF := Lib.hid hF; have hb : (chk xs != 0) = true := by simp [hc]
    generalize chk xs = C at *
    clear hF
    go_enter Tryd.func34, Tryd.ntmps34
    go_wp2_with fail
    refine (HCK.out _ H.out).mono ?_
    rintro en w1 ⟨rfl, hb1⟩
    go_wp2
    go_ret3
    exact ⟨by rw [HF.out]; rfl, hb1⟩
  · have HF := Lib.hid hF
    have hs' : (t.size : Int) < 9 := by omega
    rw [hc] at HCK
    clear hF hc
    go_enter Tryd.func34, Tryd.ntmps34
    go_wp2_with fail
    refine (HCK.out _ H.out).mono ?_
    rintro en w1 ⟨rfl, hb1⟩
    go_wp2
    go_ret3
    exact ⟨by rw [HF.out]; rfl, hb1⟩
  · have HF := Lib.hid hF
    have hs' : ¬ (t.size : Int) < 9 := by omega
    have hs2 : (120 : Int) < (t.size : Int) := by omega
    rw [hc] at HCK
    clear hF hc
    go_enter Tryd.func34, Tryd.ntmps34
    go_wp2_with fail
    refine (HCK.out _ H.out).mono ?_
    rintro en w1 ⟨rfl, hb1⟩
    go_wp2
    go_ret3
    exact ⟨by rw [HF.out]; rfl, hb1⟩
  · have HF := Lib.hid hF
    have hs' : ¬ (t.size : Int) < 9 := by omega
    have hs2 : ¬ (120 : Int) < (t.size : Int) := by omega
    have hk : keyF (firstB t) xs = ((0, 0), false) := by unfold keyF; rw [ha, List.getElem?_eq_none (Nat.le_refl _)]
    have hK := key_any v xs (firstB t)
    rw [hk] at hK
    unfold KeyQ aKey at hK
    rw [hc] at HCK
    have HK := Lib.hid hK
    have hz : 0 < t.size := by omega
    have e0 : IntKind.i64.wrap ((t[0]'hz).toNat : Int) = firstB t := first_at t hz
    generalize firstB t = no at *
    clear hF hc ha hK hk
    go_enter Tryd.func34, Tryd.ntmps34
    go_wp2_with fail
    refine (HCK.out _ H.out).mono ?_
    rintro en w1 ⟨rfl, hb1⟩
    go_wp2_with fail
    refine (HK.out _ (H.out.below hb1)).mono ?_
    rintro en w2 ⟨rfl, hb2⟩
    go_wp2
    go_ret3
    exact ⟨by rw [HF.out]; rfl, by first | exact bt hb1 hb2 | exact (bt hb1 hb2).alloc (bt hb1 hb2).size _⟩
  all_goals
    have hs' : ¬ (t.size : Int) < 9 := by omega
    have hs2 : ¬ (120 : Int) < (t.size : Int) := by omega
    obtain ⟨_, hr, _⟩ := chk_spec hc
    have hat := (atN_spec (firstB t) xs).2 hlt
    have hrx := hr _ (List.getElem_mem hlt)
    rw [hat] at hrx
    obtain ⟨sp1, sp2⟩ := body_split t h9
    have hk : keyF (firstB t) xs = (xs[atN (firstB t) xs].2, true) := by unfold keyF; rw [List.getElem?_eq_getElem hlt]
    generalize xs[atN (firstB t) xs] = x at *
    obtain ⟨xn, ka, kb⟩ := x
    simp only at hat hm hk
    subst hat
    have hK := key_any v xs (firstB t)
    rw [hk] at hK
    unfold KeyQ aKey at hK
    rw [hc] at HCK
    have HK := Lib.hid hK
    have hz : 0 < t.size := by omega
    have e0 : IntKind.i64.wrap ((t[0]'hz).toNat : Int) = firstB t := first_at t hz
    have hes : (t.extract 1 (t.size - 8)).size ≤ 1000 := by simp; omega
    have hsl : sealed (firstB t, ka, kb) (t.extract 1 (t.size - 8)) = markB ka kb (bodyOf t) := by unfold sealed; simp only; rw [sp1]
    have hC2 := fun w => sealedBy_any (firstB t) ka kb (t.extract 1 (t.size - 8)) w (by omega) (by omega) hes
    simp only [hsl] at hC2
    have HC2 := Lib.hid hC2
    try rw [sp2] at hF
    have HF := Lib.hid hF
    generalize firstB t = no at *
    have hw8 : IntKind.i64.wrap ((t.size : Int) - 8) = ((t.size - 8 : Nat) : Int) := by rw [IntKind.wrap_i64]; omega
    have q1 : (1 : Int) ≤ ((t.size - 8 : Nat) : Int) := by omega
    have q2 : ((t.size - 8 : Nat) : Int) ≤ (t.size : Int) := by omega
    clear hF hc hK hk hC2 hsl sp1 sp2 hes hr
  · rw [hm] at HC2
    clear hm
    simp only at HK
    go_enter Tryd.func34, Tryd.ntmps34
    go_wp2_with fail
    refine (HCK.out _ H.out).mono ?_
    rintro en w1 ⟨rfl, hb1⟩
    go_wp2_with fail
    refine (HK.out _ (H.out.below hb1)).mono ?_
    rintro en w2 ⟨rfl, hb2⟩
    have HB2 := Lib.hid (bt hb1 hb2)
    clear hb1 hb2
    go_wp2_with fail
    refine (HC2.out _).mono ?_
    rintro en w3 ⟨rfl, hb3⟩
    have HB3 := Lib.hid (bt (HB2.out.alloc HB2.out.size _) hb3)
    clear hb3
    go_wp2_with fail
    go_ret3
    exact ⟨by rw [HF.out]; rfl, HB3.out⟩
  · obtain ⟨M, hM⟩ : ∃ M, markB ka kb (bodyOf t) = M := ⟨_, rfl⟩
    rw [hM] at HC2 hm
    have hq : (M.toList == t.toList) = false := str_ne hm
    clear hm hM
    simp only at HK
    go_enter Tryd.func34, Tryd.ntmps34
    go_wp2_with fail
    refine (HCK.out _ H.out).mono ?_
    rintro en w1 ⟨rfl, hb1⟩
    go_wp2_with fail
    refine (HK.out _ (H.out.below hb1)).mono ?_
    rintro en w2 ⟨rfl, hb2⟩
    have HB2 := Lib.hid (bt hb1 hb2)
    clear hb1 hb2
    go_wp2_with fail
    refine (HC2.out _).mono ?_
    rintro en w3 ⟨rfl, hb3⟩
    have HB3 := Lib.hid (bt (HB2.out.alloc HB2.out.size _) hb3)
    clear hb3
    go_wp2_with fail
    go_ret3
    exact ⟨by rw [HF.out]; rfl, HB3.out⟩
end Rg
end Go.Proofs.YtdfdjampodkpgaaDoor
end
