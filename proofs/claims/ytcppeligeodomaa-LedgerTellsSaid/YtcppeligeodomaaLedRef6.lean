/- Ledgers: the document reverses a posting. -/
import Derived.Test.YtcppeligeodomaaLedRef4
set_option linter.unusedVariables false
namespace Go.Proofs.Ytcppeligeodomaa
open Go.RowKit
namespace Ld
open Pn
def TurnedQ : Prop := ∀ (id nw : Int) (pa : Option Addr) (pc : Nat) (ls : List Ln) (w : World), RdE elN w (.slice pa ls.length pc) ls → (∀ l ∈ ls, isA l.2) → ls.length ≤ 6 → Calls Try.prog 50 #[.agg #[.int .i64 id, .slice pa ls.length pc], .int .i64 nw] w fun e w' => ∃ a c, e = .returned (.agg #[.int .i64 nw, .slice a ls.length c]) ∧ RdE elN w' (.slice a ls.length c) (neg ls) ∧ Below w.heap.size w w'
set_option maxHeartbeats 4000000 in
theorem revR_of (HT : TurnedQ) (v : Value) (ps : List Po) (id nw : Int) (w : World) (h : RdL w v ps) : Calls Try.prog 31 #[v, .int .i64 id, .int .i64 nw] w (PostQ (rev (pgs ps) id nw) w) := by
  have C1 := Lib.hid (checkR_any v ps w h)
  have HL := Lib.hid h
  clear h
  by_cases c1 : chk (pgs ps) ≠ 0
  · have hr : rev (pgs ps) id nw = ([], chk (pgs ps)) := by unfold rev; rw [if_pos c1]
    rw [hr]
    have hn : (chk (pgs ps) != 0) = true := by simpa using c1
    clear c1 hr HT
    generalize chk (pgs ps) = ec at *
    go_enter Try.func31, Try.ntmps31
    go_wp2_with fail
    refine C1.out.mono ?_
    rintro en w1 ⟨rfl, hb1⟩
    go_wp2
    go_ret2
    exact ⟨_, [], rfl, RdL.nil _, rfl, hb1⟩
  have c1' : chk (pgs ps) = 0 := by simpa using c1
  rw [c1'] at C1
  have HRV : RowKit.Hid (rev (pgs ps) id nw = match find id (pgs ps) with
    | some q => post (pgs ps) (nw, neg q.2)
    | none => ([], 5)) := Lib.hid (by unfold rev; rw [if_neg c1]; rfl)
  have HOK := Lib.hid ((chk_ok _).1 c1').2.1
  have CT := Lib.hid HT
  have CP := Lib.hid (fun w1 (hw1 : Below w.heap.size w w1) p hp => postR_any v ps p w1 (HL.out.next hw1) hp)
  have hle := HL.out.rd.len_le
  obtain ⟨a, cap, rfl, g1, g2, g3⟩ := HL.out.rd
  have G3 := Lib.hid g3
  clear g3 c1 c1' HT
  go_enter Try.func31, Try.ntmps31
  go_wp2_with fail
  refine C1.out.mono ?_
  rintro en w1 ⟨rfl, hb1⟩
  have HB1 := Lib.hid hb1
  clear hb1
  go_wp2
  go_loopw [9] (fun i wr => ∃ k : Nat, k ≤ ps.length ∧ i = .int .i64 k ∧ (∀ (q : Nat) (h : q < ps.length), q < k → ps[q].id ≠ id) ∧ Below w.heap.size w wr) (fun i _ => ps.length - (intOf i).toNat)
  case atStart => exact ⟨0, Nat.zero_le _, rfl, fun q hq h => by omega, HB1.out⟩
  case round =>
    obtain ⟨k, hk, rfl, hall, hbw⟩ := hrel
    have HBW := Lib.hid hbw
    by_cases hlt : k < ps.length
    · obtain ⟨g, off, rfl, hbl, hc⟩ := G3.out (by omega)
      obtain ⟨q0, q1⟩ := eP_at hc k hlt
      have d0 := (hbw.cell (p := ⟨g, off + k * 2, none⟩) hbl).trans q0
      have d1 := (hbw.cell (p := ⟨g, off + k * 2 + 1, none⟩) hbl).trans q1
      have i1 : (k : Int) < (ps.length : Int) := by omega
      have i0 : (0 : Int) ≤ (k : Int) := by omega
      have hok := HOK.out ps[k].pg (List.mem_map.2 ⟨ps[k], List.getElem_mem hlt, rfl⟩)
      have CK := Lib.hid (CT.out ps[k].id nw ps[k].a ps[k].cap ps[k].ls wr ((HL.out.ln _ (List.getElem_mem hlt)).below hbw) (fun l hl => (hok.ln l hl).2.2.1) hok.six)
      clear q0 q1 hc G3 hok
      unfold Po.v at d1
      by_cases he : ps[k].id = id
      · have hbt : (ps[k].id == id) = true := by simp [he]
        have hfi := find_eq id ps k hlt hall he
        have hrv := HRV.out
        rw [hfi] at hrv
        simp only at hrv
        rw [hrv]
        clear hrv HRV hfi hall he hbw
        generalize ps[k].id = t at *; generalize ps[k].a = xa at *; generalize ps[k].ls = xl at *; generalize ps[k].cap = xc at *
        go_wp2_with fail
        refine CK.out.mono ?_
        rintro en w2 ⟨a2, c2, rfl, hr2, hb2⟩
        have HB2 := Lib.hid (bt HBW.out hb2)
        have hnl : (neg xl).length = xl.length := by simp [neg]
        have CP2 := CP.out w2 HB2.out ⟨nw, a2, c2, neg xl⟩ (by show RdE elN w2 (.slice a2 (neg xl).length c2) (neg xl); rw [hnl]; exact hr2)
        have haP : aP ⟨nw, a2, c2, neg xl⟩ = .agg #[.int .i64 nw, .slice a2 xl.length c2] := by show Value.agg #[.int .i64 nw, .slice a2 (neg xl).length c2] = _; rw [hnl]
        rw [haP] at CP2
        have CP3 := Lib.hid CP2
        clear CP2 haP hnl hr2 hb2
        go_wp2_with fail
        refine CP3.out.mono ?_
        rintro en w3 ⟨v', qs, rfl, hrd, hpg, hb3⟩
        go_wp2
        go_ret2
        exact ⟨_, qs, rfl, hrd, hpg, bt HB2.out hb3⟩
      · have hbt : (ps[k].id == id) = false := by simp [he]
        have hall2 : ∀ (q : Nat) (h : q < ps.length), q < k + 1 → ps[q].id ≠ id := fun q hq hqj => by
          by_cases e : q = k
          · subst e; exact he
          · exact hall q hq (by omega)
        have HA3 := Lib.hid hall2; have HLT := Lib.hid hlt
        clear hall2 hall he hbw CK
        generalize ps[k].id = t at *; generalize ps[k].a = xa at *; generalize ps[k].ls.length = xl at *; generalize ps[k].cap = xc at *
        go_wp2
        go_roundw
        case rel => exact ⟨k + 1, HLT.out, by go_num, HA3.out, HBW.out⟩
        case measure => (have := HLT.out); simp [intOf]; omega
    · have e : k = ps.length := by omega
      subst e
      have hfi := find_no id ps (fun q hq _ => hall q hq hq)
      have hrv := HRV.out
      rw [hfi] at hrv
      simp only at hrv
      have HRR := Lib.hid hrv
      clear hall hfi HRV G3 hbw hrv
      go_wp2
      go_ret2
      rw [HRR.out]
      exact ⟨_, [], rfl, RdL.nil _, rfl, HBW.out⟩
end Ld
end Go.Proofs.Ytcppeligeodomaa
