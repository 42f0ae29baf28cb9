/- Ledgers: a copy that shares nothing. -/
import Derived.Test.YtcppeligeodomaaLedCheck
set_option linter.unusedVariables false
namespace Go.Proofs.Ytcppeligeodomaa
open Go.RowKit
theorem ROwn.shape {α : Type} {E : El α} {w : World} {base : Nat} {v : Value} {xs : List α} (h : ROwn E w base v xs) : ∃ a c, v = .slice a xs.length c := by
  obtain ⟨_, ⟨rfl, h⟩ | ⟨g, cap, cur, rfl, _⟩⟩ := h
  · exact ⟨none, 0, by rw [h]⟩
  · exact ⟨_, _, rfl⟩
/-- what is own stays behind an append elsewhere -/
theorem ROwn.far {α : Type} {E : El α} {w w' : World} {base : Nat} {u v : Value} {ys : List α} (h : ROwn E w base u ys) (hfar : ∀ k : Nat, k < w.heap.size → v.ownBlock ≠ some k → w'.heap[k]? = w.heap[k]?)
    (hne : ∀ g, u.ownBlock = some g → v.ownBlock ≠ some g) : ROwn E w' base u ys := by
  obtain ⟨hl, h | ⟨g, cap, cur, rfl, h2, h3, h4, h5, h6, h7⟩⟩ := h
  · exact ⟨hl, .inl h⟩
  · refine ⟨hl, .inr ⟨g, cap, cur, rfl, h2, ?_, h4, h5, h6, h7⟩⟩
    have hlt : g < w.heap.size := by
      rcases Nat.lt_or_ge g w.heap.size with hlt | hge
      · exact hlt
      · rw [Array.getElem?_eq_none hge] at h3; cases h3
    rw [hfar g hlt (hne g rfl)]; exact h3
/-- blocks of different element types are different -/
theorem own_ne {α β : Type} {E : El α} {F : El β} {w : World} {b b' : Nat} {u v : Value} {xs : List α} {ys : List β} (h : ROwn E w b v xs) (h' : ROwn F w b' u ys) (ht : E.te ≠ F.te) : ∀ g, u.ownBlock = some g → v.ownBlock ≠ some g := by
  intro g hg hv
  obtain ⟨_, ⟨rfl, _⟩ | ⟨g1, cap, cur, rfl, _, h3, _⟩⟩ := h
  · cases hv
  obtain ⟨_, ⟨rfl, _⟩ | ⟨g2, cap', cur', rfl, _, h3', _⟩⟩ := h'
  · cases hg
  injection hg with hg; injection hv with hv
  simp only at hg hv
  subst hg; subst hv
  rw [h3] at h3'
  injection h3' with e; injection e with e1 e2
  exact ht e2
namespace Ld
set_option maxHeartbeats 4000000 in
theorem own_any (v : Value) (ps : List Po) (w : World) (h : RdL w v ps) (hl : ps.length ≤ 100) (hs : ∀ p ∈ ps, p.ls.length ≤ 6) : Calls Try.prog 45 #[v] w fun e w' => ∃ v' qs, e = .returned v' ∧ RdL w' v' qs ∧ pgs qs = pgs ps ∧ Below w.heap.size w w' := by
  obtain ⟨hr, hls⟩ := h
  obtain ⟨a, cap, rfl, h1, h2, h3⟩ := hr
  have H3 := Lib.hid h3; clear h3
  have HLS := Lib.hid hls; clear hls
  have HS := Lib.hid hs; clear hs
  go_enter Try.func45, Try.ntmps45
  go_wp2
  go_loopw [8, 3] (fun i s wr => ∃ (k : Nat) (qs : List Po), k ≤ ps.length ∧ i = .int .i64 k ∧ ROwn elP wr w.heap.size s qs ∧ (∀ q ∈ qs, ROwn elN wr w.heap.size q.v q.ls) ∧ pgs qs = pgs (ps.take k) ∧ Below w.heap.size w wr) (fun i _ _ => ps.length - (intOf i).toNat)
  case atStart => exact ⟨0, [], Nat.zero_le _, rfl, ROwn.nil _ _, by simp, rfl, br _⟩
  case round =>
    obtain ⟨k, qs, hk, rfl, hO, hq, hm, hbw⟩ := hrel
    by_cases hlt : k < ps.length
    · obtain ⟨g, off, rfl, hbl, hc⟩ := H3.out (by omega)
      obtain ⟨q0, q1⟩ := eP_at hc k hlt
      have d0 := (hbw.cell (p := ⟨g, off + k * 2, none⟩) hbl).trans q0
      have d1 := (hbw.cell (p := ⟨g, off + k * 2 + 1, none⟩) hbl).trans q1
      have i1 : (k : Int) < (ps.length : Int) := by omega
      have i0 : (0 : Int) ≤ (k : Int) := by omega
      have htake : pgs (ps.take (k + 1)) = pgs (ps.take k) ++ [ps[k].pg] := by rw [List.take_succ_eq_append_getElem hlt]; exact List.map_append
      have hql : qs.length = k := by have := congrArg List.length hm; simp at this; omega
      have HQL := Lib.hid hql
      have HTK := Lib.hid htake
      have HBW := Lib.hid hbw
      have HO := Lib.hid hO; have HQ := Lib.hid hq; have HM := Lib.hid hm
      have CN := Lib.hid (fun w' (hb : Below w.heap.size w w') => cloneN_any ps[k].v ps[k].ls w' ((HLS.out _ (List.getElem_mem hlt)).below hb) (by have := HS.out _ (List.getElem_mem hlt); omega))
      have HLE := Lib.hid (HS.out _ (List.getElem_mem hlt))
      have k0 : (wr.alloc (.cells #[.int .i64 ps[k].id, ps[k].v] 42)).cell? ⟨wr.heap.size, 0, none⟩ = some (.int .i64 ps[k].id) := by rw [World.cell?_alloc_mark]; rfl
      have k1 : (wr.alloc (.cells #[.int .i64 ps[k].id, ps[k].v] 42)).cell? ⟨wr.heap.size, 1, none⟩ = some ps[k].v := by rw [World.cell?_alloc_mark]; rfl
      clear hc q0 q1 htake hql hbw hO hq hm H3 HLS HS
      unfold Po.pg at HTK
      unfold Po.v at CN d1 k0 k1
      generalize ps[k].id = t at *
      generalize ps[k].ls = ls at *
      generalize hpl : ls.length = pl at *
      generalize ps[k].a = pa at *; generalize ps[k].cap = pc at *
      have HPL := Lib.hid hpl
      clear hpl
      go_wp2_with fail
      have HB0 := (br wr).alloc (Nat.le_refl _) (.cells #[.int .i64 t, .slice pa pl pc] 42)
      have HW1 := Lib.hid (bt HBW.out HB0)
      have HO1 := Lib.hid (HO.out.next HB0)
      have HQ1 : RowKit.Hid (∀ q ∈ qs, ROwn elN (wr.alloc (.cells #[.int .i64 t, .slice pa pl pc] 42)) w.heap.size q.v q.ls) := Lib.hid (fun q hq => (HQ.out q hq).next HB0)
      clear HB0
      generalize wr.alloc (.cells #[.int .i64 t, .slice pa pl pc] 42) = W1 at *
      have hsz : wr.heap.size < W1.heap.size := World.block_lt_of_cell? W1 _ k0
      have hne0 : u3.ownBlock ≠ some wr.heap.size := fun e => by have := (HO.out.lt _ e).2; omega
      have HW1d : Below w.heap.size w W1.drew := bn HW1.out 1
      go_region_held3 (fun w' => w'.cell? ⟨wr.heap.size, 0, none⟩ = some (.int .i64 t) ∧ w'.cell? ⟨wr.heap.size, 1, none⟩ = some (.slice pa pl pc))
        (first | (exact ⟨e0, e1⟩) | (exact ⟨kp b3 k0, kp b3 k1⟩) | (go_split_ands; exact ⟨kp b3 k0, kp b3 k1⟩) | go_keep)
        (first
          | (go_at_call 61; (with_reducible refine (CN.out _ HW1d).mono ?_); rintro en w3 ⟨v1, rfl, hown1, hb1⟩; obtain ⟨a1, c1, rfl⟩ := hown1.shape; have b3 : Below W1.heap.size W1 w3 := bd (br W1) hb1)
          | ((refine stepE_app elP (by rfl) (.tmp 12) (.tmp 19) (by rfl) w.heap.size _ qs (by rfl) ((HO1.out.next b3).next ((br w3).alloc (Nat.le_refl _) _)) _ [⟨t, a1, c1, ls⟩] (by rfl) (rd_lit elP [⟨t, a1, c1, ls⟩] w3 _ _ w3.heap.size rfl (by simp [maxLen])) (by have := HQL.out; simp [maxLen]; omega) (by have := HQL.out; simp; omega) (by have := HW1.out.size; have := b3.size; simp; omega) ?_); intro v2 w5 hown2 hb5 hfar5; have f5 : ∀ j, w5.cell? ⟨wr.heap.size, j, none⟩ = _ := fun j => World.cell?_of_block (hfar5 wr.heap.size (by have := b3.size; simp; omega) hne0); have e0 := (f5 0).trans (kp ((br w3).alloc (Nat.le_refl _) _) (kp b3 k0)); have e1 := (f5 1).trans (kp ((br w3).alloc (Nat.le_refl _) _) (kp b3 k1)))
          | fail)
      have HN5 := Lib.hid hown2
      have HQ5 : RowKit.Hid (∀ q ∈ qs ++ [⟨t, a1, c1, ls⟩], ROwn elN w5 w.heap.size q.v q.ls) := Lib.hid (fun q hq => by
        have hal := (br w3).alloc (Nat.le_refl _) (.cells #[.int .i64 t, .slice a1 ls.length c1] 42)
        have hP := (HO1.out.next b3).next hal
        rcases List.mem_append.1 hq with hq | hq
        · have hN := ((HQ1.out q hq).next b3).next hal
          exact hN.far hfar5 (own_ne hP hN (by decide))
        · have : q = ⟨t, a1, c1, ls⟩ := by simpa using hq
          subst this
          have hN := (hown1.base (base' := w.heap.size) (HW1d.size)).next hal
          exact hN.far hfar5 (own_ne hP hN (by decide)))
      have HB5 := Lib.hid ((((HW1.out).trans (b3.mono HW1.out.size)).alloc (by have := HW1.out.size; have := b3.size; omega) _).trans hb5)
      have HM5 : RowKit.Hid (pgs (qs ++ [⟨t, a1, c1, ls⟩]) = pgs (ps.take (k + 1))) := Lib.hid (by
        rw [HTK.out, ← HM.out]; exact List.map_append)
      clear hown2 hb5 hfar5 f5 hown1 b3 hb1 HW1d HO1 HQ1 HW1 HO HQ HM HTK k0 k1 e0 e1
      go_wp2
      go_roundw
      case rel => exact ⟨k + 1, qs ++ [⟨t, a1, c1, ls⟩], by omega, by go_num, HN5.out, HQ5.out, HM5.out, HB5.out⟩
      case measure => simp [intOf]; omega
    · have e : k = ps.length := by omega
      subst e
      rw [List.take_length] at hm
      have HO := Lib.hid hO; have HQ := Lib.hid hq; have HM := Lib.hid hm
      clear hO hq hm H3 HLS HS
      go_wp2
      go_ret
      exact ⟨_, qs, rfl, ⟨HO.out.rd, fun q hq => (HQ.out q hq).rd⟩, HM.out, hbw⟩
end Ld
end Go.Proofs.Ytcppeligeodomaa
