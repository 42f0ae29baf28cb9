/- Joined by shake.py: RingDrop RingBack. -/
import Derived.Test.YtdfdjampodkpgaaDoorJRing
import Derived.Deep.RegionHeld3
import Derived.Deep.RegionLaw
import Derived.Lib.SliceRun
import Derived.Deep.MidRow
set_option linter.unusedSimpArgs false
set_option linter.unusedVariables false

/-! RingDrop -/
section
/- Rings: an epoch is dropped. -/
set_option linter.unusedSimpArgs false

set_option linter.unusedVariables false
namespace Go.Proofs.YtdfdjampodkpgaaDoor
open Go.RowKit
namespace Rg
open Tg
def zE : List Value := [.int .i64 0, .int .u64 0, .int .u64 0]
theorem zero_ep (w : World) : Sem.run Tryd.prog (zeroValue 54) w = .ok (.agg #[.int .i64 0, .int .u64 0, .int .u64 0]) w := by kernel_rfl
theorem run_clear_ep (w : World) (ty : TypeId) (b o c : Nat) (hc : ∀ j, j < 3 → (w.cell? ⟨b, o + j, none⟩).isSome = true) (hf : ∀ j, j < 3 → w.frozen? ⟨b, o + j, none⟩ = false) :
    (Builtin.clear_ #[22] ty #[.slice (some ⟨b, o, none⟩) 1 c]).run Tryd.prog w = .ok (.tuple #[]) (w.setCells b o zE) := by
  have hst := run_storeCells_cells (P := Tryd.prog) b o zE 0 w (by simpa [zE] using hc) (by simpa [zE] using hf) (by simp [zE, Value.oneCell'])
  simp only [Nat.add_zero] at hst
  have hz : (Builtin.zeroCells (Value.cells (.agg #[.int .i64 0, .int .u64 0, .int .u64 0])) 1).toList = zE := by kernel_rfl
  simp [Builtin.clear_, run_underlying Tryd.underlying22, zero_ep, hz, hst]
def delL (i j : Nat) (cs : List Value) : List Value := cs.take (i * 3) ++ cs.drop (j * 3)
set_option maxHeartbeats 2000000 in
theorem del_any (g cap n i j : Nat) (cs : List Value) (w : World) (hcs : cs.length = n * 3) (hcell : ∀ k u, cs[k]? = some u → w.cell? ⟨g, k, none⟩ = some u) (hfz : ∀ k, k < n * 3 → w.frozen? ⟨g, k, none⟩ = false) (hone : ∀ u ∈ cs, u.oneCell' = true) (hj : j = i + 1) (hjn : j ≤ n) (hn : n ≤ cap) (hcap : cap ≤ 9223372036854775807) :
    Calls Tryd.prog 50 #[.slice (some ⟨g, 0, none⟩) n cap, .int .i64 i, .int .i64 j] w fun e w' => e = .returned (.slice (some ⟨g, 0, none⟩) (n - 1) cap) ∧ w' = (w.drew.setCells g (i * 3) (cs.drop (j * 3))).setCells g ((n - 1) * 3) zE := by
  obtain ⟨i0, hi0, hz0, hz1, hz2⟩ := info_parts epoch_info
  obtain ⟨news, hnews⟩ : ∃ news, news = cs.drop (j * 3) := ⟨_, rfl⟩
  have hlen : news.length = (n - j) * 3 := by rw [hnews]; simp; omega
  have hget : ∀ t u, news[t]? = some u → w.drew.cell? ⟨g, j * 3 + t, none⟩ = some u := by
    intro t u hu
    rw [hnews, List.getElem?_drop] at hu
    exact hcell _ _ hu
  obtain ⟨A, hA, hsrc⟩ : ∃ A : Addr, (if cap = j then some (⟨g, 0, none⟩ : Addr) else some ⟨g, j * 3, none⟩) = some A ∧ Hid (∀ t u, news[t]? = some u → w.drew.cell? (A.add t) = some u) := by
    by_cases h : cap = j
    · refine ⟨⟨g, 0, none⟩, by simp [h], fun t u hu => ?_⟩
      have h0 : news.length = 0 := by rw [hlen]; omega
      rw [List.length_eq_zero_iff.1 h0] at hu
      simp at hu
    · refine ⟨⟨g, j * 3, none⟩, by simp [h], fun t u hu => ?_⟩
      rw [Addr.add_lit]
      exact hget t u hu
  have s1 : Hid (news.length = (n - j) * 3) := hlen
  have s2 : Hid (∀ u ∈ news, u.oneCell' = true) := by
    intro u hu
    rw [hnews] at hu
    exact hone u (List.mem_of_mem_drop hu)
  have there : ∀ k, k < n * 3 → (w.cell? ⟨g, k, none⟩).isSome = true := by
    intro k hk
    rw [hcell k _ (List.getElem?_eq_getElem (by omega))]; rfl
  have s3 : Hid (∀ t, t < news.length → (w.drew.cell? ⟨g, 0 + i * 3 + t, none⟩).isSome = true ∧ w.drew.frozen? ⟨g, 0 + i * 3 + t, none⟩ = false) := by
    intro t ht
    rw [hlen] at ht
    exact ⟨there _ (by omega), hfz _ (by omega)⟩
  obtain ⟨W1, hW1⟩ : ∃ W1, W1 = w.drew.setCells g (0 + i * 3) news := ⟨_, rfl⟩
  have hcl : ∀ ty, (Builtin.clear_ #[22] ty #[.slice (some ⟨g, (n - 1) * 3, none⟩) (n - (n - 1)) (cap - (n - 1))]).run Tryd.prog W1 = .ok (.tuple #[]) (W1.setCells g ((n - 1) * 3) zE) := by
    intro ty
    rw [show n - (n - 1) = 1 by omega]
    refine run_clear_ep W1 ty g ((n - 1) * 3) _ (fun k hk => ?_) (fun k hk => ?_)
    · rw [hW1]; exact World.isSome_setCells g news _ _ _ (there _ (by omega))
    · rw [hW1, World.frozen?_setCells]; exact hfz _ (by omega)
  have hW : Hid (W1 = w.drew.setCells g (0 + i * 3) news) := hW1
  have hne : ((i : Int) == (j : Int)) = false := by rw [beq_eq_false_iff_ne]; omega
  have HJ := Lib.hid hj
  have hjc : j ≤ cap := by omega
  have hic : i ≤ cap := by omega
  have hij : i ≤ j := by omega
  have hni : (n = i) = False := eq_false (by omega)
  have hcn : (cap = n - 1) = False := eq_false (by omega)
  have HN : i + (n - j) = n - 1 := by omega
  have HNW := Lib.hid hnews
  clear hW1 hget hnews hlen there hone hj hcell hfz hcs
  go_enter Tryd.func50, Tryd.ntmps50
  go_wp2_with fail
  go_region_law (refine step_append_room rfl (.tmp 22) (.tmp 25) 22 rfl 54 i0 3 Tryd.underlying22 hi0 hz1 g 0 i cap (by simp [Act.eval, Act.put]) A (n - j) (cap - j) news (by simp [Act.eval, Act.put]) s1.out hsrc.out s2.out (by omega) s3.out ?_; rw [← hW.out])
  go_wp2
  go_ret
  rw [Nat.zero_add] at hW
  exact ⟨rfl, by rw [hW.out, HNW.out]⟩
theorem below_cells {B : Nat} {a : World} (b : Nat) (hb : B ≤ b) : ∀ (vs : List Value) (o : Nat) {w : World}, Below B a w → Below B a (w.setCells b o vs)
  | [], _, _, h => h
  | v :: r, o, _, h => below_cells b hb r (o + 1) (h.setCell (p := ⟨b, o, none⟩) hb v)
theorem one_flat (xs : List Ep) : ∀ u ∈ xs.flatMap eE, u.oneCell' = true := by
  intro u hu
  obtain ⟨o, _, hy⟩ := List.mem_flatMap.1 hu
  simp [eE] at hy
  rcases hy with rfl | rfl | rfl <;> rfl
theorem erase_at (xs : List Ep) (i k : Nat) (hi : i < xs.length) (hk : k < (xs.eraseIdx i).length) : ((xs.eraseIdx i)[k] = xs[if k < i then k else k + 1]'(by rw [List.length_eraseIdx_of_lt hi] at hk; split <;> omega)) := by
  rw [List.getElem_eraseIdx]
  split <;> rfl
theorem del_rd (base i : Nat) (v : Value) (xs : List Ep) (w : World) (h : OwnE w base v xs) (hi : i < xs.length) : Calls Tryd.prog 50 #[v, .int .i64 i, .int .i64 ((i + 1 : Nat) : Int)] w fun e w' => ∃ v', e = .returned v' ∧ Rd 3 eE w' v' (xs.eraseIdx i) ∧ Below base w w' := by
  obtain ⟨hl, h | ⟨g, cap, cur, rfl, h2, h3, h4, h5, h6, h7⟩⟩ := h
  · omega
  · have hg : g < w.heap.size := by
      rcases Nat.lt_or_ge g w.heap.size with hlt | hge
      · exact hlt
      · rw [Array.getElem?_eq_none hge] at h3; cases h3
    have hown : OwnE w base (.slice (some ⟨g, 0, none⟩) xs.length cap) xs := ⟨hl, .inr ⟨g, cap, cur, rfl, h2, h3, h4, h5, h6, h7⟩⟩
    have hcell : ∀ k u, (xs.flatMap eE)[k]? = some u → w.cell? ⟨g, k, none⟩ = some u := by
      intro k u hu
      have hk : k < xs.length * 3 := by
        rw [← flat_len]
        rcases Nat.lt_or_ge k (xs.flatMap eE).length with h | h
        · exact h
        · rw [List.getElem?_eq_none h] at hu; cases hu
      rw [World.ownsRow.cellAt hown _ hk]; exact hu
    have hfz : ∀ k, k < xs.length * 3 → w.frozen? ⟨g, k, none⟩ = false := by
      intro k hk
      simp [World.frozen?, h3]
    unfold maxLen at h5
    refine (del_any g cap xs.length i (i + 1) (xs.flatMap eE) w (flat_len xs) hcell hfz (one_flat xs) rfl (by omega) h4 h5).mono ?_
    rintro e w' ⟨rfl, rfl⟩
    have hlen := List.length_eraseIdx_of_lt hi
    have there : ∀ k, k < xs.length * 3 → (w.drew.cell? ⟨g, k, none⟩).isSome = true := by
      intro k hk
      show (w.cell? _).isSome = true
      rw [hcell k _ (List.getElem?_eq_getElem (by rw [flat_len]; omega))]; rfl
    have hcd : ((xs.flatMap eE).drop ((i + 1) * 3)).length = (xs.length - (i + 1)) * 3 := by rw [List.length_drop, flat_len]; omega
    refine ⟨_, rfl, ⟨some ⟨g, 0, none⟩, cap, by rw [hlen], by omega, by unfold maxLen; omega, fun _ => ⟨g, 0, rfl, ?_, ?_⟩⟩, ?_⟩
    · have hB : Below base w ((w.drew.setCells g (i * 3) ((xs.flatMap eE).drop ((i + 1) * 3))).setCells g ((xs.length - 1) * 3) zE) := below_cells g h2 _ _ (below_cells g h2 _ _ (Below.refl base w).drew)
      exact Nat.lt_of_lt_of_le hg hB.size
    · intro k hk j u hu
      have hj : j < 3 := by
        rcases Nat.lt_or_ge j 3 with h | h
        · exact h
        · rw [List.getElem?_eq_none (by simp [eE]; omega)] at hu; cases hu
      have hk' := hk
      rw [hlen] at hk'
      rw [World.cell?_setCells_out g zE _ _ _ (fun _ _ => .inl (by simp; omega))]
      rw [erase_at xs i k hi hk] at hu
      by_cases hki : k < i
      · rw [World.cell?_setCells_out g _ _ _ _ (fun _ _ => .inl (by simp; omega))]
        simp only [if_pos hki] at hu
        obtain ⟨f1, f2, f3⟩ := flat_at xs k (by omega)
        rw [Nat.zero_add]
        refine hcell _ _ ?_
        rcases (show j = 0 ∨ j = 1 ∨ j = 2 by omega) with rfl | rfl | rfl
        · rw [← hu]; exact f1
        · rw [← hu]; exact f2
        · rw [← hu]; exact f3
      · simp only [if_neg hki] at hu
        obtain ⟨f1, f2, f3⟩ := flat_at xs (k + 1) (by omega)
        obtain ⟨m, hm⟩ : ∃ m, k * 3 + j = i * 3 + m := ⟨(k - i) * 3 + j, by omega⟩
        have hml : m < ((xs.flatMap eE).drop ((i + 1) * 3)).length := by rw [hcd]; omega
        rw [Nat.zero_add, hm, World.cell?_setCells_in g _ _ _ (fun t ht => there _ (by rw [hcd] at ht; omega)) m hml]
        rw [← List.getElem?_eq_getElem hml, List.getElem?_drop]
        rw [show (i + 1) * 3 + m = (k + 1) * 3 + j by omega]
        rcases (show j = 0 ∨ j = 1 ∨ j = 2 by omega) with rfl | rfl | rfl
        · rw [← hu]; exact f1
        · rw [← hu]; exact f2
        · rw [← hu]; exact f3
    · exact below_cells g h2 _ _ (below_cells g h2 _ _ (Below.refl base w).drew)
theorem own_base {w : World} {b b' : Nat} {v : Value} {xs : List Ep} (h : OwnE w b v xs) (hb : b' ≤ b) : OwnE w b' v xs := by
  obtain ⟨hl, h | ⟨g, cap, cur, h1, h2, h3, h4⟩⟩ := h
  · exact ⟨hl, .inl h⟩
  · exact ⟨hl, .inr ⟨g, cap, cur, h1, Nat.le_trans hb h2, h3, h4⟩⟩
theorem drop_cases (xs : List Ep) (no : Int) : (chk xs ≠ 0 ∧ dropF xs no = ([], chk xs)) ∨ (chk xs = 0 ∧ atN no xs = xs.length ∧ dropF xs no = ([], 5)) ∨ (chk xs = 0 ∧ xs.length ≤ 8 ∧ atN no xs < xs.length ∧ dropF xs no = (xs.eraseIdx (atN no xs), 0)) := by
  unfold dropF
  by_cases h : chk xs = 0
  · have hl : xs.length ≤ 8 := by
      unfold chk at h
      by_cases g : 8 < xs.length
      · rw [if_pos g] at h; simp at h
      · omega
    rw [if_neg (fun x => x h)]
    have hle := atN_le no xs
    by_cases g : atN no xs = xs.length
    · rw [if_pos g]; exact .inr (.inl ⟨h, g, rfl⟩)
    · rw [if_neg g]; exact .inr (.inr ⟨h, hl, by omega, rfl⟩)
  · rw [if_pos h]; exact .inl ⟨h, rfl⟩
set_option maxHeartbeats 2000000 in
theorem drop_any (v : Value) (xs : List Ep) (no : Int) (w : World) (h : Rd 3 eE w v xs) : Calls Tryd.prog 22 #[v, .int .i64 no] w (RingQ (dropF xs no) w) := by
  have H := Lib.hid h
  have hck := check_any v xs
  have HCK := Lib.hid hck; clear hck
  have hA := at_any no v xs
  obtain ⟨ad, cap, rfl, h1, h2, h3⟩ := h
  rcases drop_cases xs no with ⟨hc, hF⟩ | ⟨hc, ha, hF⟩ | ⟨hc, hl, ha, hF⟩
  · have HF := Lib.hid hF; have hb : (chk xs != 0) = true := by simp [hc]
    generalize chk xs = C at *
    clear hF hA h3
    go_enter Tryd.func22, Tryd.ntmps22
    go_wp2_with fail
    refine (HCK.out _ H.out).mono ?_
    rintro en w1 ⟨rfl, hb1⟩
    go_wp2
    go_ret2
    exact ⟨_, by rw [HF.out]; rfl, by rw [HF.out]; exact Rd.nil _, hb1⟩
  · have HF := Lib.hid hF
    rw [if_pos ha] at hA
    have HA := Lib.hid hA
    rw [hc] at HCK
    clear hF hc hA ha h3
    go_enter Tryd.func22, Tryd.ntmps22
    go_wp2_with fail
    refine (HCK.out _ H.out).mono ?_
    rintro en w1 ⟨rfl, hb1⟩
    go_wp2_with fail
    refine (HA.out _ (H.out.below hb1)).mono ?_
    rintro en w2 ⟨rfl, hb2⟩
    go_wp2
    go_ret2
    exact ⟨_, by rw [HF.out]; rfl, by rw [HF.out]; exact Rd.nil _, bt hb1 hb2⟩
  · have HF := Lib.hid hF
    rw [if_neg (by omega)] at hA
    obtain ⟨n, hn⟩ : ∃ n, atN no xs = n := ⟨_, rfl⟩
    rw [hn] at hA HF ha
    have HA := Lib.hid hA
    rw [hc] at HCK
    have hl3 : n < xs.length := ha
    have hwk : IntKind.i64.wrap ((n : Int) + 1) = ((n + 1 : Nat) : Int) := by rw [IntKind.wrap_i64]; omega
    have hw0 : ((n : Int) < 0) = False := eq_false (by omega)
    clear hF hc hA ha h3 hn
    go_enter Tryd.func22, Tryd.ntmps22
    go_wp2_with fail
    refine (HCK.out _ H.out).mono ?_
    rintro en w1 ⟨rfl, hb1⟩
    go_wp2_with fail
    refine (HA.out _ (H.out.below hb1)).mono ?_
    rintro en w2 ⟨rfl, hb2⟩
    have R2 := Lib.hid (H.out.below (bt hb1 hb2))
    have HB2 := Lib.hid (bt hb1 hb2)
    clear hb1 hb2
    go_wp2_with fail
    refine (clone_any _ xs _ R2.out hl).mono ?_
    rintro en w3 ⟨v1, rfl, hown1, hb3⟩
    have HO := Lib.hid hown1
    have HB3 := Lib.hid (bt HB2.out hb3)
    have hbs := HB2.out.size
    clear hown1 hb3
    go_wp2_with fail
    refine (del_rd w.heap.size n v1 xs _ (own_base HO.out hbs) hl3).mono ?_
    rintro en w4 ⟨v2, rfl, hr4, hb4⟩
    have HR4 := Lib.hid hr4
    have HB4 := Lib.hid (HB3.out.trans hb4)
    clear hr4 hb4
    go_wp2_with fail
    go_ret2
    exact ⟨_, by rw [HF.out]; rfl, by rw [HF.out]; exact HR4.out, HB4.out⟩
end Rg
end Go.Proofs.YtdfdjampodkpgaaDoor
end

/-! RingBack -/
section
/- Rings: what is sealed opens as it was: plain facts. -/
set_option linter.unusedSimpArgs false
set_option linter.unusedVariables false
namespace Go.Proofs.YtdfdjampodkpgaaDoor
namespace Rg
open Tg
theorem ba_ext {a b : ByteArray} (h : a.data.toList = b.data.toList) : a = b := by
  cases a; cases b; congr 1; exact Array.toList_inj.1 h
theorem leL_len (N : W64) : (leL N).length = 8 := rfl
theorem mark_size (a b : W64) (s : ByteArray) : (markB a b s).size = s.size + 8 := by
  unfold markB; rw [ByteArray.size_append]; rfl
theorem body_mark (a b : W64) (s : ByteArray) : bodyOf (markB a b s) = s := by
  unfold bodyOf
  rw [mark_size]
  apply ba_ext
  unfold markB
  simp [List.extract_eq_take_drop]
  exact List.take_of_length_le (by simp)
theorem one_size (n : Int) (s : ByteArray) : (oneB n ++ s).size = s.size + 1 := by
  unfold oneB; rw [ByteArray.size_append, Nat.add_comm]; rfl
theorem one_rest (n : Int) (s : ByteArray) (k : Nat) (hk : s.size + 1 ≤ k) : (oneB n ++ s).extract 1 k = s := by
  apply ba_ext
  unfold oneB
  simp [List.extract_eq_take_drop]
  rw [List.take_of_length_le]
  simp; omega
theorem first_one (a b : W64) (n : Int) (s : ByteArray) (h1 : 1 ≤ n) (h2 : n ≤ 255) : firstB (markB a b (oneB n ++ s)) = n := by
  unfold firstB markB oneB
  simp
  omega
theorem atN_self : ∀ (xs : List Ep) (k : Nat) (hk : k < xs.length), xs.Pairwise (fun x y => x.1 < y.1) → atN xs[k].1 xs = k := by
  intro xs k hk hp
  refine atN_eq _ xs k (by omega) (fun j hj hjk => ?_) (fun _ => rfl)
  have := List.pairwise_iff_getElem.1 hp j k hj hk hjk
  omega
theorem chk_spec {xs : List Ep} (h : chk xs = 0) : xs.length ≤ 8 ∧ (∀ x ∈ xs, 1 ≤ x.1 ∧ x.1 ≤ 255) ∧ xs.Pairwise (fun x y => x.1 < y.1) := by
  unfold chk at h
  by_cases g : 8 < xs.length
  · rw [if_pos g] at h; simp at h
  · rw [if_neg g] at h
    obtain ⟨g1, g2⟩ := chkR_spec xs 0 h
    exact ⟨by omega, fun x hx => ⟨(g1 x hx).1, (g1 x hx).2.1⟩, g2⟩
theorem chk_of {xs : List Ep} (h8 : xs.length ≤ 8) (h : ∀ x ∈ xs, 1 ≤ x.1 ∧ x.1 ≤ 255) (hp : xs.Pairwise (fun x y => x.1 < y.1)) : chk xs = 0 := by
  unfold chk
  rw [if_neg (by omega)]
  exact chkR_of xs 0 (fun x hx => by have := h x hx; omega) hp
theorem sealed_size (x : Ep) (s : ByteArray) : (sealed x s).size = s.size + 9 := by
  unfold sealed; rw [mark_size, one_size]
theorem open_sealed {xs : List Ep} (hc : chk xs = 0) (k : Nat) (hk : k < xs.length) (s : ByteArray) (hs : s.size ≤ 111) : openF xs (sealed xs[k] s) = (s, xs[k].1, 0) := by
  obtain ⟨h8, hr, hp⟩ := chk_spec hc
  have hx := hr xs[k] (List.getElem_mem hk)
  have hf : firstB (sealed xs[k] s) = xs[k].1 := first_one _ _ _ _ hx.1 hx.2
  have hb : bodyOf (sealed xs[k] s) = oneB xs[k].1 ++ s := body_mark _ _ _
  unfold openF
  rw [if_neg (fun h => h hc), sealed_size, if_neg (by omega), hf, atN_self xs k hk hp, List.getElem?_eq_getElem hk]
  simp only
  rw [hb, if_pos (by unfold sealed; rfl), one_rest _ _ _ (by omega)]
theorem open_lost {xs : List Ep} (hc : chk xs = 0) (x : Ep) (hx : 1 ≤ x.1 ∧ x.1 ≤ 255) (s : ByteArray) (hs : s.size ≤ 111) (hn : atN x.1 xs = xs.length) : openF xs (sealed x s) = (emptyS, 0, 5) := by
  have hf : firstB (sealed x s) = x.1 := first_one _ _ _ _ hx.1 hx.2
  unfold openF
  rw [if_neg (fun h => h hc), sealed_size, if_neg (by omega), hf, hn, List.getElem?_eq_none (Nat.le_refl _)]
theorem last_no' {xs : List Ep} {n : Nat} (h : xs.length = n + 1) : lastNo xs = (xs[n]'(by omega)).1 := last_no xs n h
theorem last_ge {xs : List Ep} (hc : chk xs = 0) (x : Ep) (hx : x ∈ xs) : x.1 ≤ lastNo xs := by
  obtain ⟨h8, hr, hp⟩ := chk_spec hc
  obtain ⟨i, hi, rfl⟩ := List.getElem_of_mem hx
  obtain ⟨n, hn⟩ : ∃ n, xs.length = n + 1 := ⟨xs.length - 1, by omega⟩
  rw [last_no xs n hn]
  by_cases e : i = n
  · subst e; exact Int.le_refl _
  · have := List.pairwise_iff_getElem.1 hp i n hi (by omega) (by omega)
    omega
/-- the ring with a key more -/
theorem chk_add {xs : List Ep} (hc : chk xs = 0) (h8 : xs.length < 8) (h255 : lastNo xs ≠ 255) (k : W64 × W64) : chk (xs ++ [(lastNo xs + 1, k)]) = 0 := by
  obtain ⟨_, hr, hp⟩ := chk_spec hc
  have hb := last_bd hc
  refine chk_of (by simp; omega) (fun x hx => ?_) ?_
  · rcases List.mem_append.1 hx with hx | hx
    · exact hr x hx
    · have e : x = (lastNo xs + 1, k) := by simpa using hx
      subst e; constructor <;> simp only <;> omega
  · refine List.pairwise_append.2 ⟨hp, List.pairwise_singleton _ _, fun x hx y hy => ?_⟩
    have e : y = (lastNo xs + 1, k) := by simpa using hy
    subst e
    have := last_ge hc x hx
    simp only; omega
theorem chk_erase {xs : List Ep} (hc : chk xs = 0) (i : Nat) : chk (xs.eraseIdx i) = 0 := by
  obtain ⟨h8, hr, hp⟩ := chk_spec hc
  have hs : (xs.eraseIdx i).Sublist xs := List.eraseIdx_sublist xs i
  exact chk_of (Nat.le_trans hs.length_le h8) (fun x hx => hr x (hs.subset hx)) (hp.sublist hs)
end Rg
end Go.Proofs.YtdfdjampodkpgaaDoor
end
