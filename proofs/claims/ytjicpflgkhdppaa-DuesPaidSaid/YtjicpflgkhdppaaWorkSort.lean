/- Layings of the library's contracts at this program, written out. (gen_lay.py) -/
import Derived.Shelf.Slices.SearchI
import Derived.Shelf.Slices.CompactI
import Derived.Shelf.Slices.Empties
import Derived.Shelf.Sort.Plain
import Derived.Shelf.Slices.In.SortNone
import Derived.Test.YtjicpflgkhdppaaProg
import Derived.Test.YtjicpflgkhdppaaShareEl
set_option linter.unusedSimpArgs false
set_option linter.unusedVariables false
namespace Go.Proofs.Ytjicpflgkhdppaa
open Go.Shelf
namespace Lay
def sortI_ren : Go.Shelf.Ren := ⟨fun | 189 => 61 | 125 => 79 | 257 => 78 | 128 => 96 | 129 => 97 | 294 => 88 | 295 => 89 | 296 => 90 | 297 => 91 | 298 => 92 | 299 => 93 | 216 => 82 | 300 => 94 | 301 => 95 | 328 => 101 | 329 => 102 | 330 => 103 | 331 => 104 | 332 => 105 | 215 => 98 | 343 => 106 | n => n, fun | 28 => 26 | 3 => 3 | 46 => 102 | 0 => 0 | 51 => 113 | 53 => 115 | 4 => 4 | 183 => 107 | 182 => 106 | 131 => 89 | 5 => 5 | 9 => 9 | 218 => 118 | 222 => 82 | 228 => 123 | 229 => 116 | n => n, fun | n => n⟩
theorem sortI : Lays.n189 Try.prog sortI_ren where
  mixed := by kernel_rfl
  f125 := Try.func79.trans (congrArg some (by kernel_rfl))
  f128 := Try.func96.trans (congrArg some (by kernel_rfl))
  f129 := Try.func97.trans (congrArg some (by kernel_rfl))
  f189 := Try.func61.trans (congrArg some (by kernel_rfl))
  f215 := Try.func98.trans (congrArg some (by kernel_rfl))
  f216 := Try.func82.trans (congrArg some (by kernel_rfl))
  f257 := Try.func78.trans (congrArg some (by kernel_rfl))
  f294 := Try.func88.trans (congrArg some (by kernel_rfl))
  f295 := Try.func89.trans (congrArg some (by kernel_rfl))
  f296 := Try.func90.trans (congrArg some (by kernel_rfl))
  f297 := Try.func91.trans (congrArg some (by kernel_rfl))
  f298 := Try.func92.trans (congrArg some (by kernel_rfl))
  f299 := Try.func93.trans (congrArg some (by kernel_rfl))
  f300 := Try.func94.trans (congrArg some (by kernel_rfl))
  f301 := Try.func95.trans (congrArg some (by kernel_rfl))
  f328 := Try.func101.trans (congrArg some (by kernel_rfl))
  f329 := Try.func102.trans (congrArg some (by kernel_rfl))
  f330 := Try.func103.trans (congrArg some (by kernel_rfl))
  f331 := Try.func104.trans (congrArg some (by kernel_rfl))
  f332 := Try.func105.trans (congrArg some (by kernel_rfl))
  f343 := Try.func106.trans (congrArg some (by kernel_rfl))
  t0 := Try.underlying0
  a0 := Try.isAgg0
  z0 := Try.sizeOf0
  v0 := Try.zeroValue0
  t3 := Try.underlying3
  a3 := Try.isAgg3
  z3 := Try.sizeOf3
  v3 := Try.zeroValue3
  t4 := Try.underlying4
  a4 := Try.isAgg4
  z4 := Try.sizeOf4
  v4 := Try.zeroValue4
  t5 := Try.underlying5
  a5 := Try.isAgg5
  z5 := Try.sizeOf5
  v5 := Try.zeroValue5
  t9 := Try.underlying9
  a9 := Try.isAgg9
  z9 := Try.sizeOf9
  v9 := Try.zeroValue9
  t28 := Try.underlying26
  a28 := Try.isAgg26
  z28 := Try.sizeOf26
  v28 := Try.zeroValue26
  t46 := Try.underlying102
  a46 := Try.isAgg102
  z46 := Try.sizeOf102
  v46 := Try.zeroValue102
  t51 := Try.underlying113
  a51 := Try.isAgg113
  z51 := Try.sizeOf113
  v51 := Try.zeroValue113
  t53 := Try.underlying115
  a53 := Try.isAgg115
  z53 := Try.sizeOf115
  v53 := Try.zeroValue115
  t131 := Try.underlying89
  a131 := Try.isAgg89
  z131 := Try.sizeOf89
  v131 := Try.zeroValue89
  t182 := Try.underlying106
  a182 := Try.isAgg106
  z182 := Try.sizeOf106
  v182 := Try.zeroValue106
  t183 := Try.underlying107
  a183 := Try.isAgg107
  z183 := Try.sizeOf107
  v183 := Try.zeroValue107
  t218 := Try.underlying118
  a218 := Try.isAgg118
  z218 := Try.sizeOf118
  v218 := Try.zeroValue118
  t222 := Try.underlying82
  a222 := Try.isAgg82
  z222 := Try.sizeOf82
  v222 := Try.zeroValue82
  t228 := Try.underlying123
  a228 := Try.isAgg123
  z228 := Try.sizeOf123
  v228 := Try.zeroValue123
  t229 := Try.underlying116
  a229 := Try.isAgg116
  z229 := Try.sizeOf116
  v229 := Try.zeroValue116
def compI_ren : Go.Shelf.Ren := ⟨fun | 20 => 62 | n => n, fun | 22 => 26 | 3 => 3 | 4 => 4 | 0 => 0 | n => n, fun | n => n⟩
theorem compI : Lays2.n20 Try.prog compI_ren where
  mixed := by kernel_rfl
  f20 := Try.func62.trans (congrArg some (by kernel_rfl))
  t0 := Try.underlying0
  a0 := Try.isAgg0
  z0 := Try.sizeOf0
  v0 := Try.zeroValue0
  t3 := Try.underlying3
  a3 := Try.isAgg3
  z3 := Try.sizeOf3
  v3 := Try.zeroValue3
  t4 := Try.underlying4
  a4 := Try.isAgg4
  z4 := Try.sizeOf4
  v4 := Try.zeroValue4
  t22 := Try.underlying26
  a22 := Try.isAgg26
  z22 := Try.sizeOf26
  v22 := Try.zeroValue26
  i3 := by kernel_rfl
def srchI_ren : Go.Shelf.Ren := ⟨fun | 25 => 69 | 31 => 82 | 32 => 83 | 37 => 98 | n => n, fun | 22 => 26 | 3 => 3 | 4 => 4 | 40 => 102 | 0 => 0 | n => n, fun | n => n⟩
theorem srchI : Lays2.n25 Try.prog srchI_ren where
  mixed := by kernel_rfl
  f25 := Try.func69.trans (congrArg some (by kernel_rfl))
  f31 := Try.func82.trans (congrArg some (by kernel_rfl))
  f32 := Try.func83.trans (congrArg some (by kernel_rfl))
  f37 := Try.func98.trans (congrArg some (by kernel_rfl))
  t0 := Try.underlying0
  a0 := Try.isAgg0
  z0 := Try.sizeOf0
  v0 := Try.zeroValue0
  t3 := Try.underlying3
  a3 := Try.isAgg3
  z3 := Try.sizeOf3
  v3 := Try.zeroValue3
  t4 := Try.underlying4
  a4 := Try.isAgg4
  z4 := Try.sizeOf4
  v4 := Try.zeroValue4
  t22 := Try.underlying26
  a22 := Try.isAgg26
  z22 := Try.sizeOf26
  v22 := Try.zeroValue26
  t40 := Try.underlying102
  a40 := Try.isAgg102
  z40 := Try.sizeOf102
  v40 := Try.zeroValue102
end Lay
end Go.Proofs.Ytjicpflgkhdppaa
/- Days of work: the library's sort, compacting and search at slices of ints of one's own. -/
set_option linter.unusedVariables false
namespace Go.Proofs.Ytjicpflgkhdppaa
open Go.RowKit
namespace Wk
open Go.Sort (putRow putCells grow mapBlock onCells Holds)
def srt (xs : List Int) : List Int := xs.mergeSort fun x y => decide (x ≤ y)
abbrev cmpc (xs : List Int) : List Int := Lib.compact xs
theorem srt_len (xs : List Int) : (srt xs).length = xs.length := by simp [srt]
theorem srt_mem (xs : List Int) (x : Int) : x ∈ srt xs ↔ x ∈ xs := by simp [srt]
theorem srt_sorted (xs : List Int) : (srt xs).Pairwise (· ≤ ·) := by
  have := List.pairwise_mergeSort (le := fun (x y : Int) => decide (x ≤ y)) (fun a b c h1 h2 => by simp at *; omega) (fun a b => by simp; omega) xs
  exact this.imp (fun h => by simpa using h)
theorem cUp_mem (d : Array Int) : ∀ (m : Nat) (x : Int), x ∈ Lib.compactUpTo d m ↔ ∃ j, j < m ∧ d[j]! = x
  | 0, x => by simp [Lib.compactUpTo]
  | m + 1, x => by
    rw [Lib.compactUpTo_succ, List.mem_append, cUp_mem d m x]
    by_cases hk : Lib.keeps d m = true
    · rw [if_pos hk]
      constructor
      · rintro (⟨j, h1, h2⟩ | h)
        · exact ⟨j, by omega, h2⟩
        · simp at h; exact ⟨m, by omega, h.symm⟩
      · rintro ⟨j, h1, h2⟩
        by_cases e : j = m
        · subst e; exact .inr (by simp [h2])
        · exact .inl ⟨j, by omega, h2⟩
    · rw [if_neg hk]
      have hkk : m ≠ 0 ∧ d[m]! = d[m - 1]! := by simpa [Lib.keeps] using hk
      constructor
      · rintro (⟨j, h1, h2⟩ | h)
        · exact ⟨j, by omega, h2⟩
        · simp at h
      · rintro ⟨j, h1, h2⟩
        by_cases e : j = m
        · subst e; exact .inl ⟨j - 1, by omega, by rw [← hkk.2]; exact h2⟩
        · exact .inl ⟨j, by omega, h2⟩
theorem cmpc_mem (xs : List Int) (x : Int) : x ∈ cmpc xs ↔ x ∈ xs := by
  show x ∈ Lib.compactUpTo xs.toArray xs.length ↔ _
  rw [cUp_mem]
  constructor
  · rintro ⟨j, h1, h2⟩
    rw [getElem!_pos _ j (by simpa using h1)] at h2
    rw [← h2]; simp
  · intro h
    obtain ⟨j, h1, h2⟩ := List.getElem_of_mem h
    exact ⟨j, h1, by rw [getElem!_pos _ j (by simpa using h1)]; simpa using h2⟩
theorem cUp_inc (d : Array Int) (hs : ∀ i j : Nat, i ≤ j → j < d.size → d[i]! ≤ d[j]!) : ∀ m : Nat, m ≤ d.size → (Lib.compactUpTo d m).Pairwise (· < ·)
  | 0, _ => by simp [Lib.compactUpTo]
  | m + 1, h => by
    rw [Lib.compactUpTo_succ]
    by_cases hk : Lib.keeps d m = true
    · rw [if_pos hk, List.pairwise_append]
      refine ⟨cUp_inc d hs m (by omega), by simp, ?_⟩
      intro a ha b hb
      simp at hb; subst hb
      obtain ⟨j, h1, h2⟩ := (cUp_mem d m a).1 ha
      have hkk : m = 0 ∨ d[m]! ≠ d[m - 1]! := by simpa [Lib.keeps] using hk
      have a1 := hs j (m - 1) (by omega) (by omega)
      have a2 := hs (m - 1) m (by omega) (by omega)
      rcases hkk with h0 | h0 <;> omega
    · rw [if_neg hk, List.append_nil]
      exact cUp_inc d hs m (by omega)
theorem cmpc_inc (xs : List Int) (h : xs.Pairwise (· ≤ ·)) : (cmpc xs).Pairwise (· < ·) := by
  refine cUp_inc xs.toArray (fun i j hij hj => ?_) xs.length (by simp)
  have hj' : j < xs.length := by simpa using hj
  rw [getElem!_pos _ i (by simpa using (by omega : i < xs.length)), getElem!_pos _ j hj]
  simp only [List.getElem_toArray]
  by_cases e : i = j
  · subst e; exact Int.le_refl _
  · exact List.pairwise_iff_getElem.1 h i j (by omega) hj' (by omega)
theorem cmpc_len (xs : List Int) : (cmpc xs).length ≤ xs.length := by
  show (Lib.compactUpTo xs.toArray xs.length).length ≤ _
  unfold Lib.compactUpTo
  rw [List.length_map]
  have := List.length_filter_le (Lib.keeps xs.toArray) (List.range xs.length)
  simpa using this
/-- what stands in a row that was written whole -/
theorem own_put {w : World} {base blk cap m : Nat} {xs : List Int} (h : ROwn elZ w base (.slice (some ⟨blk, 0, none⟩) xs.length cap) xs) (ys : List Int) (hy : ys.length = xs.length) (hm : m ≤ ys.length) (n : Nat) (os : Array Obj) :
    ROwn elZ (grow (putRow (Value.int .i64) (Sort.ahead w n) blk 0 ys.toArray) os) base (.slice (some ⟨blk, 0, none⟩) m cap) (ys.take m) ∧ Below base w (grow (putRow (Value.int .i64) (Sort.ahead w n) blk 0 ys.toArray) os) := by
  obtain ⟨hl, hh⟩ := h
  obtain ⟨hbase, cur, h4, h5, h6, h7, h8⟩ : base ≤ blk ∧ ∃ cur, w.heap[blk]? = some (.cells cur 3 (0, 0)) ∧ xs.length ≤ cap ∧ cap ≤ maxLen ∧ cur.size = cap * 1 ∧ cur.toList.take (xs.length * 1) = xs.flatMap eI := by
    rcases hh with ⟨h1, h2⟩ | ⟨g, cap', cur, h1, h2, h3, h4, h5, h6, h7⟩
    · cases h1
    · injection h1 with e1 e2 e3
      injection e1 with e1
      injection e1 with e1 e4
      subst e1 e3
      exact ⟨h2, cur, h3, h4, h5, h6, h7⟩
  have hlt : blk < w.heap.size := by
    rcases Nat.lt_or_ge blk w.heap.size with h' | h'
    · exact h'
    · rw [Array.getElem?_eq_none h'] at h4; cases h4
  have hg : (grow (putRow (Value.int .i64) (Sort.ahead w n) blk 0 ys.toArray) os).heap[blk]? = some (.cells (putCells (Value.int .i64) 0 ys.toArray cur) 3 (0, 0)) := by
    show ((w.heap.modify blk (onCells (putCells (Value.int .i64) 0 ys.toArray))) ++ os)[blk]? = _
    rw [Array.getElem?_append_left (by simpa using hlt), Array.getElem?_modify, if_pos rfl, h4]
    rfl
  have htl : (ys.take m).length = m := by simp; omega
  refine ⟨⟨by rw [elZ.flat_len], .inr ⟨blk, cap, putCells (Value.int .i64) 0 ys.toArray cur, by rw [htl], hbase, hg, by rw [htl]; omega, h6, by simp [putCells, h7], ?_⟩⟩, ?_⟩
  · apply List.ext_getElem?
    intro j
    rw [htl]
    show ((putCells (Value.int .i64) 0 ys.toArray cur).toList.take (m * 1))[j]? = ((ys.take m).flatMap eI)[j]?
    have hfl : ((ys.take m).flatMap eI).length = m := by
      have := elZ.flat_len (ys.take m); rw [htl] at this; simpa using this
    by_cases hj : j < m
    · have := elZ.flat_at (ys.take m) j (by rw [htl]; exact hj) 0 (by decide)
      have this' : ((ys.take m).flatMap eI)[j]? = (eI ((ys.take m)[j]'(by rw [htl]; exact hj)))[0]? := by simpa using this
      rw [this', List.getElem?_take, if_pos (by omega)]
      unfold putCells
      have hjc : j < cur.size := by rw [h7]; omega
      simp only [Array.getElem?_toList, Array.getElem?_mapIdx, Nat.zero_le, true_and, Nat.zero_add, Nat.sub_zero]
      rw [Array.getElem?_eq_getElem hjc, Option.map_some, if_pos (by simp; omega), getElem!_pos _ j (by simp; omega)]
      simp [eI]
    · rw [List.getElem?_eq_none (by simp; omega), List.getElem?_eq_none (by omega)]
  · refine ⟨rfl, rfl, rfl, ?_, fun k hk => ?_⟩
    · show w.heap.size ≤ ((w.heap.modify blk _) ++ os).size
      simp
    · show ((w.heap.modify blk _) ++ os)[k]? = _
      rw [Array.getElem?_append_left (by simp; omega), Array.getElem?_modify, if_neg (by omega)]
theorem own_holds {w : World} {base blk cap : Nat} {xs : List Int} (h : ROwn elZ w base (.slice (some ⟨blk, 0, none⟩) xs.length cap) xs) : Holds (Value.int .i64) w blk 0 xs.toArray ∧ blk < w.heap.size ∧ xs.length ≤ cap := by
  have hfz : ∀ j, w.frozen? ⟨blk, j, none⟩ = false := fun j => h.frozenAt j
  have hrd := h.rd
  obtain ⟨a, c, e, g1, g2, g3⟩ := hrd
  injection e with e1 e2 e3
  subst e1 e3
  have hlt : blk < w.heap.size := by
    obtain ⟨hl, hh⟩ := h
    rcases hh with ⟨h1, h2⟩ | ⟨g, cap', cur, h1, h2, h3, h4, h5, h6, h7⟩
    · cases h1
    · injection h1 with e1 e2 e3
      injection e1 with e1
      injection e1 with e1 e4
      subst e1
      rcases Nat.lt_or_ge blk w.heap.size with h' | h'
      · exact h'
      · rw [Array.getElem?_eq_none h'] at h3; cases h3
  refine ⟨fun j hj => ⟨?_, by rw [Nat.zero_add]; exact hfz j⟩, hlt, g1⟩
  have hj' : j < xs.length := by simpa using hj
  obtain ⟨b, off, e2, g4, g5⟩ := g3 (by omega)
  injection e2 with e2; injection e2 with e3 e4
  subst e3 e4
  have := eI_at g5 j hj'
  rw [this, getElem!_pos _ j hj]
  simp
/-- a slice of one's own: without a block it is empty -/
theorem own_cases {w : World} {base : Nat} {v : Value} {xs : List Int} (h : ROwn elZ w base v xs) : (xs = [] ∧ ∃ a c, v = .slice a 0 c) ∨ ∃ blk cap, v = .slice (some ⟨blk, 0, none⟩) xs.length cap := by
  obtain ⟨_, ⟨h1, h2⟩ | ⟨g, cap, cur, h1, _⟩⟩ := h
  · exact .inl ⟨List.length_eq_zero_iff.1 h2, none, 0, h1⟩
  · exact .inr ⟨g, cap, h1⟩
theorem sort_own (base : Nat) (v : Value) (xs : List Int) (w : World) (h : ROwn elZ w base v xs) (hn : xs.length ≤ 1000) :
    Calls Try.prog 61 #[v] w fun e w' => e = .returned (.tuple #[]) ∧ ROwn elZ w' base v (srt xs) ∧ Below base w w' := by
  rcases own_cases h with ⟨rfl, a, c, rfl⟩ | ⟨blk, cap, rfl⟩
  · have hcon := Any.slices_Sort_int_none Lay.sortI a c w
    change Calls Try.prog 61 _ _ _ at hcon
    refine hcon.mono ?_
    rintro e w' ⟨rfl, rfl⟩
    exact ⟨rfl, by simpa [srt] using h, Below.refl _ _⟩
  · obtain ⟨g1, g2, g3⟩ := own_holds h
    have hcon := Any.slices_Sort_int Lay.sortI blk 0 cap xs w g1 g2 (by omega)
    change Calls Try.prog 61 _ _ _ at hcon
    refine hcon.mono ?_
    rintro e w' ⟨rfl, n, os, rfl⟩
    have := own_put h (srt xs) (srt_len xs) (m := xs.length) (by rw [srt_len]; exact Nat.le_refl _) n os
    rw [List.take_of_length_le (by rw [srt_len]; exact Nat.le_refl _)] at this
    exact ⟨rfl, this.1, this.2⟩
theorem comp_own (base : Nat) (v : Value) (xs : List Int) (w : World) (h : ROwn elZ w base v xs) (hn : xs.length ≤ 1000) :
    Calls Try.prog 62 #[v] w fun e w' => ∃ v', e = .returned v' ∧ ROwn elZ w' base v' (cmpc xs) ∧ Below base w w' := by
  rcases own_cases h with ⟨rfl, a, c, rfl⟩ | ⟨blk, cap, rfl⟩
  · have hcon := Any.slices_Compact_int_empty Lay.compI a c w
    change Calls Try.prog 62 _ _ _ at hcon
    refine hcon.mono ?_
    rintro e w' ⟨rfl, rfl⟩
    exact ⟨_, rfl, h, Below.refl _ _⟩
  · obtain ⟨g1, g2, g3⟩ := own_holds h
    have hcon := Any.slices_Compact_int Lay.compI blk 0 cap xs w g1 (by omega) g3
    change Calls Try.prog 62 _ _ _ at hcon
    refine hcon.mono ?_
    rintro e w' ⟨rfl, q, rfl⟩
    have hl := cmpc_len xs
    have := own_put h (cmpc xs ++ List.replicate (xs.length - (cmpc xs).length) 0) (by simp; omega) (m := (cmpc xs).length) (by simp) q #[]
    rw [List.take_left'  rfl] at this
    rw [Go.Sort.grow_empty] at this
    exact ⟨_, rfl, this.1, this.2⟩
theorem srch_rd (v : Value) (xs : List Int) (x : Int) (w : World) (h : RdE elZ w v xs) (hn : xs.length ≤ 1000) (hs : xs.Pairwise (· ≤ ·)) :
    Calls Try.prog 69 #[v, .int .i64 x] w fun e w' => ∃ i, e = .returned (.tuple #[.int .i64 i, .bool (xs.contains x)]) ∧ Below w.heap.size w w' := by
  obtain ⟨a, cap, rfl, h1, h2, h3⟩ := h
  by_cases h0 : xs.length = 0
  · have e := List.length_eq_zero_iff.1 h0
    subst e
    have hcon := Any.slices_BinarySearch_int_empty Lay.srchI a cap x w
    change Calls Try.prog 69 _ _ _ at hcon
    refine hcon.mono ?_
    rintro e w' ⟨rfl, rfl⟩
    exact ⟨0, rfl, Below.refl _ _⟩
  · obtain ⟨b, off, rfl, hb, hc⟩ := h3 (by omega)
    have hcon := Any.slices_BinarySearch_int Lay.srchI b off xs.length cap xs x w (Nat.le_refl _) (by omega) (fun j hj => by
      rw [eI_at hc j hj, List.getD_eq_getElem?_getD, List.getElem?_eq_getElem hj]; rfl) (by rw [List.take_of_length_le (Nat.le_refl _)]; exact hs)
    change Calls Try.prog 69 _ _ _ at hcon
    rw [List.take_of_length_le (Nat.le_refl _)] at hcon
    refine hcon.mono ?_
    rintro e w' ⟨rfl, q, rfl⟩
    exact ⟨_, rfl, bn (br _) _⟩
end Wk
end Go.Proofs.Ytjicpflgkhdppaa
