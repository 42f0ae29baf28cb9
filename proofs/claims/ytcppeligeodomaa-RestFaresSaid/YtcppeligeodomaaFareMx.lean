/- Fares: a table of rows of one's own; what else lies as it lay. -/
import Derived.Test.YtcppeligeodomaaFareFair
import Derived.Laws.OwnMore
set_option linter.unusedVariables false
namespace Go.Proofs.Ytcppeligeodomaa
open Go.RowKit
/-- all that lay lies as it lay, but for some blocks -/
structure Kept (bs : List Nat) (X Y : World) : Prop where
  os : Y.os = X.os
  tape : Y.tape = X.tape
  output : Y.output = X.output
  size : X.heap.size ≤ Y.heap.size
  block : ∀ k, k < X.heap.size → k ∉ bs → Y.heap[k]? = X.heap[k]?
section
variable {bs cs : List Nat} {X Y Z : World}
theorem Kept.refl (bs : List Nat) (X : World) : Kept bs X X := ⟨rfl, rfl, rfl, Nat.le_refl _, fun _ _ _ => rfl⟩
theorem Kept.trans (h : Kept bs X Y) (k : Kept cs Y Z) (hc : ∀ b ∈ cs, b ∈ bs ∨ X.heap.size ≤ b) : Kept bs X Z :=
  ⟨k.os.trans h.os, k.tape.trans h.tape, k.output.trans h.output, Nat.le_trans h.size k.size, fun i hi hb => (k.block i (Nat.lt_of_lt_of_le hi h.size) (fun hm => (hc i hm).elim hb (fun h2 => by omega))).trans (h.block i hi hb)⟩
theorem Kept.mono (h : Kept bs X Y) (hc : ∀ b ∈ bs, b ∈ cs) : Kept cs X Y := ⟨h.os, h.tape, h.output, h.size, fun k hk hb => h.block k hk (fun hm => hb (hc k hm))⟩
theorem Kept.alloc (h : Kept bs X Y) (o : Obj) : Kept bs X (Y.alloc o) :=
  ⟨h.os, h.tape, h.output, by rw [World.size_alloc]; exact Nat.le_succ_of_le h.size, fun k hk hb => (Below.heap_alloc Y o k (Nat.lt_of_lt_of_le hk h.size)).trans (h.block k hk hb)⟩
theorem Kept.set (h : Kept bs X Y) (b j : Nat) (v : Value) (hb : b ∈ bs ∨ X.heap.size ≤ b) : Kept bs X (Y.setCell ⟨b, j, none⟩ v) :=
  ⟨h.os, h.tape, h.output, by rw [World.size_setCell]; exact h.size, fun k hk hk2 => (Below.heap_setCell _ _ _ _ (fun e => by subst e; exact hb.elim hk2 (fun h2 => by omega))).trans (h.block k hk hk2)⟩
theorem Kept.drewN (h : Kept bs X Y) (n : Nat) : Kept bs X (Y.drewN n) := ⟨h.os, h.tape, h.output, h.size, h.block⟩
theorem Kept.of_below (h : Below X.heap.size X Y) : Kept [] X Y := ⟨h.os, h.tape, h.output, h.size, fun k hk _ => h.block k hk⟩
theorem Kept.below (h : Kept bs X Y) {z : Nat} (hz : z ≤ X.heap.size) (hb : ∀ b ∈ bs, z ≤ b) : Below z X Y :=
  ⟨h.os, h.tape, h.output, h.size, fun k hk => h.block k (by omega) (fun hm => by have := hb k hm; omega)⟩
theorem Kept.own {β : Type} (bs : List Nat) (X : World) (B : Nat) (hB : X.heap.size ≤ B) : OwnFrom B (fun (_ : β) W => Kept bs X W) := fun _ A C row hs hg hr =>
  ⟨hg.os.trans hs.os, hg.tape.trans hs.tape, hg.output.trans hs.output, Nat.le_trans hs.size hg.size, fun k hk hb => (hg.block k (Nat.lt_of_lt_of_le hk hs.size) (fun e => by have := (hr k e.symm).1; omega)).trans (hs.block k hk hb)⟩
theorem Kept.keeps (h : Kept bs X Y) (hb : ∀ b ∈ bs, ∃ c t f, X.heap[b]? = some (.cells c t f)) (B : Nat) : KeepsFrom B X Y :=
  ⟨h.size, fun k o _ hk ho => (h.block k (Array.getElem?_eq_some_iff.1 hk).1 (fun hm => by
    obtain ⟨c, t, f, e⟩ := hb k hm
    rw [hk] at e; cases e; cases ho)).trans hk⟩
theorem Kept.box {b : Nat} {t : TypeId} {v : Value} (h : Kept bs X Y) (hb : Boxed X b t v) (hn : b ∉ bs) : Boxed Y b t v := (h.block b hb.lt hn).trans hb
theorem Kept.boxs {b : Nat} {t : TypeId} {v : List Value} (h : Kept bs X Y) (hb : Box X b t v) (hn : b ∉ bs) : Box Y b t v := (h.block b hb.lt hn).trans hb
end
theorem box_own {W W' : World} {row : Option Nat} {b : Nat} {t : TypeId} {cs : List Value} (h : Box W b t cs) (hg : W.grownBy W' row) (hr : ∀ r, row = some r → ∃ o : Obj, W.heap[r]? = some o ∧ o.isCells = false) : Box W' b t cs :=
  (grownBy_keeps_cells hg hr h rfl).trans h
namespace Fa
abbrev rowV (p : Nat × List Int) : Value := .slice (some ⟨p.1, 0, none⟩) p.2.length p.2.length
/-- rows of one's own; of so many more nothing is made yet -/
structure Mx (W : World) (base go : Nat) (ps : List (Nat × List Int)) (r : Nat) : Prop where
  outer : Box W go 37 (ps.map rowV ++ List.replicate r (.slice none 0 0))
  inner : ∀ (i : Nat) (h : i < ps.length), Box W ps[i].1 3 (ps[i].2.map (Value.int .i64))
  geo : base ≤ go
  ge : ∀ (i : Nat) (h : i < ps.length), base ≤ ps[i].1
  ne : ∀ (i : Nat) (h : i < ps.length), ps[i].1 ≠ go
  inj : ∀ (i j : Nat) (hi : i < ps.length) (hj : j < ps.length), ps[i].1 = ps[j].1 → i = j
abbrev blks (go : Nat) (ps : List (Nat × List Int)) : List Nat := go :: ps.map (·.1)
section
variable {W W' : World} {base go r : Nat} {ps : List (Nat × List Int)}
theorem Mx.kept (h : Mx W base go ps r) {bs : List Nat} (hk : Kept bs W W') (hn : ∀ b ∈ bs, b ∉ blks go ps) : Mx W' base go ps r :=
  ⟨hk.boxs h.outer (fun hm => hn _ hm (by simp)), fun i hi => hk.boxs (h.inner i hi) (fun hm => hn _ hm (by simp only [List.mem_cons, List.mem_map]; exact .inr ⟨_, List.getElem_mem hi, rfl⟩)), h.geo, h.ge, h.ne, h.inj⟩
theorem Mx.lt (h : Mx W base go ps r) : ∀ b ∈ blks go ps, b < W.heap.size := fun b hb => by
  rcases List.mem_cons.1 hb with rfl | hb
  · exact h.outer.lt
  · obtain ⟨p, hp, rfl⟩ := List.mem_map.1 hb
    obtain ⟨i, hi, rfl⟩ := List.getElem_of_mem hp
    exact (h.inner i hi).lt
theorem Mx.gel (h : Mx W base go ps r) : ∀ b ∈ blks go ps, base ≤ b := fun b hb => by
  rcases List.mem_cons.1 hb with rfl | hb
  · exact h.geo
  · obtain ⟨p, hp, rfl⟩ := List.mem_map.1 hb
    obtain ⟨i, hi, rfl⟩ := List.getElem_of_mem hp
    exact h.ge i hi
theorem Mx.own {β : Type} (base go r : Nat) (f : β → List (Nat × List Int)) : Own (fun s W => Mx W base go (f s) r) := fun s X Y row h hg hr =>
  ⟨box_own h.outer hg hr, fun i hi => box_own (h.inner i hi) hg hr, h.geo, h.ge, h.ne, h.inj⟩
theorem Mx.cells (h : Mx W base go ps r) : ∀ b ∈ blks go ps, ∃ c t f, W.heap[b]? = some (.cells c t f) := fun b hb => by
  rcases List.mem_cons.1 hb with rfl | hb
  · exact ⟨_, _, _, h.outer⟩
  · obtain ⟨p, hp, rfl⟩ := List.mem_map.1 hb
    obtain ⟨i, hi, rfl⟩ := List.getElem_of_mem hp
    exact ⟨_, _, _, h.inner i hi⟩
theorem Mx.set (h : Mx W base go ps r) (i k : Nat) (hi : i < ps.length) (v : Int) : Mx (W.setCell ⟨ps[i].1, k, none⟩ (.int .i64 v)) base go (ps.set i (ps[i].1, ps[i].2.set k v)) r := by
  have hfst : ∀ (j : Nat) (hj : j < (ps.set i (ps[i].1, ps[i].2.set k v)).length), (ps.set i (ps[i].1, ps[i].2.set k v))[j].1 = (ps[j]'(by simpa using hj)).1 := fun j hj => by
    rw [List.getElem_set]
    split
    · rename_i e; subst e; rfl
    · rfl
  have hmap : (ps.set i (ps[i].1, ps[i].2.set k v)).map rowV = ps.map rowV := by
    apply List.ext_getElem
    · simp
    · intro j h1 h2
      simp only [List.getElem_map, List.getElem_set]
      split
      · rename_i e; subst e; simp [rowV]
      · rfl
  refine ⟨by rw [hmap]; exact h.outer.other _ _ _ (Ne.symm (h.ne i hi)), fun j hj => ?_, h.geo, fun j hj => by rw [hfst]; exact h.ge _ _, fun j hj => by rw [hfst]; exact h.ne _ _, fun j1 j2 h1 h2 e => by rw [hfst, hfst] at e; exact h.inj _ _ _ _ e⟩
  have hj' : j < ps.length := by simpa using hj
  rw [hfst]
  by_cases e : i = j
  · subst e
    rw [List.getElem_set_self]
    have := (h.inner i hi).set k (.int .i64 v)
    rw [← List.map_set] at this
    exact this
  · rw [List.getElem_set_ne e]
    exact (h.inner j hj').other _ _ _ (fun e2 => e (h.inj _ _ _ _ e2).symm)
theorem Mx.push (h : Mx W base go ps (r + 1)) (hb : base ≤ W.heap.size) (l : Nat) :
    Mx ((W.alloc (.cells (List.replicate l (Value.int .i64 0)).toArray 3)).setCell ⟨go, ps.length, none⟩ (.slice (some ⟨W.heap.size, 0, none⟩) l l)) base go (ps ++ [(W.heap.size, List.replicate l 0)]) r := by
  have hlt := h.outer.lt
  have hne : W.heap.size ≠ go := by omega
  have hold : ∀ (j : Nat) (hj : j < (ps ++ [(W.heap.size, List.replicate l (0 : Int))]).length), (∃ hj' : j < ps.length, (ps ++ [(W.heap.size, List.replicate l (0 : Int))])[j] = ps[j]) ∨ (j = ps.length ∧ (ps ++ [(W.heap.size, List.replicate l (0 : Int))])[j] = (W.heap.size, List.replicate l 0)) := fun j hj => by
    by_cases hc : j < ps.length
    · exact .inl ⟨hc, List.getElem_append_left hc⟩
    · have : j = ps.length := by simp at hj; omega
      subst this
      exact .inr ⟨rfl, by simp⟩
  refine ⟨?_, fun j hj => ?_, h.geo, fun j hj => ?_, fun j hj => ?_, fun j1 j2 h1 h2 e => ?_⟩
  · have h1 := (h.outer.alloc (.cells (List.replicate l (Value.int .i64 0)).toArray 3)).set ps.length (.slice (some ⟨W.heap.size, 0, none⟩) l l)
    have e : (ps.map rowV ++ List.replicate (r + 1) (Value.slice none 0 0)).set ps.length (.slice (some ⟨W.heap.size, 0, none⟩) l l) = (ps ++ [(W.heap.size, List.replicate l (0 : Int))]).map rowV ++ List.replicate r (.slice none 0 0) := by
      rw [List.set_append_right _ _ (by simp)]
      simp [List.replicate_succ, rowV]
    rw [e] at h1
    exact h1
  · rcases hold j hj with ⟨hj', e⟩ | ⟨_, e⟩
    · rw [e]
      exact ((h.inner j hj').alloc _).other _ _ _ (h.ne j hj')
    · rw [e]
      have := (Box.new W 3 (List.replicate l (Value.int .i64 0))).other go ps.length (.slice (some ⟨W.heap.size, 0, none⟩) l l) hne
      simpa [List.map_replicate] using this
  · rcases hold j hj with ⟨hj', e⟩ | ⟨_, e⟩
    · rw [e]; exact h.ge j hj'
    · rw [e]; exact hb
  · rcases hold j hj with ⟨hj', e⟩ | ⟨_, e⟩
    · rw [e]; exact h.ne j hj'
    · rw [e]; exact hne
  · rcases hold j1 h1 with ⟨g1, e1⟩ | ⟨g1, e1⟩ <;> rcases hold j2 h2 with ⟨g2, e2⟩ | ⟨g2, e2⟩ <;> rw [e1, e2] at e
    · exact h.inj _ _ _ _ e
    · have := (h.inner j1 g1).lt; simp at e; omega
    · have := (h.inner j2 g2).lt; simp at e; omega
    · omega
def rwOf (p : Nat × List Int) : Rw := ⟨some ⟨p.1, 0, none⟩, p.2.length, p.2⟩
theorem mat_rwOf (ps : List (Nat × List Int)) : mat (ps.map rwOf) = ps.map (·.2) := by simp [mat, rwOf]
theorem Mx.rdf (h : Mx W base go ps 0) (hl : ps.length ≤ 1000000) (hr : ∀ (i : Nat) (h : i < ps.length), ps[i].2.length ≤ 1000000) : RdF W (.slice (some ⟨go, 0, none⟩) ps.length ps.length) (ps.map rwOf) := by
  refine ⟨⟨some ⟨go, 0, none⟩, ps.length, by simp, by simp, by unfold maxLen; omega, fun _ => ⟨go, 0, rfl, h.outer.lt, fun i hi j u hu => ?_⟩⟩, fun q hq => ?_⟩
  · have hi' : i < ps.length := by simpa using hi
    rw [h.outer.cell]
    match j with
    | 0 =>
      simp only [eR, List.getElem_map, rwOf, Rw.v, List.getElem?_cons_zero, Option.some.injEq] at hu
      subst hu
      simp [hi', rowV]
    | j + 1 => simp [eR] at hu
  · obtain ⟨p, hp, rfl⟩ := List.mem_map.1 hq
    obtain ⟨i, hi, rfl⟩ := List.getElem_of_mem hp
    have hb := h.inner i hi
    have hlen := hr i hi
    refine ⟨some ⟨ps[i].1, 0, none⟩, ps[i].2.length, rfl, Nat.le_refl _, by unfold maxLen; show ps[i].2.length ≤ _; omega, fun _ => ⟨ps[i].1, 0, rfl, hb.lt, fun k hk j u hu => ?_⟩⟩
    have hk' : k < ps[i].2.length := hk
    rw [hb.cell]
    match j with
    | 0 =>
      simp only [eI, rwOf, List.getElem?_cons_zero, Option.some.injEq] at hu
      subst hu
      simp [hk']
    | j + 1 => simp [eI] at hu
theorem snd_set (a k : Nat) (ha : a < ps.length) (v : Int) : (ps.set a (ps[a].1, ps[a].2.set k v)).map (·.2) = (ps.map (·.2)).set a (((ps.map (·.2)).getD a []).set k v) := by
  rw [List.map_set]
  simp [List.getD_eq_getElem?_getD, ha]
end
theorem made_one (z : Value) (hz : z.cells = #[z]) (n : Nat) : madeCells z.cells (n * 1) = (List.replicate n z).toArray := by
  unfold madeCells
  rw [hz, Nat.mul_one]
  apply Array.ext
  · simp
  · intro i h1 h2
    simp [Nat.mod_one]
theorem make_rows (w : World) (n : Nat) (hn : n ≤ 100) : (Instr.makeSlice 23 (.int .i64 n) (.int .i64 n)).run Try.prog w = .ok (.slice (some ⟨w.heap.size, 0, none⟩) n n) (w.alloc (.cells (List.replicate n (.slice none 0 0)).toArray 37)) := by
  obtain ⟨i0, hi, hz0, hz1, hz2⟩ := info_parts elR.info
  have := run_make (P := Try.prog) w 23 37 i0 _ Try.underlying23 hi hz0 .i64 .i64 n n (by omega) (Int.le_refl _) (by rw [hz2]; show (24 : Int) * n ≤ _; omega) (by omega)
  rw [this, Int.toNat_natCast, hz1]
  rw [made_one _ rfl]
theorem make_ints (w : World) (n : Nat) (hn : n ≤ 100) : (Instr.makeSlice 37 (.int .i64 n) (.int .i64 n)).run Try.prog w = .ok (.slice (some ⟨w.heap.size, 0, none⟩) n n) (w.alloc (.cells (List.replicate n (.int .i64 0)).toArray 3)) := by
  obtain ⟨i0, hi, hz0, hz1, hz2⟩ := info_parts elI.info
  have := run_make (P := Try.prog) w 37 3 i0 _ Try.underlying37 hi hz0 .i64 .i64 n n (by omega) (Int.le_refl _) (by rw [hz2]; show (8 : Int) * n ≤ _; omega) (by omega)
  rw [this, Int.toNat_natCast, hz1]
  rw [made_one _ rfl]
theorem ok_of {n : Nat} {O : List (List Int)} (hS : Shape n O) (hL : Low n O) (h1 : 1 ≤ n) (h6 : n ≤ 6) : Ok O := by
  refine ⟨by rw [hS.len]; exact h1, by rw [hS.len]; exact h6, fun a ha => ?_, fun r hr p hp => ?_⟩
  · have := hS.row a (by rw [← hS.len]; exact ha)
    rw [hS.len]
    rw [List.getD_eq_getElem?_getD, List.getElem?_eq_getElem ha] at this
    exact this
  · obtain ⟨a, ha, rfl⟩ := List.getElem_of_mem hr
    obtain ⟨k, hk, rfl⟩ := List.getElem_of_mem hp
    have ha' : a < n := by rw [← hS.len]; exact ha
    have hrow := hS.row a ha'
    rw [List.getD_eq_getElem?_getD, List.getElem?_eq_getElem ha] at hrow
    have hk' : k < n - a := by rw [← hrow]; exact hk
    have := hL a (a + k) (by omega) (by omega)
    have e : price O a (a + k) = O[a][k] := by
      unfold price
      rw [show a + k - a = k by omega]
      simp [List.getD_eq_getElem?_getD, ha, hk]
    rw [e] at this
    exact this
end Fa
end Go.Proofs.Ytcppeligeodomaa
