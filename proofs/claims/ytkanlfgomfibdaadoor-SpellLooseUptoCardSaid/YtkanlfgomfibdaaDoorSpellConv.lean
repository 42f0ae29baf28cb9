/- Spelling: a text is spelled. (gen_spell2.py) -/
import Derived.Test.YtkanlfgomfibdaaDoorSpellReg
import Derived.Test.YtkanlfgomfibdaaDoorBox
import Derived.Laws.IdiomStrings
import Derived.Laws.MakeOwn
set_option linter.unusedSimpArgs false
set_option linter.unusedVariables false
namespace Go.Proofs.YtkanlfgomfibdaaDoor
open Go.RowKit
namespace Sl
open Bt
/-- a text as numbers, and back -/
def nt (s : ByteArray) : List Nat := s.data.toList.map UInt8.toNat
def sB (l : List Nat) : ByteArray := ⟨(by8 l).toArray⟩
theorem nt_len (s : ByteArray) : (nt s).length = s.size := by unfold nt; rw [List.length_map]; rfl
theorem nt_lt (s : ByteArray) : ∀ b ∈ nt s, b < 256 := fun b hb => by
  obtain ⟨x, _, rfl⟩ := List.mem_map.1 hb
  exact x.toNat_lt
theorem nt_sB {l : List Nat} (h : ∀ b ∈ l, b < 256) : nt (sB l) = l := by
  unfold nt sB by8
  rw [List.map_map]
  exact (List.map_congr_left (fun b hb => u8_nat (h b hb))).trans (List.map_id _)
theorem ba_of {a b : ByteArray} (h : a.data.toList = b.data.toList) : a = b := by
  obtain ⟨⟨a⟩⟩ := a
  obtain ⟨⟨b⟩⟩ := b
  simp at h
  rw [h]
theorem sB_nt (s : ByteArray) : sB (nt s) = s := by
  apply ba_of
  unfold sB nt by8
  show List.map _ (List.map _ _) = _
  rw [List.map_map]
  refine (List.map_congr_left (fun b _ => ?_)).trans (List.map_id _)
  show b.toNat.toUInt8 = b
  simp
theorem sB_size (l : List Nat) : (sB l).size = l.length := by
  unfold sB by8; show (List.map _ l).toArray.size = _; simp
/-- a text's bytes, in a block of their own -/
theorem conv_sb (s : ByteArray) (w : World) (hs : s.size ≤ maxLen) : ∃ (cap : Nat) (W : World), (convert 9 31 (.string s)).run Tryd.prog w = .ok (.slice (some ⟨w.heap.size, 0, none⟩) s.size cap) W ∧ RdE elB W (.slice (some ⟨w.heap.size, 0, none⟩) s.data.toList.length cap) s.data.toList ∧ Below w.heap.size w W := by
  have h := run_bytes_of_string (P := Tryd.prog) w 9 31 5 s Tryd.underlying9 Tryd.underlying31 Tryd.underlying5
  have hl : s.data.toList.length = s.size := Array.length_toList
  refine ⟨_, _, h, ⟨_, _, rfl, by rw [hl]; exact grownCap_ge _ _ _ _, grownCap_le_maxLen _ _ _ _ hs, fun hn => ⟨w.heap.size, 0, rfl, by rw [asz]; exact Nat.lt_succ_self _, fun i hi j u hu => ?_⟩⟩, (bn (br w) 1).alloc (Nat.le_refl _) _⟩
  have hj : j = 0 := by
    cases j with
    | zero => rfl
    | succ j => simp [eB] at hu
  subst hj
  have hz : i < s.data.size := by rw [← Array.length_toList]; exact hi
  have hc : (w.drew.alloc (.cells (bytesRow s (grownCap w s.size 0 5)) 5 ((bytesRow s (grownCap w s.size 0 5)).size, (bytesRow s (grownCap w s.size 0 5)).size + 1))).cell? ⟨w.heap.size, 0 + (i * 1 + 0), none⟩ = (bytesRow s (grownCap w s.size 0 5))[i]? := by
    rw [show 0 + (i * 1 + 0) = i by omega]
    exact World.cell?_alloc_mark _ _ _ _ _
  rw [hc]
  unfold bytesRow
  rw [Array.getElem?_append_left (by simpa using hz)]
  simp only [Array.getElem?_map]
  rw [Array.getElem?_eq_getElem hz]
  simp [eB] at hu ⊢
  rw [← hu]
theorem idx_str (s : ByteArray) (x : Int) (i : Nat) (hx : x = (i : Int)) (hi : i < s.size) (w : World) : (Instr.index 9 (.string s) (.int .i64 x)).run Tryd.prog w = .ok (.int .u8 ((s[i]'hi).toNat : Int)) w := by
  subst hx
  rw [run_index_string w _ _ _ _ Tryd.underlying9, dif_pos ⟨by omega, by omega⟩]
  simp
theorem letters_at (n : Nat) (h : n < 32) (w : World) : (Instr.index 9 (.string lettersB) (.int .i64 n)).run Tryd.prog w = .ok (.int .u8 (letter n : Nat)) w := by
  rw [idx_str lettersB n n rfl (by show n < 32; exact h) w]
  have : ∀ n : Nat, ∀ h : n < 32, (lettersB[n]'(by show n < 32; exact h)).toNat = letter n := by decide +kernel
  rw [this n h]
theorem made_one8 (z : Value) (hz : z.cells = #[z]) (n : Nat) : madeCells z.cells (n * 1) = (List.replicate n z).toArray := by
  unfold madeCells
  rw [hz, Nat.mul_one]
  apply Array.ext
  · simp
  · intro i h1 h2
    simp [Nat.mod_one]
theorem u8_info : (Tryd.prog.info? 5).map (fun i => (i.zero, i.size, i.bytes)) = some (some (.int .u8 0), 1, 1) := by kernel_rfl
theorem make_u8 (n : Nat) (hn : n ≤ 1000000) (w : World) : (Instr.makeSlice 31 (.int .i64 n) (.int .i64 n)).run Tryd.prog w = .ok (.slice (some ⟨w.heap.size, 0, none⟩) n n) (w.alloc (.cells (List.replicate n (.int .u8 0)).toArray 5)) := by
  obtain ⟨i0, hi, hz0, hz1, hz2⟩ := info_parts u8_info
  have := run_make (P := Tryd.prog) w 31 5 i0 _ Tryd.underlying31 hi hz0 .i64 .i64 n n (by omega) (Int.le_refl _) (by rw [hz2]; show (1 : Int) * n ≤ _; omega) (by omega)
  rw [this, Int.toNat_natCast, hz1]
  rw [made_one8 _ rfl]
def lv (x : Nat) : Value := .int .u8 (letter x : Nat)
theorem conv_bs (l : List Nat) (hl : ∀ x ∈ l, x < 256) (g : Nat) (w : World) (t : TypeId) (h : Box w g t (l.map (fun x : Nat => Value.int .u8 x))) : (convert 31 9 (.slice (some ⟨g, 0, none⟩) l.length l.length)).run Tryd.prog w = .ok (.string (sB l)) w := by
  have hlen : (by8 l).length = l.length := by unfold by8; rw [List.length_map]
  have := run_convert_bytes_back (P := Tryd.prog) w 31 9 5 ⟨g, 0, none⟩ l.length (by8 l) Tryd.underlying31 Tryd.underlying5 Tryd.underlying9 (fun j hj => by
    have ha : (⟨g, 0, none⟩ : Addr).add j = ⟨g, j, none⟩ := by unfold Addr.add; split <;> simp_all
    rw [hlen] at hj
    rw [ha, h.cell j, List.getElem?_map, List.getElem?_eq_getElem hj]
    have : ((by8 l)[j]'(by rw [hlen]; exact hj)).toNat = l[j] := by
      unfold by8
      rw [List.getElem_map]
      exact u8_nat (hl _ (List.getElem_mem hj))
    rw [this]
    rfl)
  rw [hlen] at this
  exact this
end Sl
end Go.Proofs.YtkanlfgomfibdaaDoor
