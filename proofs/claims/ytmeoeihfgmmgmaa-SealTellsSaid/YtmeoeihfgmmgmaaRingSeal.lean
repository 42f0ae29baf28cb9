/- Rings: a text is sealed. -/
import Derived.Test.YtmeoeihfgmmgmaaRingMark
import Derived.Deep.RegionHeld3
set_option linter.unusedVariables false
namespace Go.Proofs.Ytmeoeihfgmmgmaa
open Go.RowKit
namespace Rg
open Tg
def emptyS : ByteArray := ⟨#[]⟩
def oneB (n : Int) : ByteArray := ⟨[UInt8.ofNat n.toNat].toArray⟩
def sealed (x : Ep) (s : ByteArray) : ByteArray := markB x.2.1 x.2.2 (oneB x.1 ++ s)
def sealF (xs : List Ep) (s : ByteArray) : ByteArray × Int := if chk xs ≠ 0 then (emptyS, chk xs) else match xs.getLast? with | none => (emptyS, 5) | some x => if 111 < s.size then (emptyS, 2) else (sealed x s, 0)
def SealQ (r : ByteArray × Int) (w : World) (e : Ending) (w' : World) : Prop := e = .returned (.tuple #[.string r.1, .int .i64 r.2]) ∧ Below w.heap.size w w'
theorem seal_cases (xs : List Ep) (s : ByteArray) : (chk xs ≠ 0 ∧ sealF xs s = (emptyS, chk xs)) ∨ (chk xs = 0 ∧ xs.length = 0 ∧ sealF xs s = (emptyS, 5)) ∨ (∃ n, ∃ h : xs.length = n + 1, chk xs = 0 ∧ 111 < s.size ∧ sealF xs s = (emptyS, 2)) ∨ (∃ n, ∃ h : xs.length = n + 1, chk xs = 0 ∧ s.size ≤ 111 ∧ sealF xs s = (sealed (xs[n]'(by omega)) s, 0)) := by
  unfold sealF
  by_cases hc : chk xs = 0
  · rw [if_neg (fun h => h hc)]
    rcases (show xs.length = 0 ∨ ∃ n, xs.length = n + 1 from by rcases h : xs.length with _ | n; exact .inl rfl; exact .inr ⟨n, rfl⟩) with hx | ⟨n, hx⟩
    · have h0 : xs = [] := List.eq_nil_of_length_eq_zero hx
      subst h0
      exact .inr (.inl ⟨hc, rfl, rfl⟩)
    · have hl : xs.getLast? = some (xs[n]'(by omega)) := by
        rw [List.getLast?_eq_getElem?, List.getElem?_eq_getElem (by omega)]
        simp [hx]
      rw [hl]
      by_cases hs : 111 < s.size
      · exact .inr (.inr (.inl ⟨n, hx, hc, hs, by simp only [if_pos hs]⟩))
      · exact .inr (.inr (.inr ⟨n, hx, hc, by omega, by simp only [if_neg hs]⟩))
  · rw [if_pos hc]; exact .inl ⟨hc, rfl⟩
set_option maxHeartbeats 2000000 in
theorem seal_any (v : Value) (xs : List Ep) (s : ByteArray) (hss : s.size ≤ 9223372036854775807) (w : World) (h : Rd 3 eE w v xs) : Calls Try.prog 16 #[v, .string s] w (SealQ (sealF xs s) w) := by
  have H := Lib.hid h
  have HCK := Lib.hid (check_any v xs)
  obtain ⟨ad, cap, rfl, h1, h2, h3⟩ := h
  have H3 := Lib.hid h3; clear h3
  rcases seal_cases xs s with ⟨hc, hF⟩ | ⟨hc, hn, hF⟩ | ⟨n, hn, hc, hs, hF⟩ | ⟨n, hn, hc, hs, hF⟩
  · have HF := Lib.hid hF; have hb : (chk xs != 0) = true := by simp [hc]
    generalize chk xs = C at *
    clear hF
    go_enter Try.func16, Try.ntmps16
    go_wp2_with fail
    refine (HCK.out _ H.out).mono ?_
    rintro en w1 ⟨rfl, hb1⟩
    go_wp2
    go_ret2
    exact ⟨by rw [HF.out]; rfl, hb1⟩
  · have HF := Lib.hid hF
    have hb : ((xs.length : Int) == 0) = true := by simp [hn]
    rw [hc] at HCK
    clear hF hc hn
    go_enter Try.func16, Try.ntmps16
    go_wp2_with fail
    refine (HCK.out _ H.out).mono ?_
    rintro en w1 ⟨rfl, hb1⟩
    go_wp2
    go_ret2
    exact ⟨by rw [HF.out]; rfl, hb1⟩
  · have HF := Lib.hid hF
    have hb : ((xs.length : Int) == 0) = false := by rw [beq_eq_false_iff_ne]; omega
    have hs' : (111 : Int) < (s.size : Int) := by omega
    rw [hc] at HCK
    clear hF hc hn
    go_enter Try.func16, Try.ntmps16
    go_wp2_with fail
    refine (HCK.out _ H.out).mono ?_
    rintro en w1 ⟨rfl, hb1⟩
    go_wp2
    go_ret2
    exact ⟨by rw [HF.out]; rfl, hb1⟩
  · have hb : ((xs.length : Int) == 0) = false := by rw [beq_eq_false_iff_ne]; omega
    have hs' : (s.size : Int) ≤ 111 := by omega
    have hi : (xs.length : Int) - 1 = (n : Int) := by omega
    have hn0 : (0 : Int) ≤ (n : Int) := by omega
    have hn1 : (n : Int) < (xs.length : Int) := by omega
    have hno : 1 ≤ (xs[n]'(by omega)).1 ∧ (xs[n]'(by omega)).1 ≤ 255 := by
      unfold chk at hc
      by_cases g : 8 < xs.length
      · rw [if_pos g] at hc; simp at hc
      · rw [if_neg g] at hc
        obtain ⟨g1, _⟩ := chkR_spec xs 0 hc
        have := g1 _ (List.getElem_mem (l := xs) (n := n) (by omega)); omega
    have hl8 : xs.length ≤ 8 := by
      unfold chk at hc
      by_cases g : 8 < xs.length
      · rw [if_pos g] at hc; simp at hc
      · omega
    have hwn : IntKind.i64.wrap (n : Int) = (n : Int) := by rw [IntKind.wrap_i64]; omega
    have hw1 : IntKind.i64.wrap ((xs.length : Int) - 1) = (n : Int) := by rw [hi]; exact hwn
    rw [hc] at HCK
    obtain ⟨g, off, rfl, hbl, hcc⟩ := H3.out (by omega)
    have q := eE_at hcc n (by omega)
    unfold sealed at hF
    have HF := Lib.hid hF
    clear hF hc hcc
    generalize (xs[n]'(by omega)).1 = no at *
    generalize (xs[n]'(by omega)).2.1 = ka at *
    generalize (xs[n]'(by omega)).2.2 = kb at *
    obtain ⟨q0, q1, q2⟩ := q
    obtain ⟨no1, no2⟩ := hno
    have HN := Lib.hid hn; clear hn
    go_enter Try.func16, Try.ntmps16
    go_wp2_with fail
    refine (HCK.out _ H.out).mono ?_
    rintro en w1 ⟨rfl, hb1⟩
    have c0 := (hb1.cell (p := ⟨g, off + n * 3, none⟩) hbl).trans q0
    have c1 := (hb1.cell (p := ⟨g, off + n * 3 + 1, none⟩) hbl).trans q1
    have c2 := (hb1.cell (p := ⟨g, off + n * 3 + 2, none⟩) hbl).trans q2
    have HB1 := Lib.hid hb1
    have w8 : IntKind.u8.wrap no = no := by rw [IntKind.wrap_u8]; omega
    have hcv : (convert 51 9 (.slice (some ⟨w1.heap.size + 1, 0, none⟩) 1 1)).run Try.prog ((w1.alloc (.cells #[.int .i64 no, .int .u64 (wi ka), .int .u64 (wi kb)] 40)).alloc (.cells #[.int .u8 no] 5)) = .ok (.string (oneB no)) ((w1.alloc (.cells #[.int .i64 no, .int .u64 (wi ka), .int .u64 (wi kb)] 40)).alloc (.cells #[.int .u8 no] 5)) := by
      refine run_convert_bytes_back _ 51 9 5 ⟨w1.heap.size + 1, 0, none⟩ 1 [UInt8.ofNat no.toNat] Try.underlying51 Try.underlying5 Try.underlying9 (fun j hj => ?_)
      have hj1 : j = 0 := by simpa using hj
      subst hj1
      have ha : (⟨w1.heap.size + 1, 0, none⟩ : Addr).add 0 = ⟨w1.heap.size + 1, 0, none⟩ := by unfold Addr.add; split <;> simp_all
      have hs1 : w1.heap.size + 1 = (w1.alloc (.cells #[.int .i64 no, .int .u64 (wi ka), .int .u64 (wi kb)] 40)).heap.size := by simp
      rw [ha, hs1, World.cell?_alloc_mark]
      have : ((UInt8.ofNat no.toNat).toNat : Int) = no := by
        have : (UInt8.ofNat no.toNat).toNat = no.toNat % 256 := by simp
        rw [this]; omega
      simp only [List.getElem_cons_zero]
      rw [this]; rfl
    obtain ⟨T, hT⟩ : ∃ T : ByteArray, oneB no = T := ⟨_, rfl⟩
    have hTs : T.size ≤ 1 := by rw [← hT]; exact Nat.le_refl 1
    rw [hT] at hcv HF
    clear q0 q1 q2 hb1 hT
    have hsz : (T ++ s).size ≤ 1000 := by rw [ByteArray.size_append]; omega
    obtain ⟨TS, hTS⟩ : ∃ TS : ByteArray, T ++ s = TS := ⟨_, rfl⟩
    have hsz2 : TS.size ≤ 1000 := by rw [← hTS]; exact hsz
    rw [hTS] at HF
    clear hsz
    have HM := Lib.hid (marked_any ka kb TS hsz2)
    go_wp2_with fail
    refine (HM.out _).mono ?_
    rintro en w2 ⟨rfl, hb2⟩
    go_wp2
    go_ret2
    exact ⟨by rw [HF.out]; rfl, bt (((HB1.out).alloc HB1.out.size _).alloc (by have := HB1.out.size; simp; omega) _) hb2⟩
end Rg
end Go.Proofs.Ytmeoeihfgmmgmaa
