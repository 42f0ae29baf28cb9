/- Fares: the document's word on what is fair: five loops. -/
import Derived.Test.YtcppeligeodomaaFareDear
import Derived.Test.YtcppeligeodomaaFarePlain2
set_option linter.unusedVariables false
namespace Go.Proofs.Ytcppeligeodomaa
open Go.RowKit
namespace Fa
structure Good (m : List (List Int)) (a b : Nat) : Prop where
  wide : ∀ (x y : Nat), x ≤ a → b ≤ y → y < m.length → price m a b ≤ price m x y
  part : ∀ (c : Nat), a ≤ c → c < b → price m a b ≤ price m a c + price m (c + 1) b
theorem fair_good (m : List (List Int)) : Fair m ↔ ∀ (a b : Nat), a ≤ b → b < m.length → Good m a b :=
  ⟨fun h a b hab hb => ⟨fun x y h1 h2 h3 => h.wide a b x y h1 hab h2 h3, fun c h1 h2 => h.part a c b h1 h2 hb⟩,
   fun h => ⟨fun a b x y h1 h2 h3 h4 => (h a b h2 (by omega)).wide x y h1 h3 h4, fun a c b h1 h2 h3 => (h a b (by omega) h3).part c h1 h2⟩⟩
/-- the cells of a price, of a slice that is known -/
theorem cells_of {rs : List Rw} {x y g off cap : Nat} {w w' : World} (h : RdF w (.slice (some ⟨g, off, none⟩) rs.length cap) rs) (hb : Below w.heap.size w w') (hok : Ok (mat rs)) (hxy : x ≤ y) (hy : y < rs.length) :
    ∃ (g' off' ll rc : Nat), w'.cell? ⟨g, off + x, none⟩ = some (.slice (some ⟨g', off', none⟩) ll rc) ∧ w'.cell? ⟨g', off' + (y - x), none⟩ = some (.int .i64 (price (mat rs) x y)) ∧ (((y - x : Nat) : Int) < (ll : Int)) ∧ ll ≤ 6 := by
  obtain ⟨g1, off1, cap1, g', off', ll, rc, e, d0, d1, h1, h2⟩ := price_cells (h.next hb) hok hxy hy
  injection e with e1 e2 e3
  injection e1 with e1
  injection e1 with e4 e5
  subst e4 e5
  exact ⟨g', off', ll, rc, d0, d1, by omega, h2⟩
set_option maxRecDepth 100000 in
set_option maxHeartbeats 8000000 in
theorem fairR_any (r : Bool) (v : Value) (rs : List Rw) (w : World) (h : RdF w v rs) (hok : Ok (mat rs)) (hr : r = true ↔ Fair (mat rs)) : Calls Try.prog 20 #[v] w (BoolQ r w) := by
  have hml : (mat rs).length = rs.length := List.length_map _
  rw [fair_good, hml] at hr
  have hsix := hok.six
  rw [hml] at hsix
  have hle := h.rd.len_le
  have hpos := hok.pos
  rw [hml] at hpos
  have HRR := Lib.hid hr
  have hrd := h
  obtain ⟨a0, cap, rfl, h1, h2, h3⟩ := h.rd
  obtain ⟨g, off, rfl, hbl, -⟩ := h3 (by omega)
  have CE := Lib.hid (fun (x y : Nat) (w' : World) (hb : Below w.heap.size w w') (hxy : x ≤ y) (hy : y < rs.length) => cells_of hrd hb hok hxy hy)
  have HPO := Lib.hid (fun (x y : Nat) (hxy : x ≤ y) (hy : y < rs.length) => price_ok hok hxy (by rw [hml]; exact hy))
  have HWD : RowKit.Hid (∀ a b, a ≤ b → b < rs.length → Good (mat rs) a b → ∀ x y, x ≤ a → b ≤ y → y < rs.length → price (mat rs) a b ≤ price (mat rs) x y) := Lib.hid (fun a b _ _ hg x y h1 h2 h3 => hg.wide x y h1 h2 (by rw [hml]; exact h3))
  have HGD : RowKit.Hid (∀ a b, (∀ x y, x ≤ a → b ≤ y → y < rs.length → price (mat rs) a b ≤ price (mat rs) x y) → (∀ c, a ≤ c → c < b → price (mat rs) a b ≤ price (mat rs) a c + price (mat rs) (c + 1) b) → Good (mat rs) a b) := Lib.hid (fun a b h1 h2 => ⟨fun x y g1 g2 g3 => h1 x y g1 g2 (by rw [← hml]; exact g3), h2⟩)
  clear hr hok hml h hrd h3 hbl hsix hpos h1 h2
  go_enter Try.func20, Try.ntmps20
  go_wp2
  go_loopw [4] (fun i wr => ∃ a : Nat, a ≤ rs.length ∧ i = .int .i64 a ∧ (∀ a' b, a' < a → a' ≤ b → b < rs.length → Good (mat rs) a' b) ∧ Below w.heap.size w wr) (fun i _ => rs.length - (intOf i).toNat)
  case atStart => exact ⟨0, Nat.zero_le _, rfl, fun a' b h => by omega, br _⟩
  case round =>
    obtain ⟨a, ha, rfl, hga, hbw⟩ := hrel
    have HBW := Lib.hid hbw; have HGA := Lib.hid hga
    clear hga hbw
    by_cases hla : a < rs.length
    · have ia : (a : Int) < (rs.length : Int) := by omega
      have ia0 : (0 : Int) ≤ (a : Int) := by omega
      go_wp2
      go_loopw [5] (fun i wy => ∃ b : Nat, a ≤ b ∧ b ≤ rs.length ∧ i = .int .i64 b ∧ (∀ b', a ≤ b' → b' < b → Good (mat rs) a b') ∧ Below w.heap.size w wy) (fun i _ => rs.length - (intOf i).toNat)
      case atStart => exact ⟨a, Nat.le_refl _, by omega, rfl, fun b' h h' => by omega, HBW.out⟩
      case round =>
        obtain ⟨b, hab, hb, rfl, hgb, hby⟩ := hrel
        have HBY := Lib.hid hby; have HGB := Lib.hid hgb
        clear hgb hby
        by_cases hlb : b < rs.length
        · have ib : (b : Int) < (rs.length : Int) := by omega
          have hw1 : IntKind.i64.wrap ((b : Int) - (a : Int)) = ((b - a : Nat) : Int) := by rw [(Int.ofNat_sub hab).symm]; exact IntWalk.i64_in _ (by omega)
          go_wp2
          go_loopw [6] (fun i wz => ∃ x : Nat, x ≤ a + 1 ∧ i = .int .i64 x ∧ (∀ x' y, x' < x → b ≤ y → y < rs.length → price (mat rs) a b ≤ price (mat rs) x' y) ∧ Below w.heap.size w wz) (fun i _ => a + 1 - (intOf i).toNat)
          case atStart => exact ⟨0, Nat.zero_le _, rfl, fun x' y h => by omega, HBY.out⟩
          case round =>
            obtain ⟨x, hx, rfl, hgx, hbz⟩ := hrel
            have HBZ := Lib.hid hbz; have HGX := Lib.hid hgx
            clear hgx hbz
            by_cases hxa : x ≤ a
            · have ix : (x : Int) ≤ (a : Int) := by omega
              have ix0 : (0 : Int) ≤ (x : Int) := by omega
              have ix1 : (x : Int) < (rs.length : Int) := by omega
              go_wp2
              go_loopw [7] (fun i wu => ∃ y : Nat, b ≤ y ∧ y ≤ rs.length ∧ i = .int .i64 y ∧ (∀ y', b ≤ y' → y' < y → price (mat rs) a b ≤ price (mat rs) x y') ∧ Below w.heap.size w wu) (fun i _ => rs.length - (intOf i).toNat)
              case atStart => exact ⟨b, Nat.le_refl _, by omega, rfl, fun y' h h' => by omega, HBZ.out⟩
              case round =>
                obtain ⟨y, hby', hy, rfl, hgy, hbu⟩ := hrel
                have HBU := Lib.hid hbu; have HGY := Lib.hid hgy
                by_cases hly : y < rs.length
                · have iy : (y : Int) < (rs.length : Int) := by omega
                  obtain ⟨g1, o1, l1, r1, d0, d1, d2, d3⟩ := CE.out a b _ hbu hab hlb
                  obtain ⟨g2, o2, l2, r2, e0, e1, e2, e3⟩ := CE.out x y _ hbu (by omega) hly
                  have hw2 : IntKind.i64.wrap ((y : Int) - (x : Int)) = ((y - x : Nat) : Int) := by rw [(Int.ofNat_sub (by omega : x ≤ y)).symm]; exact IntWalk.i64_in _ (by omega)
                  have z1 : (0 : Int) ≤ ((b - a : Nat) : Int) := by omega
                  have z2 : (0 : Int) ≤ ((y - x : Nat) : Int) := by omega
                  have HNO : RowKit.Hid (¬ price (mat rs) a b ≤ price (mat rs) x y → r = false) := Lib.hid (fun hn => by
                    rcases hrr : r with _ | _
                    · rfl
                    · exact absurd (HWD.out a b hab hlb (HRR.out.1 hrr a b hab hlb) x y hxa hby' hly) hn)
                  have HST : RowKit.Hid (price (mat rs) a b ≤ price (mat rs) x y → ∀ y', b ≤ y' → y' < y + 1 → price (mat rs) a b ≤ price (mat rs) x y') := Lib.hid (fun hd y' h1 h2 => by
                    by_cases e : y' = y
                    · subst e; exact hd
                    · exact HGY.out y' h1 (by omega))
                  clear hgy hbu
                  generalize hP : price (mat rs) a b = P at *
                  generalize hQ : price (mat rs) x y = Q at *
                  have hQ' := Lib.hid hQ; have hP' := Lib.hid hP
                  clear hQ hP
                  by_cases hd : P ≤ Q
                  · have hng : ¬ Q < P := by omega
                    have HS := Lib.hid (HST.out hd)
                    clear hd HST HNO
                    go_wp2_with fail
                    go_quiet (fail)
                    go_wp2
                    go_roundw
                    case rel => exact ⟨y + 1, by omega, by omega, by go_num, HS.out, by first | exact bn HBU.out _ | exact HBU.out⟩
                    case measure => simp [intOf]; omega
                  · have hng : Q < P := by omega
                    have HR := Lib.hid (HNO.out (by omega))
                    clear hd HST HNO
                    go_wp2_with fail
                    go_quiet (fail)
                    go_wp2
                    go_ret
                    exact ⟨by rw [HR.out]; rfl, by first | exact bn HBU.out _ | exact HBU.out⟩
                · have HS : RowKit.Hid (∀ x' y, x' < x + 1 → b ≤ y → y < rs.length → price (mat rs) a b ≤ price (mat rs) x' y) := Lib.hid (fun x' y' h1 h2 h3 => by
                    by_cases e : x' = x
                    · subst e; exact HGY.out y' h2 (by omega)
                    · exact HGX.out x' y' (by omega) h2 h3)
                  have iy : ¬ (y : Int) < (rs.length : Int) := by omega
                  clear hgy hbu
                  go_wp2
                  go_roundw
                  case rel => exact ⟨x + 1, by omega, by go_num, HS.out, HBU.out⟩
                  case measure => simp [intOf]; omega
            · have ix : ¬ (x : Int) ≤ (a : Int) := by omega
              have HW1 : RowKit.Hid (∀ x' y, x' ≤ a → b ≤ y → y < rs.length → price (mat rs) a b ≤ price (mat rs) x' y) := Lib.hid (fun x' y h1 h2 h3 => HGX.out x' y (by omega) h2 h3)
              go_wp2
              go_loopw [8] (fun i wu => ∃ c : Nat, a ≤ c ∧ c ≤ b ∧ i = .int .i64 c ∧ (∀ c', a ≤ c' → c' < c → price (mat rs) a b ≤ price (mat rs) a c' + price (mat rs) (c' + 1) b) ∧ Below w.heap.size w wu) (fun i _ => b - (intOf i).toNat)
              case atStart => exact ⟨a, Nat.le_refl _, hab, rfl, fun c' h h' => by omega, HBZ.out⟩
              case round =>
                obtain ⟨c, hac, hc, rfl, hgc, hbu⟩ := hrel
                have HBU := Lib.hid hbu; have HGC := Lib.hid hgc
                by_cases hlc : c < b
                · have ic : (c : Int) < (b : Int) := by omega
                  obtain ⟨g1, o1, l1, r1, d0, d1, d2, d3⟩ := CE.out a b _ hbu hab hlb
                  obtain ⟨g2, o2, l2, r2, e0, e1, e2, e3⟩ := CE.out a c _ hbu hac (by omega)
                  obtain ⟨g3, o3, l3, r3, f0, f1, f2, f3⟩ := CE.out (c + 1) b _ hbu (by omega) hlb
                  rw [d0] at e0
                  injection e0 with e0
                  injection e0 with y1 y2 y3
                  injection y1 with y1
                  injection y1 with y4 y5
                  subst y2 y3 y4 y5
                  have p1 := HPO.out a c hac (by omega)
                  have p2 := HPO.out (c + 1) b (by omega) hlb
                  have ic0 : (0 : Int) ≤ (c : Int) := by omega
                  have ic1 : (c : Int) + 1 < (rs.length : Int) := by omega
                  have ic2 : (0 : Int) ≤ (c : Int) + 1 := by omega
                  have hw2 : IntKind.i64.wrap ((c : Int) - (a : Int)) = ((c - a : Nat) : Int) := by rw [(Int.ofNat_sub hac).symm]; exact IntWalk.i64_in _ (by omega)
                  have hw3 : IntKind.i64.wrap ((c : Int) + 1) = ((c + 1 : Nat) : Int) := by rw [show (c : Int) + 1 = ((c + 1 : Nat) : Int) by omega]; exact IntWalk.i64_in _ (by omega)
                  have hw4 : IntKind.i64.wrap ((b : Int) - (c : Int)) = (b : Int) - (c : Int) := IntWalk.i64_in _ (by omega)
                  have hw5 : IntKind.i64.wrap ((b : Int) - (c : Int) - 1) = ((b - (c + 1) : Nat) : Int) := by rw [show (b : Int) - (c : Int) - 1 = ((b - (c + 1) : Nat) : Int) by omega]; exact IntWalk.i64_in _ (by omega)
                  have ic3 : ((c + 1 : Nat) : Int) < (rs.length : Int) := by omega
                  have z1 : (0 : Int) ≤ ((b - a : Nat) : Int) := by omega
                  have z2 : (0 : Int) ≤ ((c - a : Nat) : Int) := by omega
                  have z3 : (0 : Int) ≤ ((b - (c + 1) : Nat) : Int) := by omega
                  have HNO : RowKit.Hid (¬ price (mat rs) a b ≤ price (mat rs) a c + price (mat rs) (c + 1) b → r = false) := Lib.hid (fun hn => by
                    rcases hrr : r with _ | _
                    · rfl
                    · exact absurd ((HRR.out.1 hrr a b hab hlb).part c hac hlc) hn)
                  have HST : RowKit.Hid (price (mat rs) a b ≤ price (mat rs) a c + price (mat rs) (c + 1) b → ∀ c', a ≤ c' → c' < c + 1 → price (mat rs) a b ≤ price (mat rs) a c' + price (mat rs) (c' + 1) b) := Lib.hid (fun hd c' h1 h2 => by
                    by_cases e : c' = c
                    · subst e; exact hd
                    · exact HGC.out c' h1 (by omega))
                  have hw6 : IntKind.i64.wrap (price (mat rs) a c + price (mat rs) (c + 1) b) = price (mat rs) a c + price (mat rs) (c + 1) b := IntWalk.i64_in _ (by omega)
                  obtain ⟨R0, hR0⟩ : ∃ R0, price (mat rs) (c + 1) b = R0 := ⟨_, rfl⟩
                  have HR0 := Lib.hid hR0
                  rw [hR0] at f1 hw6 HNO HST
                  obtain ⟨Z, hZ⟩ : ∃ Z, b - (c + 1) = Z := ⟨_, rfl⟩
                  rw [hZ] at f1 f2 hw5 z3
                  have hw3 : IntKind.i64.wrap ((c : Int) + 1) = (c : Int) + 1 := IntWalk.i64_in _ (by omega)
                  rw [hR0] at p2
                  clear hgc hbu p1 p2 hR0 hZ ic3
                  by_cases hd : price (mat rs) a b ≤ price (mat rs) a c + R0
                  · have HS := Lib.hid (HST.out hd)
                    have hng : ¬ price (mat rs) a c + R0 < price (mat rs) a b := by omega
                    clear hd HST HNO
                    generalize hP : price (mat rs) a b = P at d1 hng; have hP' := Lib.hid hP; clear hP; generalize price (mat rs) a c = Q at e1 hw6 hng
                    go_wp2_with fail
                    go_quiet (fail)
                    go_wp2
                    go_roundw
                    case rel => exact ⟨c + 1, by omega, by omega, by go_num, by rw [← hP'.out]; exact HS.out, by first | exact bn HBU.out _ | exact HBU.out⟩
                    case measure => simp [intOf]; omega
                  · have HR := Lib.hid (HNO.out hd)
                    have hng : price (mat rs) a c + R0 < price (mat rs) a b := by omega
                    clear hd HST HNO
                    generalize price (mat rs) a b = P at d1 hng; generalize price (mat rs) a c = Q at e1 hw6 hng
                    go_wp2_with fail
                    go_quiet (fail)
                    go_wp2
                    go_ret
                    exact ⟨by rw [HR.out]; rfl, by first | exact bn HBU.out _ | exact HBU.out⟩
                · have e : c = b := by omega
                  subst e
                  have ic : ¬ (c : Int) < (c : Int) := by omega
                  clear hw1 hc hlc ix hx hxa ha
                  have hwn : IntKind.i64.wrap ((c : Int) + 1) = (c : Int) + 1 := IntWalk.i64_in _ (by omega)
                  have hgood := HGD.out a c HW1.out (fun c' h1 h2 => HGC.out c' h1 (by omega))
                  have HS : RowKit.Hid (∀ b', a ≤ b' → b' < c + 1 → Good (mat rs) a b') := Lib.hid (fun b' h1 h2 => by
                    by_cases e : b' = c
                    · subst e; exact hgood
                    · exact HGB.out b' h1 (by omega))
                  clear hgc hbu hgood
                  go_wp2
                  go_roundw
                  case rel => exact ⟨c + 1, by omega, by omega, by go_num, HS.out, HBU.out⟩
                  case measure => simp [intOf]; omega
        · have e : b = rs.length := by omega
          subst e
          have ib : ¬ (rs.length : Int) < (rs.length : Int) := by omega
          clear hb hlb
          have hwn : IntKind.i64.wrap ((a : Int) + 1) = (a : Int) + 1 := IntWalk.i64_in _ (by omega)
          have HS : RowKit.Hid (∀ a' b, a' < a + 1 → a' ≤ b → b < rs.length → Good (mat rs) a' b) := Lib.hid (fun a' b' h1 h2 h3 => by
            by_cases e : a' = a
            · subst e; exact HGB.out b' h2 (by omega)
            · exact HGA.out a' b' (by omega) h2 h3)
          go_wp2
          go_roundw
          case rel => exact ⟨a + 1, by omega, by go_num, HS.out, HBY.out⟩
          case measure => simp [intOf]; omega
    · have hyes : r = true := HRR.out.2 (fun a' b hab hb => HGA.out a' b (by omega) hab hb)
      have HA := Lib.hid hyes
      clear hyes
      go_wp2
      go_ret
      exact ⟨by rw [HA.out]; rfl, HBW.out⟩
end Fa
end Go.Proofs.Ytcppeligeodomaa
