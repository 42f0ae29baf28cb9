/- The digits' table as a plain function, and what it says: facts on lists and numbers, no program in sight. -/
import Derived.Test.YtcffcknnhjjdpaaBase
namespace Go.Proofs.Ytcffcknnhjjdpaa
namespace Dm

def tabL : List Nat := [0,3,1,7,5,9,8,6,4,2, 7,0,9,2,1,5,4,8,6,3, 4,2,0,6,8,7,1,3,5,9, 1,7,5,0,9,8,3,4,2,6, 6,1,2,3,0,4,5,9,7,8, 3,6,7,4,2,0,9,5,8,1, 5,8,6,9,7,2,0,1,3,4, 8,9,4,5,3,6,2,0,1,7, 9,4,3,8,6,1,7,2,0,5, 2,5,8,1,4,3,6,7,9,0]
def tabN (i : Nat) : Nat := tabL.getD i 0
def tab (r d : Int) : Int := (tabN (10 * r + d).toNat : Nat)

theorem tabN_le : ∀ i : Fin 100, tabN i ≤ 9 := by decide
theorem tab_bd (r d : Int) (h0 : 0 ≤ r) (h1 : r ≤ 9) (h2 : 0 ≤ d) (h3 : d ≤ 9) : 0 ≤ tab r d ∧ tab r d ≤ 9 := by
  have := tabN_le ⟨(10 * r + d).toNat, by omega⟩
  unfold tab; simp at this; omega

def fold (l : List UInt8) : Int := l.foldl (fun r c => tab r ((c.toNat : Int) - 48)) 0
def okD (l : List UInt8) : Prop := ∀ c ∈ l, 48 ≤ c.toNat ∧ c.toNat ≤ 57
instance (l : List UInt8) : Decidable (okD l) := by unfold okD; exact inferInstance
def led (l : List UInt8) : Int × Int := if okD l then (if l.length > 24 then (0, 2) else (fold l, 0)) else (0, 1)

theorem fold_bd (l : List UInt8) (h : okD l) : 0 ≤ fold l ∧ fold l ≤ 9 := by
  suffices ∀ (l : List UInt8) (r : Int), okD l → 0 ≤ r → r ≤ 9 → 0 ≤ l.foldl (fun r c => tab r ((c.toNat : Int) - 48)) r ∧ l.foldl (fun r c => tab r ((c.toNat : Int) - 48)) r ≤ 9 from this l 0 h (by omega) (by omega)
  intro l
  induction l with
  | nil => intro r _ a b; exact ⟨a, b⟩
  | cons c l ih =>
    intro r hl a b
    have hc := hl c (by simp)
    have := tab_bd r ((c.toNat : Int) - 48) a b (by omega) (by omega)
    exact ih _ (fun x hx => hl x (by simp [hx])) this.1 this.2
theorem fold_snoc (l : List UInt8) (c : UInt8) : fold (l ++ [c]) = tab (fold l) ((c.toNat : Int) - 48) := by simp [fold]
theorem okD_snoc (l : List UInt8) (c : UInt8) : okD (l ++ [c]) ↔ okD l ∧ 48 ≤ c.toNat ∧ c.toNat ≤ 57 := by
  unfold okD; simp only [List.mem_append, List.mem_singleton]
  exact ⟨fun h => ⟨fun x hx => h x (.inl hx), h c (.inr rfl)⟩, fun h x hx => hx.elim (h.1 x) (fun e => e ▸ h.2)⟩
theorem okD_take {l : List UInt8} (h : okD l) (k : Nat) : okD (l.take k) := fun c hc => h c (List.mem_of_mem_take hc)
theorem take_snoc (l : List UInt8) (k : Nat) (h : k < l.length) : l.take (k + 1) = l.take k ++ [l[k]] := by
  rw [List.take_succ_eq_append_getElem h]

def tabB : ByteArray := ⟨#[48,51,49,55,53,57,56,54,52,50, 55,48,57,50,49,53,52,56,54,51, 52,50,48,54,56,55,49,51,53,57, 49,55,53,48,57,56,51,52,50,54, 54,49,50,51,48,52,53,57,55,56, 51,54,55,52,50,48,57,53,56,49, 53,56,54,57,55,50,48,49,51,52, 56,57,52,53,51,54,50,48,49,55, 57,52,51,56,54,49,55,50,48,53, 50,53,56,49,52,51,54,55,57,48]⟩
theorem tabByte' : ∀ i : Fin 100, (((tabB[i.val]'(show i.val < 100 from i.isLt)).toNat : Int) - 48) % 256 = (tabN i.val : Int) := by decide
theorem tabByte (i : Nat) (h : i < tabB.size) : (((tabB[i]'h).toNat : Int) - 48) % 256 = (tabN i : Int) := tabByte' ⟨i, h⟩


theorem lat3 : ∀ r a b : Fin 10, ((tabN (10 * r.val + a.val) = tabN (10 * r.val + b.val)) ↔ a = b) ∧ ((tabN (10 * a.val + r.val) = tabN (10 * b.val + r.val)) ↔ a = b) ∧
    ((tabN (10 * tabN (10 * r.val + a.val) + b.val) = tabN (10 * tabN (10 * r.val + b.val) + a.val)) ↔ a = b) ∧ tabN (10 * a.val + a.val) = 0 := by decide +kernel
theorem tab_nat (r a : Nat) : tab (r : Int) (a : Int) = (tabN (10 * r + a) : Nat) := by
  unfold tab; congr 2
theorem lat (r a b : Int) (h0 : 0 ≤ r) (h1 : r ≤ 9) (h2 : 0 ≤ a) (h3 : a ≤ 9) (h4 : 0 ≤ b) (h5 : b ≤ 9) :
    ((tab r a = tab r b) ↔ a = b) ∧ ((tab a r = tab b r) ↔ a = b) ∧ ((tab (tab r a) b = tab (tab r b) a) ↔ a = b) ∧ tab a a = 0 := by
  obtain ⟨r, rfl⟩ := Int.eq_ofNat_of_zero_le h0
  obtain ⟨a, rfl⟩ := Int.eq_ofNat_of_zero_le h2
  obtain ⟨b, rfl⟩ := Int.eq_ofNat_of_zero_le h4
  have h := lat3 ⟨r, by omega⟩ ⟨a, by omega⟩ ⟨b, by omega⟩
  simp only [tab_nat, Int.natCast_inj] at *
  simpa using h
theorem tab_zero (r d : Int) (h0 : 0 ≤ r) (h1 : r ≤ 9) (h2 : 0 ≤ d) (h3 : d ≤ 9) : tab r d = 0 ↔ d = r := by
  have := lat r d r h0 h1 h2 h3 h0 h1
  rw [← this.1]
  rw [(lat r r r h0 h1 h0 h1 h0 h1).2.2.2]

def foldF (r : Int) (l : List UInt8) : Int := l.foldl (fun r c => tab r ((c.toNat : Int) - 48)) r
theorem fold_eq (l : List UInt8) : fold l = foldF 0 l := rfl
theorem foldF_bd (l : List UInt8) (r : Int) (h : okD l) (h0 : 0 ≤ r) (h1 : r ≤ 9) : 0 ≤ foldF r l ∧ foldF r l ≤ 9 := by
  induction l generalizing r with
  | nil => exact ⟨h0, h1⟩
  | cons c l ih =>
    have hc := h c (by simp)
    have := tab_bd r ((c.toNat : Int) - 48) h0 h1 (by omega) (by omega)
    exact ih _ (fun x hx => h x (by simp [hx])) this.1 this.2
theorem foldF_inj (l : List UInt8) (r q : Int) (h : okD l) (h0 : 0 ≤ r) (h1 : r ≤ 9) (h2 : 0 ≤ q) (h3 : q ≤ 9) : foldF r l = foldF q l ↔ r = q := by
  induction l generalizing r q with
  | nil => exact Iff.rfl
  | cons c l ih =>
    have hc := h c (by simp)
    have a1 := tab_bd r ((c.toNat : Int) - 48) h0 h1 (by omega) (by omega)
    have a2 := tab_bd q ((c.toNat : Int) - 48) h2 h3 (by omega) (by omega)
    have := ih (tab r ((c.toNat : Int) - 48)) (tab q ((c.toNat : Int) - 48)) (fun x hx => h x (by simp [hx])) a1.1 a1.2 a2.1 a2.2
    show foldF (tab r _) l = foldF (tab q _) l ↔ _
    rw [this, (lat ((c.toNat : Int) - 48) r q (by omega) (by omega) h0 h1 h2 h3).2.1]
theorem foldF_app (l k : List UInt8) (r : Int) : foldF r (l ++ k) = foldF (foldF r l) k := by simp [foldF]

def isL (l : List UInt8) : Prop := okD l ∧ l.length ≤ 24 ∧ fold l = 0
theorem okD_app (l k : List UInt8) : okD (l ++ k) ↔ okD l ∧ okD k := by
  unfold okD; simp only [List.mem_append]
  exact ⟨fun h => ⟨fun x hx => h x (.inl hx), fun x hx => h x (.inr hx)⟩, fun h x hx => hx.elim (h.1 x) (h.2 x)⟩
theorem led_ok (l : List UInt8) (h : okD l) (hl : l.length ≤ 24) : led l = (fold l, 0) := by
  unfold led; rw [if_pos h, if_neg (by omega)]
theorem led_zero (l : List UInt8) (h : (led l).2 = 0) : okD l ∧ l.length ≤ 24 ∧ (led l).1 = fold l := by
  unfold led at h ⊢
  by_cases ho : okD l
  · rw [if_pos ho] at h ⊢
    by_cases hl : l.length > 24
    · rw [if_pos hl] at h; simp at h
    · rw [if_neg hl]; exact ⟨ho, by omega, rfl⟩
  · rw [if_neg ho] at h; simp at h

/-- behind its digit a number is right, and behind no other one -/
theorem tail_law (l : List UInt8) (c : UInt8) (h : (led l).2 = 0) (hl : l.length < 24) (h1 : 48 ≤ c.toNat) (h2 : c.toNat ≤ 57) :
    (led (l ++ [c])).2 = 0 ∧ ((led (l ++ [c])).1 = 0 ↔ (c.toNat : Int) = 48 + (led l).1) := by
  obtain ⟨ho, _, hf⟩ := led_zero l h
  have hb := fold_bd l ho
  rw [led_ok (l ++ [c]) ((okD_snoc _ _).2 ⟨ho, h1, h2⟩) (by simp; omega), hf, fold_snoc]
  refine ⟨rfl, ?_⟩
  rw [tab_zero _ _ hb.1 hb.2 (by omega) (by omega)]
  omega
/-- a digit misread is seen -/
theorem one_law (p q : List UInt8) (c b : UInt8) (h : (led (p ++ [c] ++ q)).2 = 0) (hz : (led (p ++ [c] ++ q)).1 = 0) (h1 : 48 ≤ b.toNat) (h2 : b.toNat ≤ 57) :
    (led (p ++ [b] ++ q)).2 = 0 ∧ ((led (p ++ [b] ++ q)).1 = 0 ↔ b = c) := by
  obtain ⟨ho, hl, hf⟩ := led_zero _ h
  rw [hf] at hz
  have hoo := (okD_app _ _).1 ho
  have hpc := (okD_snoc _ _).1 hoo.1
  have hp := fold_bd p hpc.1
  have a1 := tab_bd (fold p) ((c.toNat : Int) - 48) hp.1 hp.2 (by omega) (by omega)
  have a2 := tab_bd (fold p) ((b.toNat : Int) - 48) hp.1 hp.2 (by omega) (by omega)
  rw [led_ok (p ++ [b] ++ q) ((okD_app _ _).2 ⟨(okD_snoc _ _).2 ⟨hpc.1, h1, h2⟩, hoo.2⟩) (by simp at hl ⊢; omega)]
  refine ⟨rfl, ?_⟩
  show fold (p ++ [b] ++ q) = 0 ↔ b = c
  rw [fold_eq, foldF_app, ← fold_eq, fold_snoc] at hz ⊢
  rw [← hz, foldF_inj q _ _ hoo.2 a2.1 a2.2 a1.1 a1.2, (lat (fold p) ((b.toNat : Int) - 48) ((c.toNat : Int) - 48) hp.1 hp.2 (by omega) (by omega) (by omega) (by omega)).1]
  exact ⟨fun e => UInt8.toNat.inj (by omega), fun e => by rw [e]⟩
/-- two neighbours changed about are seen -/
theorem swap_law (p q : List UInt8) (a b : UInt8) (h : (led (p ++ [a] ++ [b] ++ q)).2 = 0) (hz : (led (p ++ [a] ++ [b] ++ q)).1 = 0) :
    (led (p ++ [b] ++ [a] ++ q)).2 = 0 ∧ ((led (p ++ [b] ++ [a] ++ q)).1 = 0 ↔ a = b) := by
  obtain ⟨ho, hl, hf⟩ := led_zero _ h
  rw [hf] at hz
  have hoo := (okD_app _ _).1 ho
  have hpab := (okD_snoc _ _).1 hoo.1
  have hpa := (okD_snoc _ _).1 hpab.1
  have hp := fold_bd p hpa.1
  have a1 := tab_bd (fold p) ((a.toNat : Int) - 48) hp.1 hp.2 (by omega) (by omega)
  have a2 := tab_bd (fold p) ((b.toNat : Int) - 48) hp.1 hp.2 (by omega) (by omega)
  have b1 := tab_bd _ ((b.toNat : Int) - 48) a1.1 a1.2 (by omega) (by omega)
  have b2 := tab_bd _ ((a.toNat : Int) - 48) a2.1 a2.2 (by omega) (by omega)
  rw [led_ok (p ++ [b] ++ [a] ++ q) ((okD_app _ _).2 ⟨(okD_snoc _ _).2 ⟨(okD_snoc _ _).2 ⟨hpa.1, hpab.2⟩, hpa.2⟩, hoo.2⟩) (by simp at hl ⊢; omega)]
  refine ⟨rfl, ?_⟩
  show fold (p ++ [b] ++ [a] ++ q) = 0 ↔ a = b
  rw [fold_eq, foldF_app, ← fold_eq, fold_snoc, fold_snoc] at hz ⊢
  rw [← hz, foldF_inj q _ _ hoo.2 b2.1 b2.2 b1.1 b1.2, (lat (fold p) ((b.toNat : Int) - 48) ((a.toNat : Int) - 48) hp.1 hp.2 (by omega) (by omega) (by omega) (by omega)).2.2.1]
  exact ⟨fun e => UInt8.toNat.inj (by omega), fun e => by rw [e]⟩
end Dm
end Go.Proofs.Ytcffcknnhjjdpaa
