/- A region that draws its order, whose operations only read, within a round of a range over a function: walked once. -/
import Derived.Test.YtcppeligeodomaaBase
import Derived.Sort.BigQuietIn
set_option linter.unusedVariables false
namespace Go.Proofs.Ytcppeligeodomaa
open Go.RowKit
theorem qzIn {F : Fence} {r : Nat} {P : Program} {f : FuncId} {args : Array Value} {w : World} {n : Nat} {v : Value}
    (h : CallsIn F r P f args (w.drewN n) fun e w' => e = .returned v ∧ w.drewN n = w') : CallsIn F r P f args (w.drewN n) fun e w'' => e = .returned v ∧ ∃ m, w'' = w.drewN m :=
  h.mono fun _ _ ⟨he, hm⟩ => ⟨he, n, hm.symm⟩
theorem qaIn {F : Fence} {r : Nat} {P : Program} {f : FuncId} {args : Array Value} {w : World} {a n : Nat} {v : Value}
    (h : CallsIn F r P f args (w.drewN (a + n)) fun e w' => e = .returned v ∧ w.drewN (a + n) = w') : CallsIn F r P f args (w.drewN (a + n)) fun e w'' => e = .returned v ∧ ∃ m, w'' = w.drewN (a + m) :=
  h.mono fun _ _ ⟨he, hm⟩ => ⟨he, n, hm.symm⟩
section
variable {F : Fence} {n : Nat} {P : Program} {ops : Array Oper} {md : Region.Mode}
/-- no operation is a defer statement -/
def noDefer (l : List Oper) : Bool := l.all (fun o => match o.op with | .defer _ => false | _ => true)
theorem wpIn_round {o : Oper} (l : Nat) (hro : F.round = none) (hd : ∀ c, o.op ≠ .defer c) {a : Act} {w : World} {K : Act → World → Prop} {Q : Exit → Act → World → Prop}
    (h : o.wpIn F n P a w K Q) : o.wpIn (F.inRound l) n P a w K Q := by
  unfold Oper.wpIn at *
  refine ⟨h.1, ?_⟩
  have h2 := h.2
  rw [Oper.semAt_eq _ _ _ hd] at h2 ⊢
  exact h2
theorem wpOpIn_round (l : Nat) (hro : F.round = none) (hd : ∀ o ∈ ops, ∀ c, o.op ≠ .defer c) {i : Nat} {K K' : Act → World → Prop} (hK : ∀ a w, K a w → K' a w) {a : Act} {w : World} {Q : Exit → Act → World → Prop}
    (h : wpOpIn F n P ops Q i K a w) : wpOpIn (F.inRound l) n P ops Q i K' a w := by
  unfold wpOpIn at *
  cases ho : ops[i]? with
  | none => simp only [ho] at h ⊢; exact hK _ _ h
  | some o =>
    simp only [ho] at h ⊢
    split
    · rename_i hw
      rw [if_pos hw] at h
      exact wpIn_round l hro (hd o (Array.mem_of_getElem? ho)) (Oper.wpIn_mono hK h)
    · rename_i hw
      rw [if_neg hw] at h
      exact ⟨h.1, hK _ _ h.2⟩
theorem wpAnyIn_round (l : Nat) (hro : F.round = none) (hd : ∀ o ∈ ops, ∀ c, o.op ≠ .defer c) {Q : Exit → Act → World → Prop} : ∀ (fuel : Nat) (listed : Array Bool) (a : Act) (w : World),
    wpAnyIn F n P md ops Q fuel listed a w → wpAnyIn (F.inRound l) n P md ops Q fuel listed a w
  | 0, _, _, _, h => h
  | fuel + 1, _, _, _, h => ⟨h.1, fun i hi => wpOpIn_round l hro hd (fun a w => wpAnyIn_round l hro hd fuel _ a w) (h.2 i hi)⟩
theorem wpIn_region_quiet_round {id : Nat} {Q : Exit → Act → World → Prop} {a : Act} {w : World} {l0 : Nat} {l : List Oper} (hro : F.round = none) (hm : P.follows .mixedOrders = true) (hB : Region.lexB .any l.toArray = true) (hd : noDefer l = true)
    (h : wpQuietIn F n P l.toArray (fun w' => ∃ n, w' = w.drewN n) (fun a' => ∀ w', (∃ n, w' = w.drewN n) → Q .normal a' w') l a) : (Code.region id l.toArray true).wpIn (F.inRound l0) n P Q a w := by
  simp only [Region.lexB, Bool.and_eq_true] at hB
  refine wpIn_region_any hm (wpAnyIn_round l0 hro ?_ _ _ _ _ (wpAnyIn_of_quiet (C := fun w' => ∃ n, w' = w.drewN n) (Q := fun a' => ∀ w', (∃ n, w' = w.drewN n) → Q .normal a' w') hro (fun _ w' hw' h => h w' hw') _ _ _ _ ⟨1, rfl⟩ ?_))
  · intro o ho c hc
    have := List.all_eq_true.1 hd o (by simpa using ho)
    rw [hc] at this
    exact absurd this (by simp)
  · have := wpAnyQIn_lex (F := F) (n := n) (C := fun w' => ∃ n, w' = w.drewN n) (md := .any) hB.1 l 0 (Array.replicate l.toArray.size false) a (by simp) (by simpa using hB.2) h
    simpa using this
/-- the last one waits for all: each other one is waited for by a later one; and each waits for earlier ones alone -/
def lastB (md : Region.Mode) (ops : Array Oper) : Bool :=
  (List.range ops.size).all (fun i => match ops[i]? with | some o => o.after.toList.all (fun e => !Region.binds md e || decide (e.on < i)) | none => true) &&
  (List.range (ops.size - 1)).all (fun j => (List.range ops.size).any (fun k => decide (j < k) && match ops[k]? with | some o => o.after.toList.any (fun e => Region.binds md e && e.on == j) | none => false))
def lexLast (md : Region.Mode) (ops : Array Oper) : Bool :=
  Region.noSelect ops && Region.lexFrom md ops (ops.size - 1) 0 ((Array.replicate ops.size false).setIfInBounds (ops.size - 1) true) && lastB md ops
/-- what has come up waited for nothing that has not -/
def ClosedL (md : Region.Mode) (ops : Array Oper) (listed : Array Bool) : Prop := ∀ i o, ops[i]? = some o → listed.getD i false = true → ∀ e ∈ o.after, Region.binds md e = true → listed.getD e.on false = true
theorem getD_tf {listed : Array Bool} {i : Nat} (h : i < listed.size) : listed.getD i true = listed.getD i false := by simp [h]
theorem lastB_spec (h : lastB md ops = true) : (∀ i o, ops[i]? = some o → ∀ e ∈ o.after, Region.binds md e = true → e.on < i) ∧ ∀ j, j < ops.size - 1 → ∃ k o, j < k ∧ ops[k]? = some o ∧ ∃ e ∈ o.after, Region.binds md e = true ∧ e.on = j := by
  unfold lastB at h
  rw [Bool.and_eq_true, List.all_eq_true, List.all_eq_true] at h
  obtain ⟨h1, h2⟩ := h
  refine ⟨fun i o ho e he hb => ?_, fun j hj => ?_⟩
  · have := h1 i (List.mem_range.2 (Array.getElem?_eq_some_iff.1 ho).1)
    simp only [ho] at this
    have := List.all_eq_true.1 this e (by simpa using he)
    simpa [hb] using this
  · have := h2 j (List.mem_range.2 hj)
    rw [List.any_eq_true] at this
    obtain ⟨k, hk, h3⟩ := this
    rw [Bool.and_eq_true] at h3
    cases ho : ops[k]? with
    | none => simp only [ho] at h3; exact absurd h3.2 (by simp)
    | some o =>
      simp only [ho] at h3
      have h4 := h3.2
      rw [List.any_eq_true] at h4
      obtain ⟨e, he, h5⟩ := h4
      rw [Bool.and_eq_true] at h5
      exact ⟨k, o, of_decide_eq_true h3.1, ho, e, by simpa using he, h5.1, eq_of_beq h5.2⟩
theorem last_all (hL : lastB md ops = true) {listed : Array Bool} (hc : ClosedL md ops listed) (hr : ops.size - 1 ∈ Region.ready md ops listed) : ∀ (d j : Nat), ops.size - 1 - j ≤ d → j < ops.size - 1 → listed.getD j false = true := by
  intro d
  induction d with
  | zero => intro j h1 h2; omega
  | succ d ih =>
    intro j h1 h2
    obtain ⟨k, o, hjk, ho, e, he, hb, heq⟩ := (lastB_spec hL).2 j h2
    have hk : k < ops.size := (Array.getElem?_eq_some_iff.1 ho).1
    rw [← heq]
    by_cases hkm : k = ops.size - 1
    · obtain ⟨_, o2, ho2, hall⟩ := mem_ready.1 hr
      rw [← hkm, ho] at ho2
      cases ho2
      exact hall e he hb
    · exact hc k o ho (ih k (by omega) (by omega)) e he hb
theorem last_ready (hL : lastB md ops = true) {listed : Array Bool} (hs : listed.size = ops.size) (hc : ClosedL md ops listed) (hr : ops.size - 1 ∈ Region.ready md ops listed) : Region.ready md ops (listed.setIfInBounds (ops.size - 1) true) = [] := by
  rw [List.eq_nil_iff_forall_not_mem]
  intro i hi
  obtain ⟨h0, o, ho, _⟩ := mem_ready.1 hi
  have hlt : i < ops.size := (Array.getElem?_eq_some_iff.1 ho).1
  by_cases h : ops.size - 1 = i
  · subst h
    rw [getD_tf (by simpa [hs] using hlt), Array.getD_eq_getD_getElem?] at h0
    simp [hs, hlt] at h0
  · rw [getD_set_ne true h, getD_tf (by omega), last_all hL hc hr _ i (Nat.le_refl _) (by omega)] at h0
    cases h0
theorem some_ready (hL : lastB md ops = true) {listed : Array Bool} (hs : listed.size = ops.size) : ∀ (d i : Nat), i ≤ d → i < ops.size → listed.getD i true = false → Region.ready md ops listed ≠ [] := by
  intro d
  induction d with
  | zero =>
    intro i h1 h2 h3 he
    have ho : ops[i]? = some ops[i] := Array.getElem?_eq_getElem h2
    have : i ∈ Region.ready md ops listed := mem_ready.2 ⟨h3, _, ho, fun e he hb => by have := (lastB_spec hL).1 i _ ho e he hb; omega⟩
    rw [he] at this; cases this
  | succ d ih =>
    intro i h1 h2 h3 he
    have ho : ops[i]? = some ops[i] := Array.getElem?_eq_getElem h2
    by_cases hall : ∀ e ∈ ops[i].after, Region.binds md e = true → listed.getD e.on false = true
    · have : i ∈ Region.ready md ops listed := mem_ready.2 ⟨h3, _, ho, hall⟩
      rw [he] at this; cases this
    · obtain ⟨e, h4⟩ := Classical.not_forall.1 hall
      obtain ⟨h5, h6⟩ := Classical.not_imp.1 h4
      obtain ⟨h7, h8⟩ := Classical.not_imp.1 h6
      have h9 := (lastB_spec hL).1 i _ ho e h5 h7
      exact ih e.on (by omega) (by omega) (by rw [getD_tf (by omega)]; simpa using h8) he
theorem closed_set {listed : Array Bool} (hc : ClosedL md ops listed) {i : Nat} (hi : i ∈ Region.ready md ops listed) : ClosedL md ops (listed.setIfInBounds i true) := by
  intro j o ho hj e he hb
  refine getD_set_true ?_
  by_cases h : i = j
  · subst h
    obtain ⟨_, o2, ho2, hall⟩ := mem_ready.1 hi
    rw [ho] at ho2; cases ho2
    exact hall e he hb
  · rw [getD_set_ne false h] at hj
    exact hc j o ho hj e he hb
variable {C : World → Prop}
theorem quiet_last (hro : F.round = none) (hL : lastB md ops = true) (hpos : 0 < ops.size) {QL : Act → Prop} {Q' : Exit → Act → World → Prop} (hQL : ∀ a w, C w → QL a → wpOpIn F n P ops Q' (ops.size - 1) (fun a w => Q' .normal a w) a w) :
    ∀ (fuel : Nat) (listed : Array Bool) (a : Act) (w : World), C w → ClosedL md ops listed → listed.size = ops.size → listed.getD (ops.size - 1) true = false →
      wpAnyQIn F n P md ops C QL fuel (listed.setIfInBounds (ops.size - 1) true) a → wpAnyIn F n P md ops Q' (fuel + 1) listed a w
  | 0, listed, a, w, hw, hc, hs, hm, h => by
    refine ⟨fun h0 => absurd h0 (some_ready hL hs _ (ops.size - 1) (Nat.le_refl _) (by omega) hm), fun i hi => ?_⟩
    by_cases him : i = ops.size - 1
    · subst him
      exact wpOpIn_mono (fun a' w' hq => ⟨h.1, hq⟩) (hQL a w hw h.2)
    · have := ready_mono hi him
      rw [h.1] at this; cases this
  | fuel + 1, listed, a, w, hw, hc, hs, hm, h => by
    refine ⟨fun h0 => absurd h0 (some_ready hL hs _ (ops.size - 1) (Nat.le_refl _) (by omega) hm), fun i hi => ?_⟩
    by_cases him : i = ops.size - 1
    · subst him
      have hnil := last_ready hL hs hc hi
      refine wpOpIn_mono (fun a' w' hq => ⟨fun _ => hq, fun j hj => ?_⟩) (hQL a w hw (h.1 hnil))
      rw [hnil] at hj; cases hj
    · have h2 := h.2 i (ready_mono hi him)
      refine wpOpIn_of_qOpIn hro hw (fun a' w' hw' hk => ?_) h2
      refine quiet_last hro hL hpos hQL fuel (listed.setIfInBounds i true) a' w' hw' (closed_set hc hi) (by simpa using hs) (by rw [getD_set_ne true him]; exact hm) ?_
      rw [Array.setIfInBounds_comm _ _ him]
      exact hk
theorem wpAnyQIn_lexs {Q : Act → Prop} (hs : Region.noSelect ops = true) : ∀ (l : List Oper) (k : Nat) (listed : Array Bool) (a : Act), (∀ j, j < l.length → l[j]? = ops[k + j]?) →
    Region.lexFrom md ops l.length k listed = true → wpQuietIn F n P ops C Q l a → wpAnyQIn F n P md ops C Q l.length listed a
  | [], _, _, _, _, hB, h => ⟨by simpa [Region.lexFrom] using hB, h⟩
  | o :: l, k, listed, a, hl, hB, h => by
    have h0 : ops[k]? = some o := by simpa using (hl 0 (by simp)).symm
    simp only [List.length_cons, Region.lexFrom, Bool.and_eq_true] at hB
    obtain ⟨⟨hr, hf⟩, hB'⟩ := hB
    have hst : qOpIn F n P ops C k (wpQuietIn F n P ops C Q l) a := by unfold qOpIn; simp only [h0]; exact h
    obtain ⟨v, hy, hK⟩ := yieldsQuiet_of_qOpIn h0 hst
    exact wpAnyQIn_first h0 (Region.noSelect_spec hs) l.length listed a (Region.free_spec h0 hf) (by simpa using hr) hy
      (wpAnyQIn_lexs hs l (k + 1) _ _ (fun j hj => by have := hl (j + 1) (by simpa using hj); simpa [Nat.add_assoc, Nat.add_comm 1 j] using this) hB' hK)
/-- a region whose last operation waits for all others, and these only read, within a round -/
theorem wpIn_region_quiet_last {id : Nat} {Q : Exit → Act → World → Prop} {a : Act} {w : World} {l0 : Nat} {L : List Oper} (k : Nat) (hro : F.round = none) (hm : P.follows .mixedOrders = true) (hk : L.length = k + 1) (hB : lexLast .any L.toArray = true) (hd : noDefer L = true)
    (h : wpQuietIn F n P L.toArray (fun w' => ∃ n, w' = w.drewN n) (fun a' => ∀ w', (∃ n, w' = w.drewN n) → wpListIn F n P L.toArray Q (L.drop k) a' w') (L.take k) a) : (Code.region id L.toArray true).wpIn (F.inRound l0) n P Q a w := by
  unfold lexLast at hB
  rw [Bool.and_eq_true, Bool.and_eq_true] at hB
  obtain ⟨⟨hs, hf⟩, hL⟩ := hB
  have hsz : L.toArray.size = k + 1 := by simpa using hk
  refine wpIn_region_any hm (wpAnyIn_round l0 hro ?_ _ _ _ _ ?_)
  · intro o ho c hc
    have := List.all_eq_true.1 hd o (by simpa using ho)
    rw [hc] at this
    exact absurd this (by simp)
  · have htl : (L.take k).length = k := by rw [List.length_take]; omega
    have he : L.toArray.size - 1 = k := by omega
    have h2 := wpAnyQIn_lexs (F := F) (n := n) (C := fun w' => ∃ n, w' = w.drewN n) (md := .any) hs (L.take k) 0 ((Array.replicate L.toArray.size false).setIfInBounds (L.toArray.size - 1) true) a
      (fun j hj => by rw [htl] at hj; simp [List.getElem?_take, hj]) (by rw [htl]; rw [he] at hf ⊢; exact hf) h
    rw [htl] at h2
    have h3 := quiet_last (F := F) (n := n) (P := P) (C := fun w' => ∃ n, w' = w.drewN n) (md := .any) (ops := L.toArray) hro hL (by omega) (QL := fun a' => ∀ w', (∃ n, w' = w.drewN n) → wpListIn F n P L.toArray Q (L.drop k) a' w') (Q' := Q) (fun a' w' hw' hq => by
        have h4 := hq w' hw'
        have hlt : k < L.length := by omega
        have hdr : L.drop k = [L[k]] := by rw [List.drop_eq_getElem_cons hlt, List.drop_eq_nil_of_le (by omega)]
        rw [hdr] at h4
        have h5 : wpOpIn F n P L.toArray Q (L.toArray.size - 1) (wpListIn F n P L.toArray Q []) a' w' := by
          unfold wpOpIn
          have hget : L.toArray[L.toArray.size - 1]? = some L[k] := by rw [hsz]; simp [hlt]
          simp only [hget]
          exact h4
        exact h5) k (Array.replicate L.toArray.size false) a { w with drawn := w.drawn + 1 } ⟨1, rfl⟩
      (fun i o ho hi => by simp [Array.getD_eq_getD_getElem?, Array.getElem?_replicate] at hi; split at hi <;> simp at hi) (by simp) (by rw [hsz]; simp [Array.getD_eq_getD_getElem?, Array.getElem?_replicate]) h2
    rw [hsz]
    rw [hsz] at h3
    exact h3
end
end Go.Proofs.Ytcppeligeodomaa
