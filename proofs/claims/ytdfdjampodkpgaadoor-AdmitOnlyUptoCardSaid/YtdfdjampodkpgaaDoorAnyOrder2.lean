/- A region that draws its order, as in AnyOrder, in which one or two operations change the world for good (an alloc, a store): the condition hangs on whether they have come up; and a tail that waits for all else is walked by itself. -/
import Derived.Test.YtdfdjampodkpgaaDoorAnyOrder
import Derived.StillTail
import Derived.RegionTactic
set_option linter.unusedSimpArgs false
set_option linter.unusedVariables false
namespace Go.Proofs.YtdfdjampodkpgaaDoor
open Go Go.RowKit
section
variable {P : Program} {ops : Array Oper} {Q : Exit → Act → World → Prop} {md : Region.Mode} {S : Array Bool → World → Prop}
abbrev InvV (md : Region.Mode) (ops : Array Oper) (l : Array Bool) : Prop := HeadInv md ops ops.size l
def CarriesV (P : Program) (md : Region.Mode) (ops : Array Oper) (S : Array Bool → World → Prop) (i : Nat) (o : Oper) (v : Value) (a : Act) : Prop :=
  (Region.wanted o (yielded ops a.tmps) = true ∧ ∀ l w, InvV md ops l → i ∈ Region.ready md ops l → S l w → Hands P (S (l.setIfInBounds i true)) v ((execOp a.eval o).run P w)) ∨
  (Region.wanted o (yielded ops a.tmps) = false ∧ v = undef ∧ ∀ l w, InvV md ops l → i ∈ Region.ready md ops l → S l w → S (l.setIfInBounds i true) w)
theorem CarriesV.of_same {i : Nat} {o : Oper} {v : Value} {a a' : Act} (hy : CarriesV P md ops S i o v a) (he : execOp a'.eval o = execOp a.eval o)
    (hw : Region.wanted o (yielded ops a'.tmps) = Region.wanted o (yielded ops a.tmps)) : CarriesV P md ops S i o v a' := by
  unfold CarriesV at *
  rw [he, hw]
  exact hy
theorem CarriesV.wpOp {i : Nat} {o : Oper} {v : Value} {a : Act} (hi : ops[i]? = some o) (hy : CarriesV P md ops S i o v a) {l : Array Bool} (inv : InvV md ops l) (hr : i ∈ Region.ready md ops l)
    {K : Act → World → Prop} {w : World} (hS : S l w) (h : ∀ w', S (l.setIfInBounds i true) w' → K (a.put o.dst v) w') : wpOp P ops Q i K a w := by
  unfold Go.wpOp
  simp only [hi]
  rcases hy with ⟨hw, hv⟩ | ⟨hw, rfl, hv⟩
  · rw [if_pos hw]
    refine .inl ?_
    have hh := hv l w inv hr hS
    unfold Oper.wp
    generalize (execOp a.eval o).run P w = r at *
    cases r with
    | ok n w' =>
      cases n <;> simp only [Hands] at hh
      case value u => obtain ⟨rfl, hs⟩ := hh; exact h w' hs
      case skip => obtain ⟨rfl, hs⟩ := hh; exact h w' hs
      case enter f args =>
        refine Calls.mono hh fun e w'' he => ?_
        obtain ⟨rfl, hs⟩ := he
        exact h w'' hs
    | halt x w' => exact hh.elim
  · rw [if_neg (by simp [hw])]; exact h w (hv l w inv hr hS)
/-- nothing that has not come up could come up ahead of any one of those that came last -/
def leafB (md : Region.Mode) (ops : Array Oper) (l : Array Bool) : Bool :=
  (List.range ops.size).all fun i => !l.getD i false || (List.range ops.size).all fun j => l.getD j true || ((List.range ops.size).any fun k => !l.getD k true && Region.waitsFor md ops j k) || Region.waitsFor md ops j i
    || (List.range ops.size).any fun k => l.getD k false && Region.waitsFor md ops k i
def wpV (P : Program) (md : Region.Mode) (ops : Array Oper) (Q : Exit → Act → World → Prop) (S : Array Bool → World → Prop) : Nat → Array Bool → Act → Prop
  | 0, listed, a => Region.ready md ops listed = [] ∧ ∀ w, S listed w → Q .normal a w
  | fuel + 1, listed, a =>
    (leafB md ops listed = true ∧ ∀ w, S listed w → wpAny P md ops Q (fuel + 1) listed a w) ∨
    ((Region.ready md ops listed = [] → ∀ w, S listed w → Q .normal a w) ∧
    ∀ i ∈ Region.ready md ops listed, ∃ o v, ops[i]? = some o ∧ CarriesV P md ops S i o v a ∧ wpV P md ops Q S fuel (listed.setIfInBounds i true) (a.put o.dst v))
theorem lt_of_ready {l : Array Bool} {i : Nat} (h : i ∈ Region.ready md ops l) : i < ops.size := by
  obtain ⟨_, o, ho, _⟩ := mem_ready.1 h
  exact (Array.getElem?_eq_some_iff.1 ho).1
theorem wpAny_of_V : ∀ (fuel : Nat) (listed : Array Bool) (a : Act) (w : World), InvV md ops listed → S listed w → wpV P md ops Q S fuel listed a → wpAny P md ops Q fuel listed a w
  | 0, _, _, w, _, hS, h => ⟨h.1, h.2 w hS⟩
  | fuel + 1, _, _, w, inv, hS, h => by
    rcases h with ⟨_, h⟩ | h
    · exact h w hS
    · exact ⟨fun h0 => h.1 h0 w hS, fun i hi => by
        obtain ⟨o, v, ho, hc, hu⟩ := h.2 i hi
        exact hc.wpOp ho inv hi hS (fun w' hS' => wpAny_of_V fuel _ _ w' (inv.set hi (lt_of_ready hi)) hS' hu)⟩
theorem waits_of {l : Array Bool} {j k : Nat} (hj : j ∈ Region.ready md ops l) (h : Region.waitsFor md ops j k = true) : l.getD k false = true := by
  obtain ⟨oj, hoj, e, he, hb, rfl⟩ := Region.waitsFor_spec h
  obtain ⟨_, o, ho, hall⟩ := mem_ready.1 hj
  have : o = oj := Option.some.inj (ho.symm.trans hoj)
  subst this
  exact hall e he hb
theorem waits_in {l : Array Bool} {j k : Nat} (inv : InvV md ops l) (hj : l.getD j false = true) (h : Region.waitsFor md ops j k = true) : l.getD k false = true := by
  obtain ⟨oj, hoj, e, he, hb, rfl⟩ := Region.waitsFor_spec h
  exact inv.closed j oj hoj hj e he hb
theorem not_both {l : Array Bool} {k : Nat} (h1 : l.getD k true = false) (h2 : l.getD k false = true) : False := by
  have := getD_both h1; rw [h2] at this; cases this
theorem wpV_first {i : Nat} {oi : Oper} {v : Value} (hi : ops[i]? = some oi) (hsel : ∀ (j : Nat) (o : Oper) cs b, ops[j]? = some o → o.op ≠ .select cs b) :
    ∀ (fuel : Nat) (listed : Array Bool) (a : Act), InvV md ops listed →
      (∀ j oj, ops[j]? = some oj → j ≠ i → listed.getD j true = false → (∀ e ∈ oj.after, Region.binds md e = true → e.on ≠ i) → oi.apart ops oj = true) →
      i ∈ Region.ready md ops listed → CarriesV P md ops S i oi v a →
      wpV P md ops Q S fuel (listed.setIfInBounds i true) (a.put oi.dst v) → wpV P md ops Q S (fuel + 1) listed a := by
  intro fuel
  induction fuel with
  | zero =>
    intro listed a inv _ hr hy H
    refine .inr ⟨fun h => (by rw [h] at hr; cases hr), fun j hj => ?_⟩
    by_cases hji : j = i
    · subst hji; exact ⟨oi, v, hi, hy, H⟩
    · have := ready_mono hj hji
      rw [H.1] at this
      cases this
  | succ fuel ih =>
    intro listed a inv hfree hr hy H
    refine .inr ⟨fun h => (by rw [h] at hr; cases hr), fun j hj => ?_⟩
    by_cases hji : j = i
    · subst hji; exact ⟨oi, v, hi, hy, H⟩
    · have hi0 := (mem_ready.1 hr).1
      rcases H with ⟨hleaf, H⟩ | H
      · exfalso
        have hilt := lt_of_ready hr
        have hjlt := lt_of_ready hj
        have hjl := (mem_ready.1 hj).1
        have hgi : (listed.setIfInBounds i true).getD i false = true := by
          have : i < listed.size := by rw [inv.size]; exact hilt
          simp [this]
        unfold leafB at hleaf
        rw [List.all_eq_true] at hleaf
        have h1 := hleaf i (List.mem_range.2 hilt)
        rw [hgi, Bool.not_true, Bool.false_or, List.all_eq_true] at h1
        have h2 := h1 j (List.mem_range.2 hjlt)
        rw [getD_set_ne true (Ne.symm hji), hjl, Bool.false_or, Bool.or_eq_true, Bool.or_eq_true, List.any_eq_true, List.any_eq_true] at h2
        rcases h2 with (⟨k, hk, h3⟩ | h3) | ⟨k, hk, h3⟩
        · rw [Bool.and_eq_true, Bool.not_eq_true'] at h3
          have h4 := waits_of hj h3.2
          by_cases hki : i = k
          · subst hki; exact not_both hi0 h4
          · rw [getD_set_ne true hki] at h3; exact not_both h3.1 h4
        · exact not_both hi0 (waits_of hj h3)
        · rw [Bool.and_eq_true] at h3
          by_cases hki : i = k
          · subst hki; exact not_both hi0 (waits_of hr h3.2)
          · rw [getD_set_ne false hki] at h3; exact not_both hi0 (waits_in inv h3.1 h3.2)
      · obtain ⟨oj, u, hoj, hcj, hu⟩ := H.2 j (ready_mono hj hji)
        obtain ⟨hjun, oj', hoj', hall⟩ := mem_ready.1 hj
        have hnot : ∀ e ∈ oj'.after, Region.binds md e = true → e.on ≠ i := fun e he hb heq => by
          have h1 := hall e he hb
          rw [heq] at h1
          exact not_both hi0 h1
        have he : oj' = oj := by rw [hoj] at hoj'; injection hoj' with e; exact e.symm
        rw [he] at hnot
        have hap := hfree j oj hoj hji hjun hnot
        obtain ⟨h1, h2, h3⟩ := Oper.apart_spec hap
        refine ⟨oj, u, hoj, hcj.of_same (execOp_put oj (fun cs b => hsel j oj cs b hoj) a oi.dst v h1).symm (wanted_put oj a oi.dst v h1).symm, ?_⟩
        have hfree' : ∀ k ok, ops[k]? = some ok → k ≠ i → (listed.setIfInBounds j true).getD k true = false →
            (∀ e ∈ ok.after, Region.binds md e = true → e.on ≠ i) → oi.apart ops ok = true := fun k ok hk hki hun hno => by
          refine hfree k ok hk hki ?_ hno
          by_cases hjk : j = k
          · subst hjk; exact hjun
          · rw [getD_set_ne true hjk] at hun; exact hun
        refine ih (listed.setIfInBounds j true) (a.put oj.dst u) (inv.set hj (lt_of_ready hj)) hfree' (ready_mono hr (Ne.symm hji)) (hy.of_same (execOp_put oi (fun cs b => hsel i oi cs b hi) a oj.dst u h3) (wanted_put oi a oj.dst u h3)) ?_
        rw [Array.setIfInBounds_comm _ _ hji, ← Act.put_comm a v u h2]
        exact hu
/-- the walk: from the beginning the set of those that came up is one that can be -/
def wpW (P : Program) (md : Region.Mode) (ops : Array Oper) (Q : Exit → Act → World → Prop) (S : Array Bool → World → Prop) (fuel : Nat) (l : Array Bool) (a : Act) : Prop := InvV md ops l → wpV P md ops Q S fuel l a
theorem wpW_take {i : Nat} {oi : Oper} {v : Value} {fuel : Nat} {listed : Array Bool} {a : Act} (hi : ops[i]? = some oi)
    (hs : Region.noSelect ops = true) (hf : Region.free md ops listed i = true) (hr : (Region.ready md ops listed).contains i = true)
    (hy : CarriesV P md ops S i oi v a) (h : wpW P md ops Q S fuel (listed.setIfInBounds i true) (a.put oi.dst v)) : wpW P md ops Q S (fuel + 1) listed a := fun inv => by
  have hr' : i ∈ Region.ready md ops listed := by simpa using hr
  exact wpV_first hi (Region.noSelect_spec hs) fuel listed a inv (Region.free_spec hi hf) hr' hy (h (inv.set hr' (lt_of_ready hr')))
theorem wpW_done {listed : Array Bool} {a : Act} (hr : Region.ready md ops listed = []) (h : ∀ w, S listed w → Q .normal a w) : ∀ fuel, wpW P md ops Q S fuel listed a
  | 0 => fun _ => ⟨hr, h⟩
  | _ + 1 => fun _ => .inr ⟨fun _ => h, by rw [hr]; simp⟩
theorem wpW_leaf {listed : Array Bool} {a : Act} {fuel : Nat} (hl : leafB md ops listed = true) (h : ∀ w, S listed w → wpAny P md ops Q (fuel + 1) listed a w) : wpW P md ops Q S (fuel + 1) listed a := fun _ => .inl ⟨hl, h⟩
theorem wp_region_W {id : Nat} {a : Act} {w : World} (hm : P.follows .mixedOrders = true) (hS : S (Array.replicate ops.size false) w.drew)
    (h : wpW P .any ops Q S ops.size (Array.replicate ops.size false) a) : (Code.region id ops true).wp P Q a w :=
  wp_region_any hm (wpAny_of_V _ _ _ _ ⟨by simp, fun j oj _ hl => (by rw [getD_replicate_false] at hl; cases hl), fun t h1 h2 => by omega⟩ hS
    (h ⟨by simp, fun j oj _ hl => (by rw [getD_replicate_false] at hl; cases hl), fun t h1 h2 => by omega⟩))
/-- the next one, if it alone may come up -/
theorem wpAny_one {i : Nat} {o : Oper} {fuel : Nat} {listed : Array Bool} {a : Act} {w : World} (hr : Region.ready md ops listed = [i]) (ho : ops[i]? = some o)
    (h : ∀ K' : Act → World → Prop, (∀ a w, wpAny P md ops Q fuel (listed.setIfInBounds i true) a w → K' a w) → if Region.wanted o (yielded ops a.tmps) = true then Oper.wp P o a w K' Q else K' (a.put o.dst undef) w) : wpAny P md ops Q (fuel + 1) listed a w :=
  wpAny_all hr (by simp) (fun j hj => by rw [List.mem_singleton] at hj; subst hj; exact wpOp_step ho h)
end
/-! ### two operations that change the world for good, the second behind the first -/
def S2 (m1 m2 : Nat) (T0 T1 T2 : World → Prop) (l : Array Bool) (w : World) : Prop := if l.getD m1 false = false then T0 w else if l.getD m2 false = false then T1 w else T2 w
section
variable {P : Program} {ops : Array Oper} {md : Region.Mode} {T0 T1 T2 : World → Prop} {m1 m2 : Nat}
theorem S2_other {l : Array Bool} {i : Nat} {w : World} (h1 : i ≠ m1) (h2 : i ≠ m2) : S2 m1 m2 T0 T1 T2 (l.setIfInBounds i true) w ↔ S2 m1 m2 T0 T1 T2 l w := by
  unfold S2; rw [getD_set_ne false h1, getD_set_ne false h2]
theorem Hands.imp {S S' : World → Prop} {v : Value} {r : Result Next} (h : Hands P S v r) (hs : ∀ w, S w → S' w) : Hands P S' v r := by
  cases r with
  | ok n w' =>
    cases n <;> simp only [Hands] at h ⊢
    case value u => exact ⟨h.1, hs _ h.2⟩
    case skip => exact ⟨h.1, hs _ h.2⟩
    case enter f args => exact Calls.mono h fun e w'' he => ⟨he.1, hs _ he.2⟩
  | halt x w' => exact h.elim
theorem Hands.value {S : World → Prop} {v : Value} {r : Result Next} {w : World} (h : r = .ok (.value v) w) (hS : S w) : Hands P S v r := by subst h; exact ⟨rfl, hS⟩
theorem Hands.call {S : World → Prop} {v : Value} {r : Result Next} {w : World} {f : FuncId} {args : Array Value} (h : r = .ok (.enter f args) w) (hc : Calls P f args w (fun e w'' => e = .returned v ∧ S w'')) : Hands P S v r := by subst h; exact hc
/-- an operation that is neither of the two -/
theorem V_plain {i : Nat} {o : Oper} {v : Value} {a : Act} (h1 : (i == m1) = false) (h2 : (i == m2) = false) (hw : Region.wanted o (yielded ops a.tmps) = true)
    (g0 : ∀ w, T0 w → Hands P T0 v ((execOp a.eval o).run P w)) (g1 : ∀ w, T1 w → Hands P T1 v ((execOp a.eval o).run P w)) (g2 : ∀ w, T2 w → Hands P T2 v ((execOp a.eval o).run P w)) :
    CarriesV P md ops (S2 m1 m2 T0 T1 T2) i o v a := by
  refine .inl ⟨hw, fun l w _ _ hS => ?_⟩
  refine Hands.imp (S := S2 m1 m2 T0 T1 T2 l) ?_ (fun w h => (S2_other (by simpa using h1) (by simpa using h2)).2 h)
  unfold S2 at hS ⊢
  by_cases b1 : l.getD m1 false = false
  · rw [if_pos b1] at hS
    refine Hands.imp (g0 w hS) (fun w h => ?_)
    rw [if_pos b1]; exact h
  · rw [if_neg b1] at hS
    by_cases b2 : l.getD m2 false = false
    · rw [if_pos b2] at hS
      refine Hands.imp (g1 w hS) (fun w h => ?_)
      rw [if_neg b1, if_pos b2]; exact h
    · rw [if_neg b2] at hS
      refine Hands.imp (g2 w hS) (fun w h => ?_)
      rw [if_neg b1, if_neg b2]; exact h
/-- one that yields its value in whatever world -/
theorem V_free {i : Nat} {o : Oper} {v : Value} {a : Act} (h1 : (i == m1) = false) (h2 : (i == m2) = false) (hw : Region.wanted o (yielded ops a.tmps) = true)
    (g : ∀ w, (execOp a.eval o).run P w = .ok (.value v) w) : CarriesV P md ops (S2 m1 m2 T0 T1 T2) i o v a :=
  V_plain h1 h2 hw (fun w h => .value (g w) h) (fun w h => .value (g w) h) (fun w h => .value (g w) h)
/-- a call that leaves each world alone -/
theorem V_call {i : Nat} {o : Oper} {v : Value} {a : Act} {f : FuncId} {args : Array Value} (h1 : (i == m1) = false) (h2 : (i == m2) = false) (hw : Region.wanted o (yielded ops a.tmps) = true)
    (g : ∀ w, (execOp a.eval o).run P w = .ok (.enter f args) w) (hc : ∀ w, Calls P f args w (fun e w'' => e = .returned v ∧ w = w'')) : CarriesV P md ops (S2 m1 m2 T0 T1 T2) i o v a :=
  V_plain h1 h2 hw (fun w h => .call (g w) ((hc w).mono (fun e w'' hh => ⟨hh.1, hh.2 ▸ h⟩))) (fun w h => .call (g w) ((hc w).mono (fun e w'' hh => ⟨hh.1, hh.2 ▸ h⟩))) (fun w h => .call (g w) ((hc w).mono (fun e w'' hh => ⟨hh.1, hh.2 ▸ h⟩)))
/-- one for which the first of the two waits -/
theorem V_ahead1 {i : Nat} {o : Oper} {v : Value} {a : Act} (h1 : (i == m1) = false) (h2 : (i == m2) = false) (hw : Region.wanted o (yielded ops a.tmps) = true) (hd : Region.waitsFor md ops m1 i = true)
    (g0 : ∀ w, T0 w → Hands P T0 v ((execOp a.eval o).run P w)) : CarriesV P md ops (S2 m1 m2 T0 T1 T2) i o v a := by
  refine .inl ⟨hw, fun l w inv hr hS => ?_⟩
  refine Hands.imp (S := S2 m1 m2 T0 T1 T2 l) ?_ (fun w h => (S2_other (by simpa using h1) (by simpa using h2)).2 h)
  have b1 : l.getD m1 false = false := by
    rw [← Bool.not_eq_true]
    exact fun h => not_both (mem_ready.1 hr).1 (waits_in inv h hd)
  unfold S2 at hS ⊢
  rw [if_pos b1] at hS
  refine Hands.imp (g0 w hS) (fun w h => ?_)
  rw [if_pos b1]; exact h
/-- one for which the second of the two waits -/
theorem V_ahead2 {i : Nat} {o : Oper} {v : Value} {a : Act} (h1 : (i == m1) = false) (h2 : (i == m2) = false) (hw : Region.wanted o (yielded ops a.tmps) = true) (hd : Region.waitsFor md ops m2 i = true)
    (g0 : ∀ w, T0 w → Hands P T0 v ((execOp a.eval o).run P w)) (g1 : ∀ w, T1 w → Hands P T1 v ((execOp a.eval o).run P w)) : CarriesV P md ops (S2 m1 m2 T0 T1 T2) i o v a := by
  refine .inl ⟨hw, fun l w inv hr hS => ?_⟩
  refine Hands.imp (S := S2 m1 m2 T0 T1 T2 l) ?_ (fun w h => (S2_other (by simpa using h1) (by simpa using h2)).2 h)
  have b2 : l.getD m2 false = false := by
    rw [← Bool.not_eq_true]
    exact fun h => not_both (mem_ready.1 hr).1 (waits_in inv h hd)
  unfold S2 at hS ⊢
  by_cases b1 : l.getD m1 false = false
  · rw [if_pos b1] at hS
    refine Hands.imp (g0 w hS) (fun w h => ?_)
    rw [if_pos b1]; exact h
  · rw [if_neg b1, if_pos b2] at hS
    refine Hands.imp (g1 w hS) (fun w h => ?_)
    rw [if_neg b1, if_pos b2]; exact h
/-- the first of the two -/
theorem V_first {o : Oper} {v : Value} {a : Act} (hw : Region.wanted o (yielded ops a.tmps) = true) (hd : (Region.waitsFor md ops m2 m1 || decide (ops.size ≤ m2)) = true) (hne : (m1 == m2) = false)
    (g : ∀ w, T0 w → Hands P T1 v ((execOp a.eval o).run P w)) : CarriesV P md ops (S2 m1 m2 T0 T1 T2) m1 o v a := by
  refine .inl ⟨hw, fun l w inv hr hS => ?_⟩
  have b1 := getD_both (mem_ready.1 hr).1
  have hlt : m1 < l.size := by rw [inv.size]; exact lt_of_ready hr
  have b2 : l.getD m2 false = false := by
    rw [Bool.or_eq_true, decide_eq_true_eq] at hd
    rcases hd with hd | hd
    · rw [← Bool.not_eq_true]
      exact fun h => not_both (mem_ready.1 hr).1 (waits_in inv h hd)
    · have : l.size ≤ m2 := by rw [inv.size]; exact hd
      simp [Array.getElem?_eq_none this]
  unfold S2 at hS
  rw [if_pos b1] at hS
  refine Hands.imp (g w hS) (fun w h => ?_)
  unfold S2
  have c1 : (l.setIfInBounds m1 true).getD m1 false = true := by simp [hlt]
  rw [if_neg (by rw [c1]; simp), getD_set_ne false (by simpa using hne), if_pos b2]
  exact h
/-- the second -/
theorem V_second {o : Oper} {v : Value} {a : Act} (hw : Region.wanted o (yielded ops a.tmps) = true) (hd : Region.waitsFor md ops m2 m1 = true) (hne : (m1 == m2) = false)
    (g : ∀ w, T1 w → Hands P T2 v ((execOp a.eval o).run P w)) : CarriesV P md ops (S2 m1 m2 T0 T1 T2) m2 o v a := by
  refine .inl ⟨hw, fun l w inv hr hS => ?_⟩
  have b1 := waits_of hr hd
  have b2 := getD_both (mem_ready.1 hr).1
  have hlt : m2 < l.size := by rw [inv.size]; exact lt_of_ready hr
  have hne' : m2 ≠ m1 := fun e => by simp [e] at hne
  unfold S2 at hS
  rw [if_neg (by rw [b1]; simp), if_pos b2] at hS
  refine Hands.imp (g w hS) (fun w h => ?_)
  unfold S2
  have c2 : (l.setIfInBounds m2 true).getD m2 false = true := by simp [hlt]
  rw [getD_set_ne false hne', if_neg (by rw [b1]; simp), if_neg (by rw [c2]; simp)]
  exact h
end
end Go.Proofs.YtdfdjampodkpgaaDoor
