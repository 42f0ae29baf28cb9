/- Days of work: a year's holidays, kept in the map. -/
import Derived.Test.YtjicpflgkhdppaaWorkDay
set_option linter.unusedSimpArgs false
set_option linter.unusedVariables false
namespace Go.Proofs.Ytjicpflgkhdppaa
open Go.RowKit
namespace Wk
open Dt
open Go.Maps (Keyed)
open Go.WideElems (Fit)
theorem pigeon : ∀ (n : Nat) (l : List Nat), l.Nodup → (∀ x ∈ l, x < n) → l.length ≤ n
  | 0, l, _, h => by
    cases l with
    | nil => simp
    | cons a l => have := h a (by simp); omega
  | n + 1, l, hd, h => by
    by_cases hn : n ∈ l
    · have h1 := pigeon n (l.erase n) (hd.erase n) (fun x hx => by
        have h2 := h x (List.mem_of_mem_erase hx)
        have h3 : x ≠ n := fun e => by subst e; exact (List.Nodup.not_mem_erase hd) hx
        omega)
      rw [List.length_erase_of_mem hn] at h1
      omega
    · have := pigeon n l hd (fun x hx => by
        have h2 := h x hx
        have h3 : x ≠ n := fun e => hn (e ▸ hx)
        omega)
      omega
theorem ents_room {es : Array MapEntry} {clock : Nat} (F : Fit (H := Unit) Try.prog 3 R0 es clock) (h : ∀ x ∈ es.toList, ∃ y : Int, x.key = .int .i64 y ∧ 0 ≤ y ∧ y ≤ 10000) : es.size ≤ 10001 := by
  have hp : es.toList.Pairwise (fun x y => x.key ≠ y.key) := ((MapKept.stamped_iff es clock).1 F.stamped).2.2
  have hd : (es.toList.map (fun x => (intOf x.key).toNat)).Nodup := by
    unfold List.Nodup
    rw [List.pairwise_map]
    refine hp.imp_of_mem (fun {a b} ha hb hne e => hne ?_)
    obtain ⟨y, h1, h2, h3⟩ := h a ha
    obtain ⟨z, g1, g2, g3⟩ := h b hb
    rw [h1, g1] at e ⊢
    simp only [intOf] at e
    have : y = z := by omega
    rw [this]
  have := pigeon 10001 _ hd (fun x hx => by
    obtain ⟨a, ha, rfl⟩ := List.mem_map.1 hx
    obtain ⟨y, h1, h2, h3⟩ := h a ha
    rw [h1]; simp only [intOf]; omega)
  simpa using this
theorem wf_year {y : Int} (h1 : 0 ≤ y) (h2 : y ≤ 10000) : (Lit.int .i64 y).wf = true := by
  simp [Lit.wf, IntKind.min, IntKind.max, IntKind.signed, IntKind.bits]; omega
theorem kY {y : Int} (h1 : 0 ≤ y) (h2 : y ≤ 10000) : keyOf Try.prog 3 (.int .i64 y) = some (.int .i64 y) := Maps.keyOf_int_mk Try.underlying3 (wf_year h1 h2)
theorem zeroL (w : World) : (zeroValue 26).run Try.prog w = .ok (.slice none 0 0) w := by kernel_rfl
section
variable {w : World} {M : Nat} {rest : List Bool} {rules : List Rl}
theorem ents_store (h : Ents w M rest rules) {y : Int} (h1 : 0 ≤ y) (h2 : y ≤ 10000) {u : Value} (hu : RdE elZ w u (hol rest rules y)) :
    ∃ w', (Instr.mapUpdate 85 (.map (some M)) (.int .i64 y) u).run Try.prog w = .ok () w' ∧ Ents w' M rest rules ∧ w.grownBy w' (some M) := by
  obtain ⟨es, clock, hM, F, he⟩ := h.ent
  have hroom := ents_room F (fun x hx => by obtain ⟨y, a, b, c, _⟩ := he x hx; exact ⟨y, a, b, c⟩)
  obtain ⟨es', clock', hrun, F', _, _, _, hwho⟩ := Maps.fit_store (R' := R0) (val := u) keyLaw Try.underlying85 hM F (by unfold maxLen; omega) (fun _ _ _ _ hz => hz) (kY h1 h2) (yv := (.nil, [])) rfl
  have hlt : M < w.heap.size := h.lt
  have hM' := ChangeMaps.heap_setBlock_same hM (.map es' clock')
  have hg : w.grownBy (ChangeMaps.setBlock w M (.map es' clock')) (some M) :=
    ⟨rfl, rfl, rfl, by simp [ChangeMaps.setBlock], fun i _ hi => ChangeMaps.heap_setBlock_other hM _ (fun e => hi (by rw [e]))⟩
  refine ⟨_, hrun, ⟨es', clock', hM', F', fun x hx => ?_⟩, hg⟩
  rcases hwho x hx with ⟨g1, g2⟩ | ⟨g1, g2⟩
  · obtain ⟨z, a, b, c, d⟩ := he x g1
    exact ⟨z, a, b, c, rd_turned d (fun _ => by simp [eI]) hM hg⟩
  · exact ⟨y, g1, h1, h2, by rw [g2]; exact rd_turned hu (fun _ => by simp [eI]) hM hg⟩
theorem ents_look (h : Ents w M rest rules) {y : Int} (h1 : 0 ≤ y) (h2 : y ≤ 10000) :
    (Instr.lookup 85 (.map (some M)) (.int .i64 y) true).run Try.prog w = .ok (.tuple #[.slice none 0 0, .bool false]) w ∨
    ∃ u, (Instr.lookup 85 (.map (some M)) (.int .i64 y) true).run Try.prog w = .ok (.tuple #[u, .bool true]) w ∧ RdE elZ w u (hol rest rules y) := by
  obtain ⟨es, clock, hM, F, he⟩ := h.ent
  rcases Maps.fit_look true keyLaw Try.underlying85 (zeroL w) hM F (kY h1 h2) with ⟨hrun, _, _⟩ | ⟨e0, z, hm, hk, hrun, _⟩
  · exact .inl hrun
  · refine .inr ⟨e0.val, hrun, ?_⟩
    obtain ⟨y', a, b, c, d⟩ := he e0 hm
    rw [hk] at a
    injection a with _ a
    subst a
    exact d
end
theorem days_succ (rest : List Bool) (rules : List Rl) (y : Int) (k : Nat) (h : k < rules.length) : days rest (rules.take (k + 1)) y = days rest (rules.take k) y ++ (if (dayF rest rules[k] y).2 = true then [(dayF rest rules[k] y).1] else []) := by
  unfold days dayF
  rw [List.take_succ_eq_append_getElem h, List.filterMap_append]
  congr 1
  cases hd : ruleD rest rules[k] y <;> simp [List.filterMap_cons, hd]
theorem rulesE_all : ∀ (l : List Rl), rulesE l = 0 → ∀ r ∈ l, ruleE r = 0
  | [], _, r, hr => by cases hr
  | a :: l, h, r, hr => by
    unfold rulesE at h
    by_cases c : ruleE a ≠ 0
    · rw [if_pos c] at h; exact absurd h c
    · rw [if_neg c] at h
      rcases List.mem_cons.1 hr with rfl | hr
      · exact Classical.byContradiction c
      · exact rulesE_all l h r hr
theorem Alm.grown {w w' : World} {A M : Nat} {rest : List Bool} {v : Value} {rules : List Rl} (h : Alm w A M rest v rules) (hg : w.grownBy w' (some M)) (he : Ents w' M rest rules) : Alm w' A M rest v rules := by
  obtain ⟨es, clock, hM, _⟩ := h.ents.ent
  have hne : A ≠ M := by
    intro e; subst e
    have := h.box
    unfold Box at this
    rw [hM] at this; cases this
  exact ⟨h.box.of_block (hg.block _ h.box.lt (by simpa using hne)), rd_turned h.rd (fun _ => by simp [eRl]) hM hg, he⟩
def OfAQ (A M : Nat) (rest : List Bool) (v : Value) (rules : List Rl) (xs : List Int) (w : World) (e : Ending) (w' : World) : Prop := ∃ u, e = .returned u ∧ RdE elZ w' u xs ∧ Alm w' A M rest v rules ∧ w.grownBy w' (some M)
set_option maxRecDepth 100000 in
set_option maxHeartbeats 4000000 in
theorem of_hit (A M : Nat) (rest : List Bool) (hr : rest.length = 7) (v : Value) (rules : List Rl) (y : Int) (w : World) (h : Alm w A M rest v rules) (a : Option Addr) (n c : Nat) (xs : List Int)
    (hu : RdE elZ w (.slice a n c) xs) (hrun : (Instr.lookup 85 (.map (some M)) (.int .i64 y) true).run Try.prog w = .ok (.tuple #[.slice a n c, .bool true]) w) : Calls Try.prog 37 #[pA A, .int .i64 y] w (OfAQ A M rest v rules xs w) := by
  have c8 := h.cell8 hr
  have HH := Lib.hid h; have HU := Lib.hid hu
  clear h hu
  go_enter Try.func37, Try.ntmps37
  go_wp2
  go_ret
  exact ⟨_, rfl, HU.out, HH.out, World.grownBy.refl _ _⟩
set_option maxRecDepth 100000 in
set_option maxHeartbeats 8000000 in
theorem of_miss (A M : Nat) (rest : List Bool) (hr : rest.length = 7) (hf : rest.all id = false) (v : Value) (rules : List Rl) (hE : rulesE rules = 0) (hl : rules.length ≤ 12) (y : Int) (h1 : 1 ≤ y) (h2 : y ≤ 9999) (w : World) (h : Alm w A M rest v rules)
    (hrun : (Instr.lookup 85 (.map (some M)) (.int .i64 y) true).run Try.prog w = .ok (.tuple #[.slice none 0 0, .bool false]) w) : Calls Try.prog 37 #[pA A, .int .i64 y] w (OfAQ A M rest v rules (hol rest rules y) w) := by
  have c8 := h.cell8 hr
  have c7 := h.cell7 hr
  have HH := Lib.hid h
  have HD := Lib.hid (fun (k : Nat) (hk : k < rules.length) w' (hb : Below w.heap.size w w') => day_any A M rest hr hf v rules rules[k] y (rulesE_all rules hE _ (List.getElem_mem hk)) w' (h.next hb) h1 h2)
  have HS := Lib.hid (days_succ rest rules y)
  obtain ⟨a, cap, rfl, g1, g2, g3⟩ := h.rd
  have H3 := Lib.hid g3
  have HBR := Lib.hid (br w)
  have HLN := Lib.hid (fun k => days_len rest (rules.take k) y)
  have HT : RowKit.Hid (hol rest rules y = cmpc (srt (days rest (rules.take rules.length) y))) := Lib.hid (by rw [List.take_length]; rfl)
  clear h g3 hE hf
  go_enter Try.func37, Try.ntmps37
  go_wp2
  go_loopw [7, 29] (fun s i wr => ∃ k : Nat, k ≤ rules.length ∧ i = .int .i64 k ∧ ROwn elZ wr w.heap.size s (days rest (rules.take k) y) ∧ Below w.heap.size w wr) (fun _ i _ => rules.length - (intOf i).toNat)
  case atStart => exact ⟨0, Nat.zero_le _, rfl, by simpa [days] using ROwn.nil _ _, HBR.out⟩
  case round =>
    obtain ⟨k, hk, rfl, hown, hbw⟩ := hrel
    have HBW := Lib.hid hbw; have HOWN := Lib.hid hown
    have hln := HLN.out k
    rw [List.length_take] at hln
    have hln2 : (days rest (rules.take k) y).length ≤ 12 := by omega
    clear hown hln
    by_cases hlt : k < rules.length
    · obtain ⟨g, off, rfl, hbl, hc⟩ := H3.out (by omega)
      obtain ⟨q0, q1, q2, q3⟩ := eRl_at hc k hlt
      have d0 := (hbw.cell (p := ⟨g, off + k * 4, none⟩) hbl).trans q0
      have d1 := (hbw.cell (p := ⟨g, off + k * 4 + 1, none⟩) hbl).trans q1
      have d2 := (hbw.cell (p := ⟨g, off + k * 4 + 2, none⟩) hbl).trans q2
      have d3 := (hbw.cell (p := ⟨g, off + k * 4 + 3, none⟩) hbl).trans q3
      have i1 : (k : Int) < (rules.length : Int) := by omega
      have i0 : (0 : Int) ≤ (k : Int) := by omega
      have HDK := Lib.hid (HD.out k hlt)
      have HSK := HS.out k hlt
      have HBA := Lib.hid (fun o => hbw.alloc (by have := hbw.size; exact this) o)
      clear hc q0 q1 q2 q3 hbw H3 HD HS HT HLN HBR hrun c8
      unfold DayR at HDK
      obtain ⟨r, hr'⟩ : ∃ r, rules[k] = r := ⟨_, rfl⟩
      rw [hr'] at d0 d1 d2 d3 HDK HSK
      clear hr'
      obtain ⟨F, hF⟩ : ∃ F, dayF rest r y = F := ⟨_, rfl⟩
      rw [hF] at HDK HSK
      clear hF
      obtain ⟨r0, r1, r2, r3⟩ := r
      obtain ⟨F1, F2⟩ := F
      simp only at d0 d1 d2 d3 HDK HSK
      obtain ⟨xs, hxs⟩ : ∃ xs, days rest (rules.take k) y = xs := ⟨_, rfl⟩
      rw [hxs] at HSK HOWN hln2
      clear hxs
      cases F2 with
      | true =>
        rw [if_pos rfl] at HSK
        have HSS := Lib.hid HSK
        clear HSK
        go_wp2_with fail
        refine (HDK.out _ (HBA.out _)).mono ?_
        rintro en w2 ⟨rfl, b2⟩
        have HB2 := Lib.hid (bt (HBA.out _) b2)
        have HO2 := Lib.hid (HOWN.out.next (bt ((br _).alloc (Nat.le_refl _) _) b2))
        clear b2 HBA
        go_wp2_with (at_builtin; refine appE elZ rfl (.tmp 41) (.tmp 43) rfl w.heap.size _ xs rfl (HO2.out.next ((br _).alloc (Nat.le_refl _) _)) _ [F1] rfl (rd_lit elZ [F1] _ _ _ _ rfl (by simp [maxLen])) (by simp only [List.length_cons, List.length_nil]; unfold maxLen; omega) (by show (xs.length + 1) * 8 ≤ _; omega) (by have := HB2.out.size; simp; omega) ?_; intro v9 w9 ho9 hb9 hf9; have HO9 := Lib.hid ho9; have HB9 := Lib.hid ((HB2.out.alloc HB2.out.size _).trans hb9); clear ho9 hb9 hf9)
        go_roundw
        case rel => exact ⟨k + 1, by omega, by first | rfl | go_num, by rw [HSS.out]; exact HO9.out, HB9.out⟩
        case measure => simp [intOf]; omega
      | false =>
        rw [if_neg (by simp), List.append_nil] at HSK
        have HSS := Lib.hid HSK
        clear HSK
        go_wp2_with fail
        refine (HDK.out _ (HBA.out _)).mono ?_
        rintro en w2 ⟨rfl, b2⟩
        have HB2 := Lib.hid (bt (HBA.out _) b2)
        have HO2 := Lib.hid (HOWN.out.next (bt ((br _).alloc (Nat.le_refl _) _) b2))
        clear b2 HBA
        go_wp2
        go_roundw
        case rel => exact ⟨k + 1, by omega, by first | rfl | go_num, by rw [HSS.out]; exact HO2.out, HB2.out⟩
        case measure => simp [intOf]; omega
    · have hkk : k = rules.length := by omega
      subst hkk
      have HTT := HT.out
      clear HD HS H3 HLN HBR HT hbw hrun c8 c7 hk hlt
      obtain ⟨xs, hxs⟩ : ∃ xs, days rest (rules.take rules.length) y = xs := ⟨_, rfl⟩
      rw [hxs] at HTT HOWN hln2
      clear hxs
      rw [HTT]
      have HTE := Lib.hid HTT
      clear HTT
      have hs12 : (srt xs).length ≤ 1000 := by rw [srt_len]; omega
      go_wp2_with fail
      refine (sort_own w.heap.size _ xs _ HOWN.out (by omega)).mono ?_
      rintro en w2 ⟨rfl, o2, b2⟩
      have HB2 := Lib.hid (HBW.out.trans b2)
      have HO2 := Lib.hid o2
      clear b2 o2
      go_wp2_with fail
      refine (comp_own w.heap.size _ (srt xs) _ HO2.out hs12).mono ?_
      rintro en w3 ⟨u, rfl, o3, b3⟩
      have hb3 := HB2.out.trans b3
      have hal := HH.out.next hb3
      have c8 := hal.cell8 hr
      obtain ⟨w4, hst, he4, hg4⟩ := ents_store hal.ents (y := y) (by omega) (by omega) (u := u) (by rw [HTE.out]; exact o3.rd)
      have HF : RowKit.Hid (RdE elZ w4 u (cmpc (srt xs)) ∧ Alm w4 A M rest (.slice a rules.length cap) rules ∧ w.grownBy w4 (some M)) := Lib.hid (by
        obtain ⟨es, clock, hM, _⟩ := hal.ents.ent
        refine ⟨rd_turned o3.rd (fun _ => by simp [eI]) hM hg4, hal.grown hg4 he4, ?_⟩
        exact ⟨hg4.os.trans hb3.os, hg4.tape.trans hb3.tape, hg4.output.trans hb3.output, Nat.le_trans hb3.size hg4.size, fun i hi hne => (hg4.block i (Nat.lt_of_lt_of_le hi hb3.size) hne).trans (hb3.block i hi)⟩)
      clear o3 b3 hb3 hal he4 hg4 HO2 HB2 HOWN HBW HH
      go_wp2
      go_ret
      exact ⟨_, rfl, by rw [HTE.out]; exact HF.out.1, HF.out.2⟩
theorem of_any (A M : Nat) (rest : List Bool) (hr : rest.length = 7) (hf : rest.all id = false) (v : Value) (rules : List Rl) (hE : rulesE rules = 0) (hl : rules.length ≤ 12) (y : Int) (h1 : 1 ≤ y) (h2 : y ≤ 9999) (w : World) (h : Alm w A M rest v rules) : Calls Try.prog 37 #[pA A, .int .i64 y] w (OfAQ A M rest v rules (hol rest rules y) w) := by
  rcases ents_look h.ents (y := y) (by omega) (by omega) with hrun | ⟨u, hrun, hu⟩
  · exact of_miss A M rest hr hf v rules hE hl y h1 h2 w h hrun
  · obtain ⟨a, cap, rfl, g1, g2, g3⟩ := hu
    exact of_hit A M rest hr v rules y w h a _ cap _ ⟨a, cap, rfl, g1, g2, g3⟩ hrun
end Wk
end Go.Proofs.Ytjicpflgkhdppaa
