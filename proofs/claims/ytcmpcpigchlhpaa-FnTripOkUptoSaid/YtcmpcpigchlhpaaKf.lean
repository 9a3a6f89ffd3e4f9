/- Rules are drawn: all of them; a rule that is ok. -/
import Derived.Test.YtcmpcpigchlhpaaKe

namespace Go.Proofs.Ytcmpcpigchlhpaa
set_option linter.unusedSectionVars false
open Go.Av
variable [Av.Start]
set_option maxRecDepth 10000
set_option maxHeartbeats 2000000
set_option linter.unusedSimpArgs false
set_option linter.unusedVariables false

/-- l14Rule, five less n deep, from every place on -/
def RuleFun (bs : List Int) (names : List (List UInt8)) (n : Nat) (F : Int → D × Int) : Prop := ∀ u, 0 ≤ u → Rd bs (u + 40 + ((B5 n : Nat) : Int)) → DrawsRule bs names n u (F u).1 (F u).2
theorem ruleFun_of {bs : List Int} {names : List (List UInt8)} {n : Nat} (h : ∀ u, 0 ≤ u → Rd bs (u + 40 + ((B5 n : Nat) : Int)) → ∃ d p', DrawsRule bs names n u d p') : ∃ F, RuleFun bs names n F := by
  have key : ∀ u : Int, ∃ x : D × Int, 0 ≤ u → Rd bs (u + 40 + ((B5 n : Nat) : Int)) → DrawsRule bs names n u x.1 x.2 := fun u => by
    by_cases hu : 0 ≤ u ∧ Rd bs (u + 40 + ((B5 n : Nat) : Int))
    · obtain ⟨d, p', hd⟩ := h u hu.1 hu.2
      exact ⟨(d, p'), fun _ _ => hd⟩
    · exact ⟨(.junk, 0), fun a b => absurd ⟨a, b⟩ hu⟩
  exact ⟨fun u => Classical.choose (key u), fun u a b => Classical.choose_spec (key u) a b⟩
theorem rule_ex (bs : List Int) (names : List (List UInt8)) (hn : ∀ s, s ∈ names → nameB s = true ∧ s.length ≤ 8) (h1 : 1 ≤ names.length) : ∀ n : Nat, n ≤ 4 → ∃ F, RuleFun bs names n F
  | 0, _ => ruleFun_of fun u hu H => by
    have hh := H.hi
    by_cases hz : pickV bs u 2 = 0
    · exact ⟨_, _, leaf_name bs names hn h1 0 u u hu (H.up (by omega) (by omega)) (.inl ⟨rfl, rfl⟩) hz⟩
    · exact ⟨_, _, leaf_num bs names 0 u u hu (H.up (by omega) (by omega)) (.inl ⟨rfl, rfl⟩) hz⟩
  | n + 1, h4 => by
    obtain ⟨F, hF⟩ := rule_ex bs names hn h1 n (by omega)
    refine ruleFun_of fun u hu H => ?_
    have hh := H.hi
    by_cases hz3 : pickV bs u 3 = 0
    · by_cases hz : pickV bs (u + 1) 2 = 0
      · exact ⟨_, _, leaf_name bs names hn h1 (n + 1) u (u + 1) hu (H.up (by omega) (by omega)) (.inr ⟨rfl, by omega, h4, hz3⟩) hz⟩
      · exact ⟨_, _, leaf_num bs names (n + 1) u (u + 1) hu (H.up (by omega) (by omega)) (.inr ⟨rfl, by omega, h4, hz3⟩) hz⟩
    · exact node_ex hu H h4 hz3 hF
omit [Av.Start] in
theorem RuleD.up : ∀ {n : Nat} {d : D}, RuleD n d → RuleD (n + 1) d
  | 0, d, ⟨op, num, name, h, e⟩ => .inl ⟨op, num, name, h, e⟩
  | n + 1, d, .inl h => .inl h
  | n + 1, d, .inr ⟨op, kids, ms, h, hk, e⟩ => .inr ⟨op, kids, ms, h, fun k hk' => (hk k hk').up, e⟩
/-- one try of l14Small: the rule, the place behind -/
theorem try_ex (bs : List Int) (names : List (List UInt8)) (hn : ∀ s, s ∈ names → nameB s = true ∧ s.length ≤ 8) (h1 : 1 ≤ names.length) : ∃ G : Int → D × Int, ∀ u, 0 ≤ u → Rd bs (u + 41 + ((B5 4 : Nat) : Int)) → RuleD 4 (G u).1 ∧ u ≤ (G u).2 ∧ (G u).2 ≤ u + 1 + ((B5 4 : Nat) : Int) ∧
    ∀ (r : Nat) (h : Hp), ob h r = .row (rdC bs (u + 1)) → r < h.length → Meets Try.prog 83 [.ptr r 0, .int .i64 (1 + pickV bs u 3), .slice (names.map .str) .no] h fun d' h' => d' = (G u).1 ∧ h' = h.set r (.row (rdC bs (G u).2)) := by
  obtain ⟨F4, h4⟩ := rule_ex bs names hn h1 4 (by omega)
  obtain ⟨F3, h3⟩ := rule_ex bs names hn h1 3 (by omega)
  obtain ⟨F2, h2⟩ := rule_ex bs names hn h1 2 (by omega)
  have e2 : B5 2 = 750 := rfl
  have e3 : B5 3 = 3750 := rfl
  have e4 : B5 4 = 18750 := rfl
  refine ⟨fun u => if pickV bs u 3 = 0 then F4 (u + 1) else if pickV bs u 3 = 1 then F3 (u + 1) else F2 (u + 1), fun u hu H => ?_⟩
  have hh := H.hi
  have v := pickV_range (p := u) (H.up (by omega) (by omega)) 3 (by omega)
  by_cases c0 : pickV bs u 3 = 0
  · simp only [c0, if_true]
    obtain ⟨a1, a2, a3, a4⟩ := h4 (u + 1) (by omega) (H.up (by omega) (by omega))
    exact ⟨a1, by omega, by omega, a4⟩
  · by_cases c1 : pickV bs u 3 = 1
    · simp only [if_neg c0, if_pos c1]
      rw [c1]
      obtain ⟨a1, a2, a3, a4⟩ := h3 (u + 1) (by omega) (H.up (by omega) (by omega))
      exact ⟨a1.up, by omega, by omega, a4⟩
    · have c2 : pickV bs u 3 = 2 := by omega
      simp only [if_neg c0, if_neg c1]
      rw [c2]
      obtain ⟨a1, a2, a3, a4⟩ := h2 (u + 1) (by omega) (H.up (by omega) (by omega))
      exact ⟨a1.up.up, by omega, by omega, a4⟩
end Go.Proofs.Ytcmpcpigchlhpaa

/- Rules are drawn: a rule that is ok. -/
namespace Go.Proofs.Ytcmpcpigchlhpaa
set_option linter.unusedSectionVars false
open Go.Av
variable [Av.Start]
set_option maxRecDepth 10000
set_option maxHeartbeats 2000000
set_option linter.unusedSimpArgs false
set_option linter.unusedVariables false

theorem meets_wk {P : Program} {f : FuncId} {ys xs : List D} {h : Hp} {Q : D → Hp → Prop} (H : Meets P f xs h Q) (hw : WkL ys xs) : Meets P f ys h Q := ⟨H.1, fun w σ vs hi hr => H.2 w σ vs hi (hr.wk hw)⟩
def smallGo (G : Int → D × Int) (ok : D → Bool) (leaf : D) : Nat → Int → D × Int
  | 0, p => (leaf, p)
  | f + 1, p => if ok (G p).1 then G p else smallGo G ok leaf f (G p).2
theorem smallGo_ok {bs : List Int} {G : Int → D × Int} {ok : D → Bool} {leaf : D} (hl : RuleD 4 leaf) (hG : ∀ u, 0 ≤ u → Rd bs (u + 41 + ((B5 4 : Nat) : Int)) → RuleD 4 (G u).1 ∧ u ≤ (G u).2 ∧ (G u).2 ≤ u + 1 + ((B5 4 : Nat) : Int)) :
    ∀ (f : Nat) (u : Int), f ≤ 4 → 0 ≤ u → Rd bs (u + 80000) → RuleD 4 (smallGo G ok leaf f u).1 ∧ u ≤ (smallGo G ok leaf f u).2 ∧ (f = 4 → (smallGo G ok leaf f u).2 ≤ u + 75004) := by
  have e4 : B5 4 = 18750 := rfl
  have key : ∀ (f : Nat) (u b : Int), f ≤ 4 → 0 ≤ u → u ≤ b + ((4 - f : Nat) : Int) * 18751 → Rd bs (b + 80000) → RuleD 4 (smallGo G ok leaf f u).1 ∧ u ≤ (smallGo G ok leaf f u).2 ∧ (smallGo G ok leaf f u).2 ≤ b + 75004 := by
    intro f
    induction f with
    | zero =>
      intro u b _ hu hb H
      rw [smallGo]
      exact ⟨hl, Int.le_refl _, by omega⟩
    | succ f ih =>
      intro u b hf hu hb H
      have hh := H.hi
      obtain ⟨a1, a2, a3⟩ := hG u hu (H.up (by omega) (by omega))
      rw [smallGo]
      split
      · exact ⟨a1, a2, by omega⟩
      · obtain ⟨c1, c2, c3⟩ := ih (G u).2 b (by omega) (by omega) (by omega) H
        exact ⟨c1, by omega, c3⟩
  intro f u hf hu H
  by_cases h4 : f = 4
  · subst h4
    obtain ⟨c1, c2, c3⟩ := key 4 u u (by omega) hu (by omega) H
    exact ⟨c1, c2, fun _ => c3⟩
  · have hh := H.hi
    have : RuleD 4 (smallGo G ok leaf f u).1 ∧ u ≤ (smallGo G ok leaf f u).2 := by
      clear key
      have key2 : ∀ (f : Nat) (u : Int), 0 ≤ u → u + (f : Int) * 18751 + 18800 ≤ 1000000000 → Rd bs 0 → RuleD 4 (smallGo G ok leaf f u).1 ∧ u ≤ (smallGo G ok leaf f u).2 := by
        intro f
        induction f with
        | zero =>
          intro u hu _ _
          rw [smallGo]
          exact ⟨hl, Int.le_refl _⟩
        | succ f ih =>
          intro u hu hb H
          obtain ⟨a1, a2, a3⟩ := hG u hu ⟨H.byte, H.len, by omega, by push_cast at hb; omega⟩
          rw [smallGo]
          split
          · exact ⟨a1, a2⟩
          · obtain ⟨c1, c2⟩ := ih (G u).2 (by omega) (by push_cast at hb; omega) H
            exact ⟨c1, by omega⟩
      exact key2 f u hu (by omega) (H.up (by omega) (by omega))
    exact ⟨this.1, this.2, fun e => absurd e h4⟩
theorem small_ex (bs : List Int) (names : List (List UInt8)) (hn : ∀ s, s ∈ names → nameB s = true ∧ s.length ≤ 8) (h1 : 1 ≤ names.length) (p : Int) (hp0 : 0 ≤ p) (H : Rd bs (p + 80000)) : ∃ d p', RuleD 4 d ∧ p ≤ p' ∧ p' ≤ p + 75004 ∧
    ∀ (r : Nat) (h : Hp), ob h r = .row (rdC bs p) → r < h.length → Meets Try.prog 51 [.ptr r 0, .slice (names.map .str) .no] h fun d' h' => d' = d ∧ h' = h.set r (.row (rdC bs p')) := by
  have hhi := H.hi
  have e4 : B5 4 = 18750 := rfl
  obtain ⟨G, hG⟩ := try_ex bs names hn h1
  obtain ⟨ok, hok⟩ : ∃ ok : D → Bool, ∀ d, RuleD 4 d → ∀ h, Gives Try.prog 81 [d] h (.bool (ok d)) := by
    have key : ∀ d : D, ∃ b : Bool, RuleD 4 d → ∀ h, Gives Try.prog 81 [d] h (.bool b) := fun d => by
      by_cases hd : RuleD 4 d
      · obtain ⟨b, hb⟩ := ruleOk_ex 4 d (by omega) hd
        exact ⟨b, fun _ => hb⟩
      · exact ⟨false, fun e => absurd e hd⟩
    exact ⟨fun d => Classical.choose (key d), fun d => Classical.choose_spec (key d)⟩
  have hmem : names.getD 0 [] ∈ names := by
    rw [List.getD_eq_getElem?_getD, List.getElem?_eq_getElem (by omega)]
    exact List.getElem_mem _
  have hN := hn _ hmem
  have hleaf : RuleD 4 (ruD 2 0 (names.getD 0 []) [] []) := .inl ⟨2, 0, _, .inr ⟨rfl, rfl, hN.1, hN.2⟩, rfl⟩
  have hV := smallGo_ok (ok := ok) hleaf (fun u a b => ⟨(hG u a b).1, (hG u a b).2.1, (hG u a b).2.2.1⟩) 4 p (by omega) hp0 H
  obtain ⟨V, hVe⟩ : ∃ V, smallGo G ok (ruD 2 0 (names.getD 0 []) [] []) 4 p = V := ⟨_, rfl⟩
  rw [hVe] at hV
  refine ⟨V.1, V.2, hV.1, hV.2.1, hV.2.2 rfl, fun r h hr hrl => ?_⟩
  obtain ⟨r1, r2, r3, r4, r5, r6, r7, r8, r9⟩ := rdf hrl
  have r4' := fun ls => (r4 ls).trans hr
  have hln : ∀ x ls, r < (h.set r x ++ ls).length := fun x ls => by rw [List.length_append, List.length_set]; omega
  have h0L : (0 ≤ lenMax) = True := eq_true (Nat.zero_le _)
  have hset : h.set r (.row (rdC bs p)) = h := by
    refine List.ext_getElem? fun i => ?_
    by_cases e : i = r
    · subst e
      rw [List.getElem?_set_self hrl]
      exact (ob_some hr).symm
    · rw [List.getElem?_set_ne (fun e' => e e'.symm)]
  have hset2 : ∀ ls : Hp, h ++ ls = h.set r (.row (rdC bs p)) ++ ls := fun ls => by rw [hset]
  refine meets_ofC [] mixed Try.func51 rfl (by kernel_rfl) (by kernel_rfl) (by rw [Try.ntmps51]; simp only [List.length_cons, List.length_nil]; omega) (fun hf hcl => ?_)
  rw [Try.results51]
  clear hf
  try simp -implicitDefEqProofs only [h0L, push_cast, Nat.reduceEqDiff, Nat.reduceBEq, Nat.reduceBNe, Nat.reduceAdd, Nat.reduceMul, Nat.reduceLT, Nat.reduceLeDiff, Nat.reduceSub, reduceCtorEq, Int.reduceToNat, ↓reduceIte]
  repeat'
    (first
     | (refine uYes ?_; first | exact List.mem_cons_self | (simp only [List.mem_cons, List.not_mem_nil, or_false, true_or, or_true]; done))
     | (refine uNo (by kernel_rfl))
     | (refine flatMk ?_; kernel_rfl)
     | (refine And.intro ?_ ?_)
     | (intro hx)
     | ((first
         | (refine callGF ?_)
         | (refine callQGF ?_)
         | (refine skipG ?_)
         | (refine callS (in_gives _ _ _ _) ?_)
         | (refine callQ (in_gives _ _ _ _) ?_)
         | (refine callG (fun hc => (in_gives _ _ _ _)) ?_)
         | (refine callQG (fun hc => (in_gives _ _ _ _)) ?_)); simp -implicitDefEqProofs only [h0L, push_cast, Nat.reduceEqDiff, Nat.reduceBEq, Nat.reduceBNe, Nat.reduceAdd, Nat.reduceMul, Nat.reduceLT, Nat.reduceLeDiff, Nat.reduceSub, reduceCtorEq, Int.reduceToNat, ↓reduceIte]))
  rw [hset2]
  refine ev_loopT r (fun s : Nat × Int => [(0, .ptr r 0), (1, .slice (names.map .str) .no), (4, .ptr h.length 0), (5, .int .i64 s.1)]) (fun s => rdC bs s.2)
    (fun _ => [.row [.int .i64 0, .int .i64 0, .str [], .slice [] .full, .slice [] .full]]) (fun s => s.1 ≤ 4 ∧ p ≤ s.2 ∧ s.2 ≤ p + s.1 * 18751 ∧ smallGo G ok (ruD 2 0 (names.getD 0 []) [] []) (4 - s.1) s.2 = V) (fun s => 4 - s.1) (0, p) ⟨by simp, by simp, by simp, hVe⟩ ?_ ?_
  · refine ⟨⟨_, rfl, Nat.le_refl _, List.take_length⟩, Nat.le_refl _, ?_, rdC_cl _ _ _, ?_⟩
    · intro x hx
      rw [List.mem_singleton.1 hx]
      simp -implicitDefEqProofs only [Int.natCast_add, Int.cast_ofNat_Int, List.length_nil, Nat.le_refl, WeakTo, tokSts, tokOks, List.append_cancel_left_eq, exists_eq_left', exists_eq_left, List.append_cancel_left_eq, List.take_length, ObCl, and_true, true_and, push_cast, Nat.reduceEqDiff, Nat.reduceBEq, Nat.reduceBNe, Nat.reduceAdd, Nat.reduceMul, Nat.reduceLT, Nat.reduceLeDiff, Nat.reduceSub, reduceCtorEq, Int.reduceToNat, ↓reduceIte]
    · simp -implicitDefEqProofs only [SlotsOk, Int.natCast_add, Int.cast_ofNat_Int, List.length_nil, Nat.le_refl, WeakTo, tokSts, tokOks, List.append_cancel_left_eq, exists_eq_left', exists_eq_left, List.append_cancel_left_eq, List.take_length, ObCl, and_true, true_and, push_cast, Nat.reduceEqDiff, Nat.reduceBEq, Nat.reduceBNe, Nat.reduceAdd, Nat.reduceMul, Nat.reduceLT, Nat.reduceLeDiff, Nat.reduceSub, reduceCtorEq, Int.reduceToNat, ↓reduceIte]
      omega
  · rintro ⟨k, q⟩ ⟨k1, k2, k3, k4⟩
    simp only at k1 k2 k3 k4
    simp only
    by_cases hlt : k < 4
    · obtain ⟨g1, g2, g3, g4⟩ := hG q (by omega) (H.up (by omega) (by omega))
      have hc : decide ((k : Int) < 4) = true := decide_eq_true (by omega)
      have v := pickV_range (p := q) (H.up (by omega) (by omega)) 3 (by omega)
      have w1 : IntKind.i64.wrap (1 + pickV bs q 3) = 1 + pickV bs q 3 := wrap_id (by omega) (by omega)
      have w3 : IntKind.i64.wrap ((k : Int) + 1) = ((k + 1 : Nat) : Int) := by rw [wrap_id (by omega) (by omega)]; omega
      obtain ⟨f, hf4⟩ : ∃ f, 4 - k = f + 1 := ⟨3 - k, by omega⟩
      rw [hf4, smallGo] at k4
      have ho := hok _ g1
      obtain ⟨op', num', name', kids', ms', e', _⟩ := g1.p
      rw [e'] at ho g4 k4
      generalize G q = Gq at g2 g3 g4 k4 e'
      cases hb : ok (ruD op' num' name' kids' ms') with
      | true =>
        rw [hb] at ho k4
        rw [ruD] at ho g4
        rw [if_pos rfl] at k4
        subst k4
        simp only [e', ruD]
        try simp -implicitDefEqProofs only [hc, w1, w3, h0L, r1, r2, r5, r6, r7, r8, List.length_set, List.set_set, push_cast, Nat.reduceEqDiff, Nat.reduceBEq, Nat.reduceBNe, Nat.reduceAdd, Nat.reduceMul, Nat.reduceLT, Nat.reduceLeDiff, Nat.reduceSub, reduceCtorEq, Int.reduceToNat, ↓reduceIte]
        repeat'
          (first
           | (refine uYes ?_; first | exact List.mem_cons_self | (simp only [List.mem_cons, List.not_mem_nil, or_false, true_or, or_true]; done))
           | (refine uNo (by kernel_rfl))
           | (refine flatMk ?_; kernel_rfl)
           | (refine And.intro ?_ ?_)
           | (intro hx)
           | ((first
               | (refine callGF ?_)
               | (refine callQGF ?_)
               | (refine skipG ?_)
               | (refine callM (dst := some 13) (pick_gives bs _ _ r _ (r3 _ _) (hln _ _) (H.up (by omega) (by omega))) ?_)
               | (refine callM (dst := some 16) (g4 r _ (r3 _ _) (hln _ _)) ?_)
               | (refine callS (ho _) ?_)
               | (refine callQ (ho _) ?_)
               | (refine callG (fun hc => (ho _)) ?_)
               | (refine callQG (fun hc => (ho _)) ?_)); simp -implicitDefEqProofs only [hc, w1, w3, h0L, r1, r2, r5, r6, r7, r8, List.length_set, List.set_set, push_cast, Nat.reduceEqDiff, Nat.reduceBEq, Nat.reduceBNe, Nat.reduceAdd, Nat.reduceMul, Nat.reduceLT, Nat.reduceLeDiff, Nat.reduceSub, reduceCtorEq, Int.reduceToNat, ↓reduceIte]))
        all_goals first
          | omega
          | (simp only [lenMax]; omega)
          | exact back_rd hrl _ _ _
          | trace_state
      | false =>
        rw [hb] at ho k4
        rw [ruD] at ho g4
        rw [if_neg Bool.false_ne_true] at k4
        try simp -implicitDefEqProofs only [hc, w1, w3, h0L, r1, r2, r5, r6, r7, r8, List.length_set, List.set_set, push_cast, Nat.reduceEqDiff, Nat.reduceBEq, Nat.reduceBNe, Nat.reduceAdd, Nat.reduceMul, Nat.reduceLT, Nat.reduceLeDiff, Nat.reduceSub, reduceCtorEq, Int.reduceToNat, ↓reduceIte]
        repeat'
          (first
           | (refine uYes ?_; first | exact List.mem_cons_self | (simp only [List.mem_cons, List.not_mem_nil, or_false, true_or, or_true]; done))
           | (refine uNo (by kernel_rfl))
           | (refine flatMk ?_; kernel_rfl)
           | (refine And.intro ?_ ?_)
           | (intro hx)
           | ((first
               | (refine callGF ?_)
               | (refine callQGF ?_)
               | (refine skipG ?_)
               | (refine callM (dst := some 13) (pick_gives bs _ _ r _ (r3 _ _) (hln _ _) (H.up (by omega) (by omega))) ?_)
               | (refine callM (dst := some 16) (g4 r _ (r3 _ _) (hln _ _)) ?_)
               | (refine callS (ho _) ?_)
               | (refine callQ (ho _) ?_)
               | (refine callG (fun hc => (ho _)) ?_)
               | (refine callQG (fun hc => (ho _)) ?_)); simp -implicitDefEqProofs only [hc, w1, w3, h0L, r1, r2, r5, r6, r7, r8, List.length_set, List.set_set, push_cast, Nat.reduceEqDiff, Nat.reduceBEq, Nat.reduceBNe, Nat.reduceAdd, Nat.reduceMul, Nat.reduceLT, Nat.reduceLeDiff, Nat.reduceSub, reduceCtorEq, Int.reduceToNat, ↓reduceIte]))
        all_goals first
          | omega
          | (simp only [lenMax]; omega)
          | skip
        have hf3 : 4 - (k + 1) = f := by omega
        refine round_mkT (k + 1, Gq.2) ⟨by omega, by omega, by simp only; push_cast; omega, by simp only [hf3]; exact k4⟩ (by simp only; omega) ⟨⟨_, rfl, by simp, rfl⟩, by simp, ?_, rdC_cl _ _ _, ?_⟩
        · intro x hx
          rw [List.mem_singleton.1 hx]
          simp -implicitDefEqProofs only [Int.natCast_add, Int.cast_ofNat_Int, List.length_nil, Nat.le_refl, WeakTo, tokSts, tokOks, List.append_cancel_left_eq, exists_eq_left', exists_eq_left, List.append_cancel_left_eq, List.take_length, ObCl, and_true, true_and, push_cast, Nat.reduceEqDiff, Nat.reduceBEq, Nat.reduceBNe, Nat.reduceAdd, Nat.reduceMul, Nat.reduceLT, Nat.reduceLeDiff, Nat.reduceSub, reduceCtorEq, Int.reduceToNat, ↓reduceIte]
        · simp -implicitDefEqProofs only [SlotsOk, Int.natCast_add, Int.cast_ofNat_Int, List.length_nil, Nat.le_refl, WeakTo, tokSts, tokOks, List.append_cancel_left_eq, exists_eq_left', exists_eq_left, List.append_cancel_left_eq, List.take_length, ObCl, and_true, true_and, push_cast, Nat.reduceEqDiff, Nat.reduceBEq, Nat.reduceBNe, Nat.reduceAdd, Nat.reduceMul, Nat.reduceLT, Nat.reduceLeDiff, Nat.reduceSub, reduceCtorEq, Int.reduceToNat, ↓reduceIte]
          omega
    · obtain rfl : k = 4 := by omega
      have hc : decide (((4 : Nat) : Int) < 4) = false := decide_eq_false (by omega)
      have hnl : 0 < names.length := h1
      have hge : ∀ z, (names.map D.str).getD 0 z = .str (names.getD 0 []) := fun z => by
        rw [List.getD_eq_getElem?_getD, List.getElem?_map, List.getElem?_eq_getElem h1, List.getD_eq_getElem?_getD, List.getElem?_eq_getElem h1]
        rfl
      rw [Nat.sub_self, smallGo] at k4
      subst k4
      simp only [ruD]
      try simp -implicitDefEqProofs only [hc, hge, hnl, h0L, r1, r2, r5, r6, r7, r8, List.length_set, List.set_set, push_cast, Nat.reduceEqDiff, Nat.reduceBEq, Nat.reduceBNe, Nat.reduceAdd, Nat.reduceMul, Nat.reduceLT, Nat.reduceLeDiff, Nat.reduceSub, reduceCtorEq, Int.reduceToNat, ↓reduceIte]
      repeat'
        (first
         | (refine uYes ?_; first | exact List.mem_cons_self | (simp only [List.mem_cons, List.not_mem_nil, or_false, true_or, or_true]; done))
         | (refine uNo (by kernel_rfl))
         | (refine flatMk ?_; kernel_rfl)
         | (refine And.intro ?_ ?_)
         | (intro hx)
         | ((first
             | (refine callGF ?_)
             | (refine callQGF ?_)
             | (refine skipG ?_)
             | (refine callS (in_gives _ _ _ _) ?_)
             | (refine callQ (in_gives _ _ _ _) ?_)
             | (refine callG (fun hc => (in_gives _ _ _ _)) ?_)
             | (refine callQG (fun hc => (in_gives _ _ _ _)) ?_)); simp -implicitDefEqProofs only [hc, hge, hnl, h0L, r1, r2, r5, r6, r7, r8, List.length_set, List.set_set, push_cast, Nat.reduceEqDiff, Nat.reduceBEq, Nat.reduceBNe, Nat.reduceAdd, Nat.reduceMul, Nat.reduceLT, Nat.reduceLeDiff, Nat.reduceSub, reduceCtorEq, Int.reduceToNat, ↓reduceIte]))
      all_goals first
        | omega
        | (simp only [lenMax]; omega)
        | exact back_rd hrl _ _ _
        | trace_state
end Go.Proofs.Ytcmpcpigchlhpaa

/- Fares are drawn. -/
namespace Go.Proofs.Ytcmpcpigchlhpaa
set_option linter.unusedSectionVars false
open Go.Av
variable [Av.Start]
set_option maxRecDepth 10000
set_option maxHeartbeats 2000000
set_option linter.unusedSimpArgs false
set_option linter.unusedVariables false

structure Far where
  name : List UInt8
  cls : Int
  rule : List UInt8
instance : Inhabited Far := ⟨⟨[], 0, []⟩⟩
def Far.cs (f : Far) : List D := [.str f.name, .int .i64 f.cls, .str f.rule]
def Far.d (f : Far) : D := .agg f.cs
omit [Av.Start] in
theorem allSz_fars (xs : List Far) : AllSz 3 (xs.map Far.d) ↔ True := allSz_map 3 _ xs (fun _ => rfl)
attribute [push_cast] Far.cs Far.d allSz_fars
omit [Av.Start] in
theorem far_at {xs : List Far} {k : Nat} (h : k < xs.length) : (xs.map Far.d).getD k (.agg [.str [], .int .i64 0, .str []]) = .agg [.str (xs.getD k default).name, .int .i64 (xs.getD k default).cls, .str (xs.getD k default).rule] := getD_at default h
theorem fares2 (bs : List Int) (q : Int) (hq0 : 0 ≤ q) (H : Rd bs (q + 80010)) : ∃ (op num : Int) (name : List UInt8) (kids : List D) (ms : List Mrk) (s : List UInt8) (p' : Int), q + 1 + 1 ≤ p' ∧ p' ≤ q + 75006 ∧
    (∀ (r : Nat) (g : Hp), ob g r = .row (rdC bs (q + 1 + 1)) → r < g.length → Meets Try.prog 51 [.ptr r 0, .slice [.str [108, 101, 103, 115], .str [115, 101, 97, 116, 115], .str [116, 105, 109, 101]] .full] g fun d' h' => d' = .agg [.int .i64 op, .int .i64 num, .str name, .slice kids .no, .slice (ms.map Mrk.d) .no] ∧ h' = g.set r (.row (rdC bs p'))) ∧
    ∀ g, Gives Try.prog 50 [.agg [.int .i64 op, .int .i64 num, .str name, .slice kids .no, .slice (ms.map Mrk.d) .no]] g (.str s) := by
  have hh := H.hi
  obtain ⟨d, p', a1, a2, a3, a4⟩ := small_ex bs [[108, 101, 103, 115], [115, 101, 97, 116, 115], [116, 105, 109, 101]] (by
    intro s hs
    simp only [List.mem_cons, List.not_mem_nil, or_false] at hs
    rcases hs with rfl | rfl | rfl <;> exact ⟨by decide, by decide⟩) (by decide) (q + 1 + 1) (by omega) (H.up (by omega) (by omega))
  obtain ⟨s, _, hs⟩ := ruleWrite_ex 4 d (by omega) a1
  obtain ⟨op, num, name, kids, ms, rfl, _⟩ := a1.p
  rw [ruD] at hs
  refine ⟨op, num, name, kids, ms, s, p', a2, by omega, fun r g hr hrl => meets_wk (a4 r g hr hrl) ?_, hs⟩
  simp -implicitDefEqProofs only [WkL, Int.natCast_add, Int.cast_ofNat_Int, List.length_nil, Nat.le_refl, WeakTo, tokSts, tokOks, List.append_cancel_left_eq, exists_eq_left', exists_eq_left, List.append_cancel_left_eq, List.take_length, ObCl, and_true, true_and, push_cast, Nat.reduceEqDiff, Nat.reduceBEq, Nat.reduceBNe, Nat.reduceAdd, Nat.reduceMul, Nat.reduceLT, Nat.reduceLeDiff, Nat.reduceSub, reduceCtorEq, Int.reduceToNat, ↓reduceIte]
def lowR : List (List UInt8) := [[49, 48, 48], [97, 100, 100, 40, 53, 48, 44, 109, 117, 108, 40, 116, 105, 109, 101, 44, 49, 48, 41, 41], [112, 97, 114, 116, 40, 49, 48, 48, 48, 44, 115, 101, 97, 116, 115, 44, 51, 41], [116, 105, 101, 114, 115, 40, 116, 105, 109, 101, 59, 48, 58, 51, 48, 44, 53, 58, 49, 48, 41]]
theorem l14Fares_ex (bs : List Int) (p : Int) (hp0 : 0 ≤ p) (H : Rd bs (p + 90000)) : ∃ (fs : List Far) (p' : Int), 1 ≤ fs.length ∧ fs.length ≤ 3 ∧ p ≤ p' ∧ p' ≤ p + 75020 ∧
    ∀ (r : Nat) (h : Hp), ob h r = .row (rdC bs p) → r < h.length → Meets Try.prog 22 [.ptr r 0] h fun d' h' => d' = .slice (fs.map Far.d) .no ∧ h' = h.set r (.row (rdC bs p')) := by
  have hhi := H.hi
  have h0L : ∀ k, k ≤ 64 → (k ≤ lenMax) = True := fun k hk => eq_true (Nat.le_trans hk (by simp [lenMax]))
  have v0 := pickV_range (p := p) (H.up (by omega) (by omega)) 3 (by omega)
  obtain ⟨f0, hf0⟩ : ∃ f0 : Far, f0 = ⟨[102, 117, 108, 108], 0, [109, 117, 108, 40, 108, 101, 103, 115, 44, 53, 48, 48, 41]⟩ := ⟨_, rfl⟩
  by_cases c1 : 0 < pickV bs p 3
  · have v1 := pickV_range (p := p + 1) (H.up (by omega) (by omega)) 2 (by omega)
    have w1 : IntKind.i64.wrap (1 + pickV bs (p + 1) 2) = 1 + pickV bs (p + 1) 2 := wrap_id (by omega) (by omega)
    have hc1 : decide (0 < pickV bs p 3) = true := decide_eq_true c1
    have hO := fun r g q1 q2 => of_gives bs (p + 1 + 1) lowR .full r g q1 q2 (H.up (by omega) (by omega)) (by decide)
    simp only [show lowR.length = 4 from rfl] at hO
    generalize lowR.getD (pickV bs (p + 1 + 1) ((4 : Nat) : Int)).toNat [] = nm at hO
    simp only [lowR, List.map_cons, List.map_nil] at hO
    by_cases c2 : pickV bs (p + 1 + 1 + 1) 3 = 0
    · have v3 := pickV_range (p := p + 1 + 1 + 1 + 1) (H.up (by omega) (by omega)) 3 (by omega)
      obtain ⟨op, num, name, kids, ms, s, p', a1, a2, a3, a4⟩ := fares2 bs (p + 1 + 1 + 1) (by omega) (H.up (by omega) (by omega))
      have hc2 : decide (pickV bs (p + 1 + 1 + 1) 3 = 0) = true := decide_eq_true c2
      refine ⟨[⟨[102, 117, 108, 108], 0, [109, 117, 108, 40, 108, 101, 103, 115, 44, 53, 48, 48, 41]⟩, ⟨[108, 111, 119], 1 + pickV bs (p + 1) 2, nm⟩, ⟨[111, 100, 100], pickV bs (p + 1 + 1 + 1 + 1) 3, s⟩], p', by simp, by simp, by omega, by omega, fun r h hr hrl => ?_⟩
      obtain ⟨r1, r2, r3, r4, r5, r6, r7, r8, r9⟩ := rdf hrl
      have r4' := fun ls => (r4 ls).trans hr
      have hln : ∀ x ls, r < (h.set r x ++ ls).length := fun x ls => by rw [List.length_append, List.length_set]; omega
      refine meets_ofC [] mixed Try.func22 rfl (by kernel_rfl) (by kernel_rfl) (by rw [Try.ntmps22]; simp only [List.length_cons, List.length_nil]; omega) (fun hf hcl => ?_)
      rw [Try.results22]
      clear hf
      try simp -implicitDefEqProofs only [hc1, hc2, w1, h0L, r1, r2, r5, r6, r7, r8, List.length_set, List.set_set, push_cast, Nat.reduceEqDiff, Nat.reduceBEq, Nat.reduceBNe, Nat.reduceAdd, Nat.reduceMul, Nat.reduceLT, Nat.reduceLeDiff, Nat.reduceSub, reduceCtorEq, Int.reduceToNat, ↓reduceIte]
      repeat'
        (first
         | (refine uYes ?_; first | exact List.mem_cons_self | (simp only [List.mem_cons, List.not_mem_nil, or_false, true_or, or_true]; done))
         | (refine uNo (by kernel_rfl))
         | (refine flatMk ?_; kernel_rfl)
         | (refine And.intro ?_ ?_)
         | (intro hx)
         | ((first
             | (refine callGF ?_)
             | (refine callQGF ?_)
             | (refine skipG ?_)
             | (refine callM (dst := some 7) (pick_gives bs _ _ r _ hr hrl (H.up (by omega) (by omega))) ?_)
             | (refine callM (dst := some 11) (pick_gives bs _ _ r _ (r9 _) (by simp; omega) (H.up (by omega) (by omega))) ?_)
             | (refine callM (dst := some 15) (hO r _ (r9 _) (by simp; omega)) ?_)
             | (refine callM (dst := some 20) (pick_gives bs _ _ r _ (r3 _ _) (hln _ _) (H.up (by omega) (by omega))) ?_)
             | (refine callM (dst := some 24) (pick_gives bs _ _ r _ (r3 _ _) (hln _ _) (H.up (by omega) (by omega))) ?_)
             | (refine callM (dst := some 27) (a3 r _ (r3 _ _) (hln _ _)) ?_)
             | (refine callS (a4 _) ?_)
             | (refine callQ (a4 _) ?_)
             | (refine callG (fun hc => (a4 _)) ?_)
             | (refine callQG (fun hc => (a4 _)) ?_)); simp -implicitDefEqProofs only [hc1, hc2, w1, h0L, r1, r2, r5, r6, r7, r8, List.length_set, List.set_set, push_cast, Nat.reduceEqDiff, Nat.reduceBEq, Nat.reduceBNe, Nat.reduceAdd, Nat.reduceMul, Nat.reduceLT, Nat.reduceLeDiff, Nat.reduceSub, reduceCtorEq, Int.reduceToNat, ↓reduceIte]))
      all_goals first
        | omega
        | (simp only [lenMax]; omega)
        | exact back_rd hrl _ _ _
        | trace_state
    · have hc2 : decide (pickV bs (p + 1 + 1 + 1) 3 = 0) = false := decide_eq_false c2
      refine ⟨[⟨[102, 117, 108, 108], 0, [109, 117, 108, 40, 108, 101, 103, 115, 44, 53, 48, 48, 41]⟩, ⟨[108, 111, 119], 1 + pickV bs (p + 1) 2, nm⟩], p + 1 + 1 + 1 + 1, by simp, by simp, by omega, by omega, fun r h hr hrl => ?_⟩
      obtain ⟨r1, r2, r3, r4, r5, r6, r7, r8, r9⟩ := rdf hrl
      have r4' := fun ls => (r4 ls).trans hr
      have hln : ∀ x ls, r < (h.set r x ++ ls).length := fun x ls => by rw [List.length_append, List.length_set]; omega
      refine meets_ofC [] mixed Try.func22 rfl (by kernel_rfl) (by kernel_rfl) (by rw [Try.ntmps22]; simp only [List.length_cons, List.length_nil]; omega) (fun hf hcl => ?_)
      rw [Try.results22]
      clear hf
      try simp -implicitDefEqProofs only [hc1, hc2, w1, h0L, r1, r2, r5, r6, r7, r8, List.length_set, List.set_set, push_cast, Nat.reduceEqDiff, Nat.reduceBEq, Nat.reduceBNe, Nat.reduceAdd, Nat.reduceMul, Nat.reduceLT, Nat.reduceLeDiff, Nat.reduceSub, reduceCtorEq, Int.reduceToNat, ↓reduceIte]
      repeat'
        (first
         | (refine uYes ?_; first | exact List.mem_cons_self | (simp only [List.mem_cons, List.not_mem_nil, or_false, true_or, or_true]; done))
         | (refine uNo (by kernel_rfl))
         | (refine flatMk ?_; kernel_rfl)
         | (refine And.intro ?_ ?_)
         | (intro hx)
         | ((first
             | (refine callGF ?_)
             | (refine callQGF ?_)
             | (refine skipG ?_)
             | (refine callM (dst := some 7) (pick_gives bs _ _ r _ hr hrl (H.up (by omega) (by omega))) ?_)
             | (refine callM (dst := some 11) (pick_gives bs _ _ r _ (r9 _) (by simp; omega) (H.up (by omega) (by omega))) ?_)
             | (refine callM (dst := some 15) (hO r _ (r9 _) (by simp; omega)) ?_)
             | (refine callM (dst := some 20) (pick_gives bs _ _ r _ (r3 _ _) (hln _ _) (H.up (by omega) (by omega))) ?_)); simp -implicitDefEqProofs only [hc1, hc2, w1, h0L, r1, r2, r5, r6, r7, r8, List.length_set, List.set_set, push_cast, Nat.reduceEqDiff, Nat.reduceBEq, Nat.reduceBNe, Nat.reduceAdd, Nat.reduceMul, Nat.reduceLT, Nat.reduceLeDiff, Nat.reduceSub, reduceCtorEq, Int.reduceToNat, ↓reduceIte]))
      all_goals first
        | omega
        | (simp only [lenMax]; omega)
        | exact back_rd hrl _ _ _
        | trace_state
  · have hc1 : decide (0 < pickV bs p 3) = false := decide_eq_false c1
    by_cases c2 : pickV bs (p + 1) 3 = 0
    · have v3 := pickV_range (p := p + 1 + 1) (H.up (by omega) (by omega)) 3 (by omega)
      obtain ⟨op, num, name, kids, ms, s, p', a1, a2, a3, a4⟩ := fares2 bs (p + 1) (by omega) (H.up (by omega) (by omega))
      have hc2 : decide (pickV bs (p + 1) 3 = 0) = true := decide_eq_true c2
      refine ⟨[⟨[102, 117, 108, 108], 0, [109, 117, 108, 40, 108, 101, 103, 115, 44, 53, 48, 48, 41]⟩, ⟨[111, 100, 100], pickV bs (p + 1 + 1) 3, s⟩], p', by simp, by simp, by omega, by omega, fun r h hr hrl => ?_⟩
      obtain ⟨r1, r2, r3, r4, r5, r6, r7, r8, r9⟩ := rdf hrl
      have r4' := fun ls => (r4 ls).trans hr
      have hln : ∀ x ls, r < (h.set r x ++ ls).length := fun x ls => by rw [List.length_append, List.length_set]; omega
      refine meets_ofC [] mixed Try.func22 rfl (by kernel_rfl) (by kernel_rfl) (by rw [Try.ntmps22]; simp only [List.length_cons, List.length_nil]; omega) (fun hf hcl => ?_)
      rw [Try.results22]
      clear hf
      try simp -implicitDefEqProofs only [hc1, hc2, h0L, r1, r2, r5, r6, r7, r8, List.length_set, List.set_set, push_cast, Nat.reduceEqDiff, Nat.reduceBEq, Nat.reduceBNe, Nat.reduceAdd, Nat.reduceMul, Nat.reduceLT, Nat.reduceLeDiff, Nat.reduceSub, reduceCtorEq, Int.reduceToNat, ↓reduceIte]
      repeat'
        (first
         | (refine uYes ?_; first | exact List.mem_cons_self | (simp only [List.mem_cons, List.not_mem_nil, or_false, true_or, or_true]; done))
         | (refine uNo (by kernel_rfl))
         | (refine flatMk ?_; kernel_rfl)
         | (refine And.intro ?_ ?_)
         | (intro hx)
         | ((first
             | (refine callGF ?_)
             | (refine callQGF ?_)
             | (refine skipG ?_)
             | (refine callM (dst := some 7) (pick_gives bs _ _ r _ hr hrl (H.up (by omega) (by omega))) ?_)
             | (refine callM (dst := some 20) (pick_gives bs _ _ r _ (r9 _) (by simp; omega) (H.up (by omega) (by omega))) ?_)
             | (refine callM (dst := some 24) (pick_gives bs _ _ r _ (r9 _) (by simp; omega) (H.up (by omega) (by omega))) ?_)
             | (refine callM (dst := some 27) (a3 r _ (r9 _) (by simp; omega)) ?_)
             | (refine callS (a4 _) ?_)
             | (refine callQ (a4 _) ?_)
             | (refine callG (fun hc => (a4 _)) ?_)
             | (refine callQG (fun hc => (a4 _)) ?_)); simp -implicitDefEqProofs only [hc1, hc2, h0L, r1, r2, r5, r6, r7, r8, List.length_set, List.set_set, push_cast, Nat.reduceEqDiff, Nat.reduceBEq, Nat.reduceBNe, Nat.reduceAdd, Nat.reduceMul, Nat.reduceLT, Nat.reduceLeDiff, Nat.reduceSub, reduceCtorEq, Int.reduceToNat, ↓reduceIte]))
      all_goals first
        | omega
        | (simp only [lenMax]; omega)
        | exact back_rd hrl _ _ _
        | trace_state
    · have hc2 : decide (pickV bs (p + 1) 3 = 0) = false := decide_eq_false c2
      refine ⟨[⟨[102, 117, 108, 108], 0, [109, 117, 108, 40, 108, 101, 103, 115, 44, 53, 48, 48, 41]⟩], p + 1 + 1, by simp, by simp, by omega, by omega, fun r h hr hrl => ?_⟩
      obtain ⟨r1, r2, r3, r4, r5, r6, r7, r8, r9⟩ := rdf hrl
      have r4' := fun ls => (r4 ls).trans hr
      have hln : ∀ x ls, r < (h.set r x ++ ls).length := fun x ls => by rw [List.length_append, List.length_set]; omega
      refine meets_ofC [] mixed Try.func22 rfl (by kernel_rfl) (by kernel_rfl) (by rw [Try.ntmps22]; simp only [List.length_cons, List.length_nil]; omega) (fun hf hcl => ?_)
      rw [Try.results22]
      clear hf
      try simp -implicitDefEqProofs only [hc1, hc2, h0L, r1, r2, r5, r6, r7, r8, List.length_set, List.set_set, push_cast, Nat.reduceEqDiff, Nat.reduceBEq, Nat.reduceBNe, Nat.reduceAdd, Nat.reduceMul, Nat.reduceLT, Nat.reduceLeDiff, Nat.reduceSub, reduceCtorEq, Int.reduceToNat, ↓reduceIte]
      repeat'
        (first
         | (refine uYes ?_; first | exact List.mem_cons_self | (simp only [List.mem_cons, List.not_mem_nil, or_false, true_or, or_true]; done))
         | (refine uNo (by kernel_rfl))
         | (refine flatMk ?_; kernel_rfl)
         | (refine And.intro ?_ ?_)
         | (intro hx)
         | ((first
             | (refine callGF ?_)
             | (refine callQGF ?_)
             | (refine skipG ?_)
             | (refine callM (dst := some 7) (pick_gives bs _ _ r _ hr hrl (H.up (by omega) (by omega))) ?_)
             | (refine callM (dst := some 20) (pick_gives bs _ _ r _ (r9 _) (by simp; omega) (H.up (by omega) (by omega))) ?_)); simp -implicitDefEqProofs only [hc1, hc2, h0L, r1, r2, r5, r6, r7, r8, List.length_set, List.set_set, push_cast, Nat.reduceEqDiff, Nat.reduceBEq, Nat.reduceBNe, Nat.reduceAdd, Nat.reduceMul, Nat.reduceLT, Nat.reduceLeDiff, Nat.reduceSub, reduceCtorEq, Int.reduceToNat, ↓reduceIte]))
      all_goals first
        | omega
        | (simp only [lenMax]; omega)
        | exact back_rd hrl _ _ _
        | (have hb := back_rd hrl bs (p + 1 + 1) []
           rw [List.append_nil] at hb
           exact hb)
        | trace_state
end Go.Proofs.Ytcmpcpigchlhpaa
