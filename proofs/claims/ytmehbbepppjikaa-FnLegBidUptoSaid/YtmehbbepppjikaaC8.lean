/- Contracts of functions of the program (C8). -/
import Derived.Test.YtmehbbepppjikaaC7

namespace Go.Proofs.Ytmehbbepppjikaa
open Go.Av
set_option maxRecDepth 10000
set_option linter.unusedSimpArgs false
set_option linter.unusedVariables false

theorem toLeg_gives (l : Leg) (h : Hp) : Gives Try.prog 23 [l.d] h l.d := by
  refine meets_of [2, 3] mixed Try.func23 rfl (by kernel_rfl) (by kernel_rfl) (by rw [Try.ntmps23]; simp only [List.length_cons, List.length_nil]; omega) (fun hf => ?_)
  rw [Try.results23]
  try simp -implicitDefEqProofs only [push_cast, Nat.reduceEqDiff, Nat.reduceBEq, Nat.reduceBNe, Nat.reduceAdd, Nat.reduceMul, Nat.reduceLT, Nat.reduceLeDiff, Nat.reduceSub, reduceCtorEq, Int.reduceToNat, ↓reduceIte]
  repeat'
    (first
     | (refine uYes ?_; first | exact List.mem_cons_self | (simp only [List.mem_cons, List.not_mem_nil, or_false, true_or, or_true]; done))
     | (refine uNo (by kernel_rfl))
     | (refine flatMk ?_; kernel_rfl)
     | (refine And.intro ?_ ?_)
     | (intro hx)
     | ((first
         | (refine callGF ?_)
         | (refine callQGF ?_)
         | (refine skipG ?_)
         | (refine callS (toIntS_gives _ _) ?_)
         | (refine callQ (toIntS_gives _ _) ?_)
         | (refine callG (fun hc => (toIntS_gives _ _)) ?_)
         | (refine callQG (fun hc => (toIntS_gives _ _)) ?_)
         | (refine callS (toHoldS_gives _ _) ?_)
         | (refine callQ (toHoldS_gives _ _) ?_)
         | (refine callG (fun hc => (toHoldS_gives _ _)) ?_)
         | (refine callQG (fun hc => (toHoldS_gives _ _)) ?_)); simp -implicitDefEqProofs only [push_cast, Nat.reduceEqDiff, Nat.reduceBEq, Nat.reduceBNe, Nat.reduceAdd, Nat.reduceMul, Nat.reduceLT, Nat.reduceLeDiff, Nat.reduceSub, reduceCtorEq, Int.reduceToNat, ↓reduceIte]))
  all_goals trace_state
theorem eqHoldS_gives (a b : List Hold) (h : Hp) : Gives Try.prog 82 [.slice (a.map Hold.d) .no, .slice (b.map Hold.d) .no] h (.bool (decide (a = b))) := by
  refine meets_of [] mixed Try.func82 rfl (by kernel_rfl) (by kernel_rfl) (by rw [Try.ntmps82]; simp only [List.length_cons, List.length_nil]; omega) (fun hf => ?_)
  rw [Try.results82]
  have hl : a.length ≤ 1073741824 := by
    have := hf (.slice (a.map Hold.d) .no) (by simp)
    simpa [fitsD, flen, lenMax] using this
  clear hf
  try simp -implicitDefEqProofs only [push_cast, Nat.reduceEqDiff, Nat.reduceBEq, Nat.reduceBNe, Nat.reduceAdd, Nat.reduceMul, Nat.reduceLT, Nat.reduceLeDiff, Nat.reduceSub, reduceCtorEq, Int.reduceToNat, ↓reduceIte]
  repeat'
    (first
     | (refine uYes ?_; first | exact List.mem_cons_self | (simp only [List.mem_cons, List.not_mem_nil, or_false, true_or, or_true]; done))
     | (refine uNo (by kernel_rfl))
     | (refine flatMk ?_; kernel_rfl)
     | (refine And.intro ?_ ?_)
     | (intro hx)
     | ((first
         | (refine callGF ?_)
         | (refine callQGF ?_)
         | (refine skipG ?_)
         | (refine callS (l1In_gives _ _ _ _) ?_)
         | (refine callQ (l1In_gives _ _ _ _) ?_)
         | (refine callG (fun hc => (l1In_gives _ _ _ _)) ?_)
         | (refine callQG (fun hc => (l1In_gives _ _ _ _)) ?_)); simp -implicitDefEqProofs only [push_cast, Nat.reduceEqDiff, Nat.reduceBEq, Nat.reduceBNe, Nat.reduceAdd, Nat.reduceMul, Nat.reduceLT, Nat.reduceLeDiff, Nat.reduceSub, reduceCtorEq, Int.reduceToNat, ↓reduceIte]))
  · exact (decide_eq_false (fun e => hx (by rw [e]))).symm
  refine ev_loop0 [] (fun k : Nat => [(0, .slice (a.map Hold.d) .no), (1, .slice (b.map Hold.d) .no), (5, .int .i64 k)]) (fun k => k ≤ a.length ∧ ∀ i, i < k → a.getD i default = b.getD i default) (fun k => a.length - k) 0 trivial ⟨Nat.zero_le _, fun i hi => absurd hi (Nat.not_lt_zero i)⟩ ?_ ?_
  · exact ⟨rfl, [], by simp -implicitDefEqProofs only [Int.natCast_add, Int.cast_ofNat_Int, List.length_nil, Nat.le_refl, WeakTo, tokSts, tokOks, List.append_cancel_left_eq, exists_eq_left', exists_eq_left, List.append_cancel_left_eq, List.take_length, ObCl, and_true, true_and, push_cast, Nat.reduceEqDiff, Nat.reduceBEq, Nat.reduceBNe, Nat.reduceAdd, Nat.reduceMul, Nat.reduceLT, Nat.reduceLeDiff, Nat.reduceSub, reduceCtorEq, Int.reduceToNat, ↓reduceIte]⟩
  · intro k hk
    have hw : IntKind.i64.wrap ((k : Int) + 1) = k + 1 := wrap_id (by omega) (by omega)
    try simp -implicitDefEqProofs only [hw, push_cast, Nat.reduceEqDiff, Nat.reduceBEq, Nat.reduceBNe, Nat.reduceAdd, Nat.reduceMul, Nat.reduceLT, Nat.reduceLeDiff, Nat.reduceSub, reduceCtorEq, Int.reduceToNat, ↓reduceIte]
    repeat'
      (first
       | (refine uYes ?_; first | exact List.mem_cons_self | (simp only [List.mem_cons, List.not_mem_nil, or_false, true_or, or_true]; done))
       | (refine uNo (by kernel_rfl))
       | (refine flatMk ?_; kernel_rfl)
       | (refine And.intro ?_ ?_)
       | (intro hx)
       | ((first
           | (refine callGF ?_)
           | (refine callQGF ?_)
           | (refine skipG ?_)
           | (refine callS (eqHold_gives (a.getD k default) (b.getD k default) _) ?_)
           | (refine callQ (eqHold_gives (a.getD k default) (b.getD k default) _) ?_)
           | (refine callG (fun hc => (eqHold_gives (a.getD k default) (b.getD k default) _)) ?_)
           | (refine callQG (fun hc => (eqHold_gives (a.getD k default) (b.getD k default) _)) ?_)); simp -implicitDefEqProofs only [hw, push_cast, Nat.reduceEqDiff, Nat.reduceBEq, Nat.reduceBNe, Nat.reduceAdd, Nat.reduceMul, Nat.reduceLT, Nat.reduceLeDiff, Nat.reduceSub, reduceCtorEq, Int.reduceToNat, ↓reduceIte]))
    all_goals first
      | omega
      | (refine round_mk0 (k + 1) ⟨by omega, fun i hi => ?_⟩ (by omega) ⟨[], ?_⟩
         · by_cases e : i = k
           · subst e
             cases ha : a.getD i default
             cases hb : b.getD i default
             rw [ha, hb] at hx
             simp only at hx
             obtain ⟨⟨rfl, rfl⟩, rfl⟩ := hx
             rfl
           · exact hk.2 i (by omega)
         · simp -implicitDefEqProofs only [hw, Int.natCast_add, Int.cast_ofNat_Int, List.length_nil, Nat.le_refl, WeakTo, tokSts, tokOks, List.append_cancel_left_eq, exists_eq_left', exists_eq_left, List.append_cancel_left_eq, List.take_length, ObCl, and_true, true_and, push_cast, Nat.reduceEqDiff, Nat.reduceBEq, Nat.reduceBNe, Nat.reduceAdd, Nat.reduceMul, Nat.reduceLT, Nat.reduceLeDiff, Nat.reduceSub, reduceCtorEq, Int.reduceToNat, ↓reduceIte])
      | (refine (decide_eq_false (fun e => ?_)).symm
         subst e
         grind)
      | (refine (decide_eq_true (List.ext_getElem (by omega) (fun i h1 h2 => ?_))).symm
         have := hk.2 i (by omega)
         simpa [List.getD_eq_getElem?_getD, List.getElem?_eq_getElem, h1, h2] using this)
def szGo (n : Int) : List Nat → Int
  | [] => n
  | k :: ks => if IntKind.i64.wrap (n - k) < 0 then -1 else szGo (IntKind.i64.wrap (n - k)) ks
theorem szLeg_gives (l : Leg) (n : Int) (h : Hp) : Gives Try.prog 21 [l.d, .int .i64 n] h (.int .i64 (szGo n [l.name.length, l.src.length, l.dst.length, l.limits.length, l.sold.length, l.bids.length, l.holds.length])) := by
  refine meets_of [] mixed Try.func21 rfl (by kernel_rfl) (by kernel_rfl) (by rw [Try.ntmps21]; simp only [List.length_cons, List.length_nil]; omega) (fun hf => ?_)
  rw [Try.results21]
  try simp -implicitDefEqProofs only [push_cast, Nat.reduceEqDiff, Nat.reduceBEq, Nat.reduceBNe, Nat.reduceAdd, Nat.reduceMul, Nat.reduceLT, Nat.reduceLeDiff, Nat.reduceSub, reduceCtorEq, Int.reduceToNat, ↓reduceIte]
  repeat'
    (first
     | (refine uYes ?_; first | exact List.mem_cons_self | (simp only [List.mem_cons, List.not_mem_nil, or_false, true_or, or_true]; done))
     | (refine uNo (by kernel_rfl))
     | (refine flatMk ?_; kernel_rfl)
     | (refine And.intro ?_ ?_)
     | (intro hx)
     | ((first
         | (refine callGF ?_)
         | (refine callQGF ?_)
         | (refine skipG ?_)
         | (refine callS (szIntS_gives _ _ _) ?_)
         | (refine callQ (szIntS_gives _ _ _) ?_)
         | (refine callG (fun hc => (szIntS_gives _ _ _)) ?_)
         | (refine callQG (fun hc => (szIntS_gives _ _ _)) ?_)
         | (refine callS (szHoldS_gives _ _ _) ?_)
         | (refine callQ (szHoldS_gives _ _ _) ?_)
         | (refine callG (fun hc => (szHoldS_gives _ _ _)) ?_)
         | (refine callQG (fun hc => (szHoldS_gives _ _ _)) ?_)); simp -implicitDefEqProofs only [push_cast, Nat.reduceEqDiff, Nat.reduceBEq, Nat.reduceBNe, Nat.reduceAdd, Nat.reduceMul, Nat.reduceLT, Nat.reduceLeDiff, Nat.reduceSub, reduceCtorEq, Int.reduceToNat, ↓reduceIte]))
  all_goals (simp only [szGo]; grind)
end Go.Proofs.Ytmehbbepppjikaa
