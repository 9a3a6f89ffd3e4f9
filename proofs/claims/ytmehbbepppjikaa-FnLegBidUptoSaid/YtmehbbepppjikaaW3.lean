/- Contracts of functions of the program (W3). -/
import Derived.Test.YtmehbbepppjikaaD7
import Derived.Test.YtmehbbepppjikaaW1
import Derived.Test.YtmehbbepppjikaaM5

namespace Go.Proofs.Ytmehbbepppjikaa
open Go.Av
set_option maxRecDepth 10000
set_option maxHeartbeats 1000000
set_option linter.unusedSimpArgs false
set_option linter.unusedVariables false

theorem drawLegDrop_gives (bs : List Int) (h : Hp) (hb : ∀ x, x ∈ bs → 0 ≤ x ∧ x ≤ 255) : Gives Try.prog 46 [.slice (bs.map (.int .u8)) .no] h (.tup [(keepD bs).1.d, .int .i64 (keepD bs).2]) := by
  have hG := fun g => drawLegKeep_gives bs g hb
  generalize keepD bs = s at hG
  refine meets_of [] mixed Try.func46 rfl (by kernel_rfl) (by kernel_rfl) (by rw [Try.ntmps46]; simp only [List.length_cons, List.length_nil]; omega) (fun hf => ?_)
  rw [Try.results46]
  clear hf
  try simp -implicitDefEqProofs only [push_cast, Nat.reduceEqDiff, Nat.reduceBEq, Nat.reduceBNe, Nat.reduceAdd, Nat.reduceMul, Nat.reduceLT, Nat.reduceLeDiff, Nat.reduceSub, reduceCtorEq, Int.reduceToNat, ↓reduceIte]
  repeat'
    (first
     | (refine uYes ?_; first | exact List.mem_cons_self | (simp only [List.mem_cons, List.not_mem_nil, or_false, true_or, or_true]; done))
     | (refine uNo (by kernel_rfl))
     | (refine flatMk ?_; kernel_rfl)
     | (refine And.intro ?_ ?_)
     | (intro hx)
     | ((first
         | (refine callGF ?_)
         | (refine callQGF ?_)
         | (refine skipG ?_)
         | (refine callS (hG _) ?_)
         | (refine callQ (hG _) ?_)
         | (refine callG (fun hc => (hG _)) ?_)
         | (refine callQG (fun hc => (hG _)) ?_)); simp -implicitDefEqProofs only [push_cast, Nat.reduceEqDiff, Nat.reduceBEq, Nat.reduceBNe, Nat.reduceAdd, Nat.reduceMul, Nat.reduceLT, Nat.reduceLeDiff, Nat.reduceSub, reduceCtorEq, Int.reduceToNat, ↓reduceIte]))
  all_goals trace_state
theorem wsInts_gives (a b : List Int) (h : Hp) : Gives Try.prog 49 [.slice (a.map (.int .i64)) .no, .slice (b.map (.int .i64)) .no] h (.bool (decide (a = b))) := by
  refine meets_of [] mixed Try.func49 rfl (by kernel_rfl) (by kernel_rfl) (by rw [Try.ntmps49]; simp only [List.length_cons, List.length_nil]; omega) (fun hf => ?_)
  rw [Try.results49]
  have hl : a.length ≤ 1073741824 := by
    have := hf (.slice (a.map (.int .i64)) .no) (by simp)
    simpa [fitsD, flen, lenMax] using this
  clear hf
  try simp -implicitDefEqProofs only [push_cast, Nat.reduceEqDiff, Nat.reduceBEq, Nat.reduceBNe, Nat.reduceAdd, Nat.reduceMul, Nat.reduceLT, Nat.reduceLeDiff, Nat.reduceSub, reduceCtorEq, Int.reduceToNat, ↓reduceIte]
  repeat'
    (first
     | (refine uYes ?_; first | exact List.mem_cons_self | (simp only [List.mem_cons, List.not_mem_nil, or_false, true_or, or_true]; done))
     | (refine uNo (by kernel_rfl))
     | (refine flatMk ?_; kernel_rfl)
     | (refine And.intro ?_ ?_)
     | (intro hx)
     | ((first
         | (refine callGF ?_)
         | (refine callQGF ?_)
         | (refine skipG ?_)
         | (refine callS (l1In_gives _ _ _ _) ?_)
         | (refine callQ (l1In_gives _ _ _ _) ?_)
         | (refine callG (fun hc => (l1In_gives _ _ _ _)) ?_)
         | (refine callQG (fun hc => (l1In_gives _ _ _ _)) ?_)); simp -implicitDefEqProofs only [push_cast, Nat.reduceEqDiff, Nat.reduceBEq, Nat.reduceBNe, Nat.reduceAdd, Nat.reduceMul, Nat.reduceLT, Nat.reduceLeDiff, Nat.reduceSub, reduceCtorEq, Int.reduceToNat, ↓reduceIte]))
  · exact (decide_eq_false (fun e => hx (by rw [e]))).symm
  refine ev_loop0 [] (fun k : Nat => [(0, .slice (a.map (.int .i64)) .no), (1, .slice (b.map (.int .i64)) .no), (5, .int .i64 k)]) (fun k => k ≤ a.length ∧ ∀ i, i < k → a.getD i 0 = b.getD i 0) (fun k => a.length - k) 0 trivial ⟨Nat.zero_le _, fun i hi => absurd hi (Nat.not_lt_zero i)⟩ ?_ ?_
  · exact ⟨rfl, [], by simp -implicitDefEqProofs only [Int.natCast_add, Int.cast_ofNat_Int, List.length_nil, Nat.le_refl, WeakTo, tokSts, tokOks, List.append_cancel_left_eq, exists_eq_left', exists_eq_left, List.append_cancel_left_eq, List.take_length, ObCl, and_true, true_and, push_cast, Nat.reduceEqDiff, Nat.reduceBEq, Nat.reduceBNe, Nat.reduceAdd, Nat.reduceMul, Nat.reduceLT, Nat.reduceLeDiff, Nat.reduceSub, reduceCtorEq, Int.reduceToNat, ↓reduceIte]⟩
  · intro k hk
    have hw : IntKind.i64.wrap ((k : Int) + 1) = k + 1 := wrap_id (by omega) (by omega)
    try simp -implicitDefEqProofs only [hw, push_cast, Nat.reduceEqDiff, Nat.reduceBEq, Nat.reduceBNe, Nat.reduceAdd, Nat.reduceMul, Nat.reduceLT, Nat.reduceLeDiff, Nat.reduceSub, reduceCtorEq, Int.reduceToNat, ↓reduceIte]
    repeat'
      (first
       | (refine uYes ?_; first | exact List.mem_cons_self | (simp only [List.mem_cons, List.not_mem_nil, or_false, true_or, or_true]; done))
       | (refine uNo (by kernel_rfl))
       | (refine flatMk ?_; kernel_rfl)
       | (refine And.intro ?_ ?_)
       | (intro hx)
       | ((first
           | (refine callGF ?_)
           | (refine callQGF ?_)
           | (refine skipG ?_)
           | (refine callS (l1In_gives _ _ _ _) ?_)
           | (refine callQ (l1In_gives _ _ _ _) ?_)
           | (refine callG (fun hc => (l1In_gives _ _ _ _)) ?_)
           | (refine callQG (fun hc => (l1In_gives _ _ _ _)) ?_)); simp -implicitDefEqProofs only [hw, push_cast, Nat.reduceEqDiff, Nat.reduceBEq, Nat.reduceBNe, Nat.reduceAdd, Nat.reduceMul, Nat.reduceLT, Nat.reduceLeDiff, Nat.reduceSub, reduceCtorEq, Int.reduceToNat, ↓reduceIte]))
    all_goals first
      | omega
      | (refine round_mk0 (k + 1) ⟨by omega, fun i hi => ?_⟩ (by omega) ⟨[], ?_⟩
         · by_cases e : i = k
           · exact e ▸ hx
           · exact hk.2 i (by omega)
         · simp -implicitDefEqProofs only [hw, Int.natCast_add, Int.cast_ofNat_Int, List.length_nil, Nat.le_refl, WeakTo, tokSts, tokOks, List.append_cancel_left_eq, exists_eq_left', exists_eq_left, List.append_cancel_left_eq, List.take_length, ObCl, and_true, true_and, push_cast, Nat.reduceEqDiff, Nat.reduceBEq, Nat.reduceBNe, Nat.reduceAdd, Nat.reduceMul, Nat.reduceLT, Nat.reduceLeDiff, Nat.reduceSub, reduceCtorEq, Int.reduceToNat, ↓reduceIte])
      | exact (decide_eq_false (fun e => hx (by rw [e]))).symm
      | (refine (decide_eq_true (List.ext_getElem (by omega) (fun i h1 h2 => ?_))).symm
         have := hk.2 i (by omega)
         simpa [List.getD_eq_getElem?_getD, List.getElem?_eq_getElem, h1, h2] using this)
      | trace_state
end Go.Proofs.Ytmehbbepppjikaa
