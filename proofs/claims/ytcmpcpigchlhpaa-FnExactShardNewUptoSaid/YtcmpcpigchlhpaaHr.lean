/- Contracts of functions of the program (Hr). -/
import Derived.Test.YtcmpcpigchlhpaaHl
import Derived.Test.YtcmpcpigchlhpaaGq

namespace Go.Proofs.Ytcmpcpigchlhpaa
set_option linter.unusedSectionVars false
open Go.Av
variable [Av.Start]
set_option maxRecDepth 10000
set_option maxHeartbeats 4000000
set_option linter.unusedSimpArgs false
set_option linter.unusedVariables false

theorem heldLegS_gives (net : List Leg) (k0 : Int) (h : Hp) (h0 : 0 ≤ k0) (hB : kAt net k0 net.length ≤ 4000000000000000000) : Gives Try.prog 43 [.slice ((markNet net k0).map Leg.d) .no, .int .i64 k0] h (.int .i64 (kAt net k0 net.length)) := by
  refine meets_of [] mixed Try.func43 rfl (by kernel_rfl) (by kernel_rfl) (by rw [Try.ntmps43]; simp only [List.length_cons, List.length_nil]; omega) (fun hf => ?_)
  rw [Try.results43]
  have hl : net.length ≤ 1073741824 := by
    have := slice_fit (hf (.slice ((markNet net k0).map Leg.d) .no) (by simp))
    simpa [markNet_len] using this
  clear hf
  have hm := markNet_len net k0
  simp -implicitDefEqProofs only [push_cast, Nat.reduceEqDiff, Nat.reduceBEq, Nat.reduceBNe, Nat.reduceAdd, Nat.reduceMul, Nat.reduceLT, Nat.reduceLeDiff, Nat.reduceSub, reduceCtorEq, Int.reduceToNat, ↓reduceIte]
  refine ev_loop0 [] (fun j : Nat => [(0, .slice ((markNet net k0).map Leg.d) .no), (1, .int .i64 (kAt net k0 j)), (5, .int .i64 j)]) (fun j => j ≤ net.length) (fun j => net.length - j) 0 trivial (Nat.zero_le _) ?_ ?_
  · refine ⟨rfl, [], ?_⟩
    simp -implicitDefEqProofs only [Int.natCast_add, Int.cast_ofNat_Int, List.length_nil, Nat.le_refl, WeakTo, tokSts, tokOks, List.append_cancel_left_eq, exists_eq_left', exists_eq_left, List.append_cancel_left_eq, List.take_length, ObCl, and_true, true_and, push_cast, Nat.reduceEqDiff, Nat.reduceBEq, Nat.reduceBNe, Nat.reduceAdd, Nat.reduceMul, Nat.reduceLT, Nat.reduceLeDiff, Nat.reduceSub, reduceCtorEq, Int.reduceToNat, ↓reduceIte, kAt_zero]
  · intro j hj
    have hw : IntKind.i64.wrap ((j : Int) + 1) = j + 1 := wrap_id (by omega) (by omega)
    by_cases hjn : j < net.length
    · have kb := kAt_le (net := net) (k0 := k0) j (i := 0) (by omega)
      have kn := kAt_le (net := net) (k0 := k0) (net.length - (j + 1)) (i := j + 1) (by omega)
      rw [kAt_zero, Nat.zero_add] at kb
      rw [show j + 1 + (net.length - (j + 1)) = net.length by omega, kAt_succ k0 hjn] at kn
      have hks := kAt_succ k0 hjn
      have hg := markNet_get k0 hjn
      have hL := leg_at (xs := markNet net k0) (k := j) (by omega)
      rw [hg] at hL
      generalize net.getD j default = l at kn hks hg hL
      obtain ⟨k, hk'⟩ : ∃ k, kAt net k0 j = k := ⟨_, rfl⟩
      rw [hk'] at kb kn hks hg hL
      simp only [markE] at kn
      have w1 : IntKind.i64.wrap (k + 1) = k + 1 := wrap_id (by omega) (by omega)
      have w2 : IntKind.i64.wrap (k + 1 + 1) = k + 2 := by rw [wrap_id (by omega) (by omega)]; omega
      have w3 : IntKind.i64.wrap (k + 2 + 1) = k + 3 := by rw [wrap_id (by omega) (by omega)]; omega
      have w4 : IntKind.i64.wrap (k + 3 + 1) = k + 4 := by rw [wrap_id (by omega) (by omega)]; omega
      have w5 : IntKind.i64.wrap (k + 4 + 1) = k + 5 := by rw [wrap_id (by omega) (by omega)]; omega
      have w6 : IntKind.i64.wrap (k + 5 + 1) = k + 6 := by rw [wrap_id (by omega) (by omega)]; omega
      simp only [hk']
      try simp -implicitDefEqProofs only [hw, w1, w2, w3, w4, w5, w6, hL, hg, hm, markN, markL, Leg.d, Leg.cs, push_cast, Nat.reduceEqDiff, Nat.reduceBEq, Nat.reduceBNe, Nat.reduceAdd, Nat.reduceMul, Nat.reduceLT, Nat.reduceLeDiff, Nat.reduceSub, reduceCtorEq, Int.reduceToNat, ↓reduceIte]
      repeat'
        (first
         | (refine uYes ?_; first | exact List.mem_cons_self | (simp only [List.mem_cons, List.not_mem_nil, or_false, true_or, or_true]; done))
         | (refine uNo (by kernel_rfl))
         | (refine flatMk ?_; kernel_rfl)
         | (refine And.intro ?_ ?_)
         | (intro hx)
         | ((first
             | (refine callGF ?_)
             | (refine callQGF ?_)
             | (refine skipG ?_)
             | (refine callS (markText_gives k _ (by omega)) ?_)
             | (refine callQ (markText_gives k _ (by omega)) ?_)
             | (refine callG (fun hc => (markText_gives k _ (by omega))) ?_)
             | (refine callQG (fun hc => (markText_gives k _ (by omega))) ?_)
             | (refine callS (markText_gives (k + 1) _ (by omega)) ?_)
             | (refine callQ (markText_gives (k + 1) _ (by omega)) ?_)
             | (refine callG (fun hc => (markText_gives (k + 1) _ (by omega))) ?_)
             | (refine callQG (fun hc => (markText_gives (k + 1) _ (by omega))) ?_)
             | (refine callS (markText_gives (k + 2) _ (by omega)) ?_)
             | (refine callQ (markText_gives (k + 2) _ (by omega)) ?_)
             | (refine callG (fun hc => (markText_gives (k + 2) _ (by omega))) ?_)
             | (refine callQG (fun hc => (markText_gives (k + 2) _ (by omega))) ?_)
             | (refine callS (heldIntS_gives _ _ _ (by omega) (by omega)) ?_)
             | (refine callQ (heldIntS_gives _ _ _ (by omega) (by omega)) ?_)
             | (refine callG (fun hc => (heldIntS_gives _ _ _ (by omega) (by omega))) ?_)
             | (refine callQG (fun hc => (heldIntS_gives _ _ _ (by omega) (by omega))) ?_)
             | (refine callS (heldIntS_gives _ _ _ (by omega) (by omega)) ?_)
             | (refine callQ (heldIntS_gives _ _ _ (by omega) (by omega)) ?_)
             | (refine callG (fun hc => (heldIntS_gives _ _ _ (by omega) (by omega))) ?_)
             | (refine callQG (fun hc => (heldIntS_gives _ _ _ (by omega) (by omega))) ?_)
             | (refine callS (heldIntS_gives _ _ _ (by omega) (by omega)) ?_)
             | (refine callQ (heldIntS_gives _ _ _ (by omega) (by omega)) ?_)
             | (refine callG (fun hc => (heldIntS_gives _ _ _ (by omega) (by omega))) ?_)
             | (refine callQG (fun hc => (heldIntS_gives _ _ _ (by omega) (by omega))) ?_)
             | (refine callS (heldHoldS_gives _ _ _ (by omega) (by omega)) ?_)
             | (refine callQ (heldHoldS_gives _ _ _ (by omega) (by omega)) ?_)
             | (refine callG (fun hc => (heldHoldS_gives _ _ _ (by omega) (by omega))) ?_)
             | (refine callQG (fun hc => (heldHoldS_gives _ _ _ (by omega) (by omega))) ?_)); simp -implicitDefEqProofs only [hw, w1, w2, w3, w4, w5, w6, hL, hg, hm, markN, markL, Leg.d, Leg.cs, push_cast, Nat.reduceEqDiff, Nat.reduceBEq, Nat.reduceBNe, Nat.reduceAdd, Nat.reduceMul, Nat.reduceLT, Nat.reduceLeDiff, Nat.reduceSub, reduceCtorEq, Int.reduceToNat, ↓reduceIte]))
      all_goals first
        | omega
        | (refine round_mk0 (j + 1) (by omega) (by omega) ⟨[], ?_⟩
           simp -implicitDefEqProofs only [Int.natCast_add, Int.cast_ofNat_Int, List.length_nil, Nat.le_refl, WeakTo, tokSts, tokOks, List.append_cancel_left_eq, exists_eq_left', exists_eq_left, List.append_cancel_left_eq, List.take_length, ObCl, and_true, true_and, push_cast, Nat.reduceEqDiff, Nat.reduceBEq, Nat.reduceBNe, Nat.reduceAdd, Nat.reduceMul, Nat.reduceLT, Nat.reduceLeDiff, Nat.reduceSub, reduceCtorEq, Int.reduceToNat, ↓reduceIte, hw, hks, markE]
           try omega)
        | trace_state
    · obtain rfl : j = net.length := by omega
      try simp -implicitDefEqProofs only [hw, hm, push_cast, Nat.reduceEqDiff, Nat.reduceBEq, Nat.reduceBNe, Nat.reduceAdd, Nat.reduceMul, Nat.reduceLT, Nat.reduceLeDiff, Nat.reduceSub, reduceCtorEq, Int.reduceToNat, ↓reduceIte]
      repeat'
        (first
         | (refine uYes ?_; first | exact List.mem_cons_self | (simp only [List.mem_cons, List.not_mem_nil, or_false, true_or, or_true]; done))
         | (refine uNo (by kernel_rfl))
         | (refine flatMk ?_; kernel_rfl)
         | (refine And.intro ?_ ?_)
         | (intro hx)
         | ((first
             | (refine callGF ?_)
             | (refine callQGF ?_)
             | (refine skipG ?_)
             | (refine callS (in_gives _ _ _ _) ?_)
             | (refine callQ (in_gives _ _ _ _) ?_)
             | (refine callG (fun hc => (in_gives _ _ _ _)) ?_)
             | (refine callQG (fun hc => (in_gives _ _ _ _)) ?_)); simp -implicitDefEqProofs only [hw, hm, push_cast, Nat.reduceEqDiff, Nat.reduceBEq, Nat.reduceBNe, Nat.reduceAdd, Nat.reduceMul, Nat.reduceLT, Nat.reduceLeDiff, Nat.reduceSub, reduceCtorEq, Int.reduceToNat, ↓reduceIte]))
      all_goals first
        | omega
        | trace_state
end Go.Proofs.Ytcmpcpigchlhpaa
