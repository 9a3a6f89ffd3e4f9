/- Contracts of functions of the program (D7). -/
import Derived.Test.YtmehbbepppjikaaD6

namespace Go.Proofs.Ytmehbbepppjikaa
open Go.Av
set_option maxRecDepth 10000
set_option maxHeartbeats 1000000
set_option linter.unusedSimpArgs false
set_option linter.unusedVariables false
attribute [local irreducible] finS

def keepD (bs : List Int) : Leg × Int :=
  ((anyS (bs.take 2000) 0).1,
    if (anyS (bs.take 2000) 0).1.holds.length = 0 then pickV (bs.take 2000) (anyS (bs.take 2000) 0).2 10
    else if pickV (bs.take 2000) (anyS (bs.take 2000) 0).2 3 = 0 then pickV (bs.take 2000) ((anyS (bs.take 2000) 0).2 + 1) 10
    else ((anyS (bs.take 2000) 0).1.holds.getD (pickV (bs.take 2000) ((anyS (bs.take 2000) 0).2 + 1) (anyS (bs.take 2000) 0).1.holds.length).toNat default).txn)
theorem drawLegKeep_gives (bs : List Int) (h : Hp) (hb : ∀ x, x ∈ bs → 0 ≤ x ∧ x ≤ 255) : Gives Try.prog 42 [.slice (bs.map (.int .u8)) .no] h (.tup [(keepD bs).1.d, .int .i64 (keepD bs).2]) := by
  have hR := fun p h0 h1 => rd_take hb p h0 h1
  have hA := anyS_place (bs := bs.take 2000) (p := 0) (hR _ (by omega) (by omega)) (by omega)
  have hG := fun (r : Nat) g q1 q2 => l14AnyLeg_gives (bs.take 2000) 0 r g q1 q2 (hR _ (by omega) (by omega)) (by omega)
  have hO := l1Open_gives bs
  rw [keepD]
  generalize bs.take 2000 = cs at hR hA hG hO
  generalize anyS cs 0 = s at hA hG
  obtain ⟨l, u⟩ := s
  simp only at hA hG ⊢
  have v1 := pickV_range (hR u (by omega) (by omega)) 3 (by omega)
  have hK := fun (n : Int) (p : Int) (p0 : 0 ≤ p) (p1 : p ≤ 1000) g (q1 : ob g (h.length + 1) = .row (rdC cs p)) (q2 : h.length + 1 < g.length) => pick_gives cs p n _ g q1 q2 (hR p p0 (by omega))
  by_cases h0 : l.holds.length = 0
  · simp only [h0, if_true]
    refine meets_of [2000016] mixed Try.func42 rfl (by kernel_rfl) (by kernel_rfl) (by rw [Try.ntmps42]; simp only [List.length_cons, List.length_nil]; omega) (fun hf => ?_)
    rw [Try.results42]
    clear hf
    try simp -implicitDefEqProofs only [lenMax, h0, push_cast, Nat.reduceEqDiff, Nat.reduceBEq, Nat.reduceBNe, Nat.reduceAdd, Nat.reduceMul, Nat.reduceLT, Nat.reduceLeDiff, Nat.reduceSub, reduceCtorEq, Int.reduceToNat, ↓reduceIte]
    repeat'
      (first
       | (refine uYes ?_; first | exact List.mem_cons_self | (simp only [List.mem_cons, List.not_mem_nil, or_false, true_or, or_true]; done))
       | (refine uNo (by kernel_rfl))
       | (refine flatMk ?_; kernel_rfl)
       | (refine And.intro ?_ ?_)
       | (intro hx)
       | ((first
           | (refine callGF ?_)
           | (refine callQGF ?_)
           | (refine skipG ?_)
           | (refine callM (hO _) ?_)
           | (refine callM (hG _ _ (ob_app h _ 1) (by simp)) ?_)
           | (refine inX_mkU [h.length + 1] [h.length] (by kernel_rfl) (by simp) ?_)
           | (refine callXR (r := h.length + 1) (by simp) (by simp) (fun h' hr' hl' => hK 10 u (by omega) (by omega) h' (hr'.trans (ob_app h _ 1)) hl') ?_)); simp -implicitDefEqProofs only [lenMax, h0, push_cast, Nat.reduceEqDiff, Nat.reduceBEq, Nat.reduceBNe, Nat.reduceAdd, Nat.reduceMul, Nat.reduceLT, Nat.reduceLeDiff, Nat.reduceSub, reduceCtorEq, Int.reduceToNat, ↓reduceIte]))
    all_goals first
      | omega
      | trace_state
  · simp only [h0, if_false]
    have h0' : decide (0 < (l.holds.length : Int)) = true := decide_eq_true (by omega)
    by_cases h1 : pickV cs u 3 = 0
    · simp only [h1, if_true]
      refine meets_of [2000016] mixed Try.func42 rfl (by kernel_rfl) (by kernel_rfl) (by rw [Try.ntmps42]; simp only [List.length_cons, List.length_nil]; omega) (fun hf => ?_)
      rw [Try.results42]
      clear hf
      try simp -implicitDefEqProofs only [lenMax, h0', h1, push_cast, Nat.reduceEqDiff, Nat.reduceBEq, Nat.reduceBNe, Nat.reduceAdd, Nat.reduceMul, Nat.reduceLT, Nat.reduceLeDiff, Nat.reduceSub, reduceCtorEq, Int.reduceToNat, ↓reduceIte]
      repeat'
        (first
         | (refine uYes ?_; first | exact List.mem_cons_self | (simp only [List.mem_cons, List.not_mem_nil, or_false, true_or, or_true]; done))
         | (refine uNo (by kernel_rfl))
         | (refine flatMk ?_; kernel_rfl)
         | (refine And.intro ?_ ?_)
         | (intro hx)
         | ((first
             | (refine callGF ?_)
             | (refine callQGF ?_)
             | (refine skipG ?_)
             | (refine callM (hO _) ?_)
             | (refine callM (hG _ _ (ob_app h _ 1) (by simp)) ?_)
             | (refine callM (dst := some 16) (hK 3 u (by omega) (by omega) _ (ob_app h _ 1) (by simp)) ?_)
             | (refine inX_mkU [h.length + 1] [h.length] (by kernel_rfl) (by simp) ?_)
             | (refine callXR (r := h.length + 1) (by simp) (by simp) (fun h' hr' hl' => hK 10 (u + 1) (by omega) (by omega) h' (hr'.trans (ob_app h _ 1)) hl') ?_)); simp -implicitDefEqProofs only [lenMax, h0', h1, push_cast, Nat.reduceEqDiff, Nat.reduceBEq, Nat.reduceBNe, Nat.reduceAdd, Nat.reduceMul, Nat.reduceLT, Nat.reduceLeDiff, Nat.reduceSub, reduceCtorEq, Int.reduceToNat, ↓reduceIte]))
      all_goals first
        | omega
        | trace_state
    · simp only [h1, if_false]
      have v2 := pickV_range (hR (u + 1) (by omega) (by omega)) l.holds.length (by omega)
      refine meets_of [2000016] mixed Try.func42 rfl (by kernel_rfl) (by kernel_rfl) (by rw [Try.ntmps42]; simp only [List.length_cons, List.length_nil]; omega) (fun hf => ?_)
      rw [Try.results42]
      clear hf
      try simp -implicitDefEqProofs only [lenMax, h0', h1, push_cast, Nat.reduceEqDiff, Nat.reduceBEq, Nat.reduceBNe, Nat.reduceAdd, Nat.reduceMul, Nat.reduceLT, Nat.reduceLeDiff, Nat.reduceSub, reduceCtorEq, Int.reduceToNat, ↓reduceIte]
      repeat'
        (first
         | (refine uYes ?_; first | exact List.mem_cons_self | (simp only [List.mem_cons, List.not_mem_nil, or_false, true_or, or_true]; done))
         | (refine uNo (by kernel_rfl))
         | (refine flatMk ?_; kernel_rfl)
         | (refine And.intro ?_ ?_)
         | (intro hx)
         | ((first
             | (refine callGF ?_)
             | (refine callQGF ?_)
             | (refine skipG ?_)
             | (refine callM (hO _) ?_)
             | (refine callM (hG _ _ (ob_app h _ 1) (by simp)) ?_)
             | (refine callM (dst := some 16) (hK 3 u (by omega) (by omega) _ (ob_app h _ 1) (by simp)) ?_)
             | (refine inX_mkU [h.length + 1] [h.length] (by kernel_rfl) (by simp) ?_)
             | (refine callXR (r := h.length + 1) (by simp) (by simp) (fun h' hr' hl' => hK l.holds.length (u + 1) (by omega) (by omega) h' (hr'.trans (ob_app h _ 1)) hl') ?_)); simp -implicitDefEqProofs only [lenMax, h0', h1, push_cast, Nat.reduceEqDiff, Nat.reduceBEq, Nat.reduceBNe, Nat.reduceAdd, Nat.reduceMul, Nat.reduceLT, Nat.reduceLeDiff, Nat.reduceSub, reduceCtorEq, Int.reduceToNat, ↓reduceIte]))
      all_goals first
        | omega
        | trace_state
end Go.Proofs.Ytmehbbepppjikaa
