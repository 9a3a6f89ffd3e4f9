/- Contracts of functions of the program (C9). -/
import Derived.Test.YtmehbbepppjikaaC4
import Derived.Test.YtmehbbepppjikaaC8

namespace Go.Proofs.Ytmehbbepppjikaa
open Go.Av
set_option maxRecDepth 10000
set_option linter.unusedSimpArgs false
set_option linter.unusedVariables false

def eqLegB (a b : Leg) : Bool := decide (a.name = b.name) && decide (a.src = b.src) && decide (a.dst = b.dst) && decide (a.dep = b.dep) && decide (a.arr = b.arr) && decide (a.cap = b.cap) && decide (a.limits = b.limits) && decide (a.sold = b.sold) && decide (a.bids = b.bids) && decide (a.holds = b.holds)
theorem eqLegB_self (a : Leg) : eqLegB a a = true := by simp [eqLegB]
theorem eqLeg_gives (a b : Leg) (h : Hp) : Gives Try.prog 25 [a.d, b.d] h (.bool (eqLegB a b)) := by
  refine meets_of [] mixed Try.func25 rfl (by kernel_rfl) (by kernel_rfl) (by rw [Try.ntmps25]; simp only [List.length_cons, List.length_nil]; omega) (fun hf => ?_)
  rw [Try.results25]
  try simp -implicitDefEqProofs only [push_cast, Nat.reduceEqDiff, Nat.reduceBEq, Nat.reduceBNe, Nat.reduceAdd, Nat.reduceMul, Nat.reduceLT, Nat.reduceLeDiff, Nat.reduceSub, reduceCtorEq, Int.reduceToNat, ↓reduceIte]
  repeat'
    (first
     | (refine uYes ?_; first | exact List.mem_cons_self | (simp only [List.mem_cons, List.not_mem_nil, or_false, true_or, or_true]; done))
     | (refine uNo (by kernel_rfl))
     | (refine flatMk ?_; kernel_rfl)
     | (refine And.intro ?_ ?_)
     | (intro hx)
     | ((first
         | (refine callGF ?_)
         | (refine callQGF ?_)
         | (refine skipG ?_)
         | (refine callS (eqIntS_gives _ _ _) ?_)
         | (refine callQ (eqIntS_gives _ _ _) ?_)
         | (refine callG (fun hc => (eqIntS_gives _ _ _)) ?_)
         | (refine callQG (fun hc => (eqIntS_gives _ _ _)) ?_)
         | (refine callS (eqHoldS_gives _ _ _) ?_)
         | (refine callQ (eqHoldS_gives _ _ _) ?_)
         | (refine callG (fun hc => (eqHoldS_gives _ _ _)) ?_)
         | (refine callQG (fun hc => (eqHoldS_gives _ _ _)) ?_)); simp -implicitDefEqProofs only [push_cast, Nat.reduceEqDiff, Nat.reduceBEq, Nat.reduceBNe, Nat.reduceAdd, Nat.reduceMul, Nat.reduceLT, Nat.reduceLeDiff, Nat.reduceSub, reduceCtorEq, Int.reduceToNat, ↓reduceIte]))
  all_goals (simp only [eqLegB]; grind)

theorem fnLegOk_gives (l : Leg) (h : Hp) : Gives Try.prog 3 [l.d] h (.bool true) := by
  refine meets_of [] mixed Try.func3 rfl (by kernel_rfl) (by kernel_rfl) (by rw [Try.ntmps3]; simp only [List.length_cons, List.length_nil]; omega) (fun hf => ?_)
  rw [Try.results3]
  try simp -implicitDefEqProofs only [push_cast, Nat.reduceEqDiff, Nat.reduceBEq, Nat.reduceBNe, Nat.reduceAdd, Nat.reduceMul, Nat.reduceLT, Nat.reduceLeDiff, Nat.reduceSub, reduceCtorEq, Int.reduceToNat, ↓reduceIte]
  repeat'
    (first
     | (refine uYes ?_; first | exact List.mem_cons_self | (simp only [List.mem_cons, List.not_mem_nil, or_false, true_or, or_true]; done))
     | (refine uNo (by kernel_rfl))
     | (refine flatMk ?_; kernel_rfl)
     | (refine And.intro ?_ ?_)
     | (intro hx)
     | ((first
         | (refine callGF ?_)
         | (refine callQGF ?_)
         | (refine skipG ?_)
         | (refine callS (szLeg_gives l _ _) ?_)
         | (refine callQ (szLeg_gives l _ _) ?_)
         | (refine callG (fun hc => (szLeg_gives l _ _)) ?_)
         | (refine callQG (fun hc => (szLeg_gives l _ _)) ?_)
         | (refine callS (toLeg_gives l _) ?_)
         | (refine callQ (toLeg_gives l _) ?_)
         | (refine callG (fun hc => (toLeg_gives l _)) ?_)
         | (refine callQG (fun hc => (toLeg_gives l _)) ?_)
         | (refine callS (specLegOk_gives l _) ?_)
         | (refine callQ (specLegOk_gives l _) ?_)
         | (refine callG (fun hc => (specLegOk_gives l _)) ?_)
         | (refine callQG (fun hc => (specLegOk_gives l _)) ?_)
         | (refine callS (implLegOk_gives l _) ?_)
         | (refine callQ (implLegOk_gives l _) ?_)
         | (refine callG (fun hc => (implLegOk_gives l _)) ?_)
         | (refine callQG (fun hc => (implLegOk_gives l _)) ?_)
         | (refine callS (eqLeg_gives l l _) ?_)
         | (refine callQ (eqLeg_gives l l _) ?_)
         | (refine callG (fun hc => (eqLeg_gives l l _)) ?_)
         | (refine callQG (fun hc => (eqLeg_gives l l _)) ?_)); simp -implicitDefEqProofs only [push_cast, Nat.reduceEqDiff, Nat.reduceBEq, Nat.reduceBNe, Nat.reduceAdd, Nat.reduceMul, Nat.reduceLT, Nat.reduceLeDiff, Nat.reduceSub, reduceCtorEq, Int.reduceToNat, ↓reduceIte]))
  · rw [legB_spec] at hx
    simp at hx
  · rw [eqLegB_self] at hx
    cases hx
end Go.Proofs.Ytmehbbepppjikaa
