/- Contracts of functions of the program (C4). -/
import Derived.Test.YtmehbbepppjikaaC3

namespace Go.Proofs.Ytmehbbepppjikaa
open Go.Av
set_option maxRecDepth 10000
set_option linter.unusedSimpArgs false
set_option linter.unusedVariables false

def legB (l : Leg) : Bool := nameB l.name && nameB l.src && nameB l.dst && !decide (l.src = l.dst) && inB l.dep 0 9999 && inB l.arr (IntKind.i64.wrap (l.dep + 1)) 9999 && inB l.cap 1 9 &&
  decide ((l.limits.length : Int) = 3) && fallB l.limits l.cap && decide (l.limits.getD 0 0 = l.cap) && decide ((l.sold.length : Int) = 3) && !anyB l.sold (fun x => !inB x 0 l.cap) &&
  inB l.bids.length 1 4 && fallB l.bids 1000000000 && holdsB l
theorem implLegOk_gives (l : Leg) (h : Hp) : Gives Try.prog 24 [l.d] h (.bool (legB l)) := by
  refine meets_of [] mixed Try.func24 rfl (by kernel_rfl) (by kernel_rfl) (by rw [Try.ntmps24]; simp only [List.length_cons, List.length_nil]; omega) (fun hf => ?_)
  rw [Try.results24]
  try simp -implicitDefEqProofs only [push_cast, Nat.reduceEqDiff, Nat.reduceBEq, Nat.reduceBNe, Nat.reduceAdd, Nat.reduceMul, Nat.reduceLT, Nat.reduceLeDiff, Nat.reduceSub, reduceCtorEq, Int.reduceToNat, ↓reduceIte]
  repeat'
    (first
     | (refine uYes ?_; first | exact List.mem_cons_self | (simp only [List.mem_cons, List.not_mem_nil, or_false, true_or, or_true]; done))
     | (refine uNo (by kernel_rfl))
     | (refine flatMk ?_; kernel_rfl)
     | (refine And.intro ?_ ?_)
     | (intro hx)
     | ((first
         | (refine callGF ?_)
         | (refine callQGF ?_)
         | (refine skipG ?_)
         | (refine callS (implName_gives _ _) ?_)
         | (refine callQ (implName_gives _ _) ?_)
         | (refine callG (fun hc => (implName_gives _ _)) ?_)
         | (refine callQG (fun hc => (implName_gives _ _)) ?_)
         | (refine callS (in_gives _ _ _ _) ?_)
         | (refine callQ (in_gives _ _ _ _) ?_)
         | (refine callG (fun hc => (in_gives _ _ _ _)) ?_)
         | (refine callQG (fun hc => (in_gives _ _ _ _)) ?_)
         | (refine callS (falling_gives _ _ _) ?_)
         | (refine callQ (falling_gives _ _ _) ?_)
         | (refine callG (fun hc => (falling_gives _ _ _)) ?_)
         | (refine callQG (fun hc => (falling_gives _ _ _)) ?_)
         | (refine callS (contains_gives _ _ _ _ (fun x => !inB x 0 l.cap) (fun x => legOk1_gives l x _ _ (by simp only [ob_app0, ob_zero, Leg.cs])) (by simp -implicitDefEqProofs only [push_cast, Nat.reduceEqDiff, Nat.reduceBEq, Nat.reduceBNe, Nat.reduceAdd, Nat.reduceMul, Nat.reduceLT, Nat.reduceLeDiff, Nat.reduceSub, reduceCtorEq, Int.reduceToNat, ↓reduceIte])) ?_)
         | (refine callQ (contains_gives _ _ _ _ (fun x => !inB x 0 l.cap) (fun x => legOk1_gives l x _ _ (by simp only [ob_app0, ob_zero, Leg.cs])) (by simp -implicitDefEqProofs only [push_cast, Nat.reduceEqDiff, Nat.reduceBEq, Nat.reduceBNe, Nat.reduceAdd, Nat.reduceMul, Nat.reduceLT, Nat.reduceLeDiff, Nat.reduceSub, reduceCtorEq, Int.reduceToNat, ↓reduceIte])) ?_)
         | (refine callG (fun hc => (contains_gives _ _ _ _ (fun x => !inB x 0 l.cap) (fun x => legOk1_gives l x _ _ (by simp only [ob_app0, ob_zero, Leg.cs])) (by simp -implicitDefEqProofs only [push_cast, Nat.reduceEqDiff, Nat.reduceBEq, Nat.reduceBNe, Nat.reduceAdd, Nat.reduceMul, Nat.reduceLT, Nat.reduceLeDiff, Nat.reduceSub, reduceCtorEq, Int.reduceToNat, ↓reduceIte]))) ?_)
         | (refine callQG (fun hc => (contains_gives _ _ _ _ (fun x => !inB x 0 l.cap) (fun x => legOk1_gives l x _ _ (by simp only [ob_app0, ob_zero, Leg.cs])) (by simp -implicitDefEqProofs only [push_cast, Nat.reduceEqDiff, Nat.reduceBEq, Nat.reduceBNe, Nat.reduceAdd, Nat.reduceMul, Nat.reduceLT, Nat.reduceLeDiff, Nat.reduceSub, reduceCtorEq, Int.reduceToNat, ↓reduceIte]))) ?_)
         | (refine callS (holdsOk_gives l _ (by simp only [Bool.and_eq_true, decide_eq_true_eq] at hc; omega) (by simp only [Bool.and_eq_true, decide_eq_true_eq] at hc; omega)) ?_)
         | (refine callQ (holdsOk_gives l _ (by simp only [Bool.and_eq_true, decide_eq_true_eq] at hc; omega) (by simp only [Bool.and_eq_true, decide_eq_true_eq] at hc; omega)) ?_)
         | (refine callG (fun hc => (holdsOk_gives l _ (by simp only [Bool.and_eq_true, decide_eq_true_eq] at hc; omega) (by simp only [Bool.and_eq_true, decide_eq_true_eq] at hc; omega))) ?_)
         | (refine callQG (fun hc => (holdsOk_gives l _ (by simp only [Bool.and_eq_true, decide_eq_true_eq] at hc; omega) (by simp only [Bool.and_eq_true, decide_eq_true_eq] at hc; omega))) ?_)); simp -implicitDefEqProofs only [push_cast, Nat.reduceEqDiff, Nat.reduceBEq, Nat.reduceBNe, Nat.reduceAdd, Nat.reduceMul, Nat.reduceLT, Nat.reduceLeDiff, Nat.reduceSub, reduceCtorEq, Int.reduceToNat, ↓reduceIte]))
  all_goals first
    | omega
    | (rw [legB]; done)
    | grind
end Go.Proofs.Ytmehbbepppjikaa
