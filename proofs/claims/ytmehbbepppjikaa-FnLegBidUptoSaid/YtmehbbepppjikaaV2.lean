/- Contracts of functions of the program (V2). -/
import Derived.Test.YtmehbbepppjikaaV1
import Derived.Test.YtmehbbepppjikaaC11

namespace Go.Proofs.Ytmehbbepppjikaa
open Go.Av
set_option maxRecDepth 10000
set_option maxHeartbeats 1000000
set_option linter.unusedSimpArgs false
set_option linter.unusedVariables false

theorem fnLegBid_gives (bs : List Int) (h : Hp) (hb : ∀ x, x ∈ bs → 0 ≤ x ∧ x ≤ 255) : Gives Try.prog 13 [.slice (bs.map (.int .u8)) .no] h (.bool true) := by
  have hD := fun g => drawLegBid_gives bs g hb
  generalize bidD bs = l at hD
  have hH := fun g => implLegHold_gives l ⟨50, 0, 1⟩ 1000000000 g
  have h0 : decide (0 ≤ legBidV l) = true := decide_eq_true (legBidV_range l).1
  have h1 := bid_rise (l := l) (o := ⟨50, 0, 1⟩) (s := 1000000000)
  generalize heldV l ⟨50, 0, 1⟩ 1000000000 = x at hH h1
  generalize heldB l ⟨50, 0, 1⟩ 1000000000 = c at hH h1
  refine meets_of [] mixed Try.func13 rfl (by kernel_rfl) (by kernel_rfl) (by rw [Try.ntmps13]; simp only [List.length_cons, List.length_nil]; omega) (fun hf => ?_)
  rw [Try.results13]
  clear hf
  try simp -implicitDefEqProofs only [← legB_spec, h0, push_cast, Nat.reduceEqDiff, Nat.reduceBEq, Nat.reduceBNe, Nat.reduceAdd, Nat.reduceMul, Nat.reduceLT, Nat.reduceLeDiff, Nat.reduceSub, reduceCtorEq, Int.reduceToNat, ↓reduceIte]
  repeat'
    (first
     | (refine uYes ?_; first | exact List.mem_cons_self | (simp only [List.mem_cons, List.not_mem_nil, or_false, true_or, or_true]; done))
     | (refine uNo (by kernel_rfl))
     | (refine flatMk ?_; kernel_rfl)
     | (refine And.intro ?_ ?_)
     | (intro hx)
     | ((first
         | (refine callGF ?_)
         | (refine callQGF ?_)
         | (refine skipG ?_)
         | (refine callS (hD _) ?_)
         | (refine callQ (hD _) ?_)
         | (refine callG (fun hc => (hD _)) ?_)
         | (refine callQG (fun hc => (hD _)) ?_)
         | (refine callS (implLegBid_gives l _) ?_)
         | (refine callQ (implLegBid_gives l _) ?_)
         | (refine callG (fun hc => (implLegBid_gives l _)) ?_)
         | (refine callQG (fun hc => (implLegBid_gives l _)) ?_)
         | (refine callS (implLegBid_gives x _) ?_)
         | (refine callQ (implLegBid_gives x _) ?_)
         | (refine callG (fun hc => (implLegBid_gives x _)) ?_)
         | (refine callQG (fun hc => (implLegBid_gives x _)) ?_)
         | (refine callS (specLegBid_gives l _) ?_)
         | (refine callQ (specLegBid_gives l _) ?_)
         | (refine callG (fun hc => (specLegBid_gives l _)) ?_)
         | (refine callQG (fun hc => (specLegBid_gives l _)) ?_)
         | (refine callS (hH _) ?_)
         | (refine callQ (hH _) ?_)
         | (refine callG (fun hc => (hH _)) ?_)
         | (refine callQG (fun hc => (hH _)) ?_)
         | (refine callS (implLegOk_gives l _) ?_)
         | (refine callQ (implLegOk_gives l _) ?_)
         | (refine callG (fun hc => (implLegOk_gives l _)) ?_)
         | (refine callQG (fun hc => (implLegOk_gives l _)) ?_)
         | (refine callS (specLegOk_gives l _) ?_)
         | (refine callQ (specLegOk_gives l _) ?_)
         | (refine callG (fun hc => (specLegOk_gives l _)) ?_)
         | (refine callQG (fun hc => (specLegOk_gives l _)) ?_)); simp -implicitDefEqProofs only [← legB_spec, h0, push_cast, Nat.reduceEqDiff, Nat.reduceBEq, Nat.reduceBNe, Nat.reduceAdd, Nat.reduceMul, Nat.reduceLT, Nat.reduceLeDiff, Nat.reduceSub, reduceCtorEq, Int.reduceToNat, ↓reduceIte]))
  all_goals first
    | omega
    | (rw [bne_self_eq_false] at hx; cases hx; done)
    | (cases hc : c
       · exact .inl rfl
       · exact .inr (h1 hc))
    | trace_state
end Go.Proofs.Ytmehbbepppjikaa
