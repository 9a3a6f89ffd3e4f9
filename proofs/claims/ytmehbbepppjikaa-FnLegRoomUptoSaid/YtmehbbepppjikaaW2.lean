/- Contracts of functions of the program (W2). -/
import Derived.Test.YtmehbbepppjikaaW1

namespace Go.Proofs.Ytmehbbepppjikaa
open Go.Av
set_option maxRecDepth 10000
set_option maxHeartbeats 1000000
set_option linter.unusedSimpArgs false
set_option linter.unusedVariables false

theorem fnLegRoom_gives (bs : List Int) (h : Hp) (hb : ∀ x, x ∈ bs → 0 ≤ x ∧ x ≤ 255) : Gives Try.prog 4 [.slice (bs.map (.int .u8)) .no] h (.bool true) := by
  have hD := fun g => drawLegRoom_gives bs g hb
  generalize roomD bs = s at hD
  obtain ⟨l, c⟩ := s
  simp only at hD
  refine meets_of [] mixed Try.func4 rfl (by kernel_rfl) (by kernel_rfl) (by rw [Try.ntmps4]; simp only [List.length_cons, List.length_nil]; omega) (fun hf => ?_)
  rw [Try.results4]
  clear hf
  have hbad := legRoomV_bad' (l := l) (c := c)
  have hgood := legRoomV_good' (l := l) (c := c)
  try simp -implicitDefEqProofs only [← legB_spec, push_cast, Nat.reduceEqDiff, Nat.reduceBEq, Nat.reduceBNe, Nat.reduceAdd, Nat.reduceMul, Nat.reduceLT, Nat.reduceLeDiff, Nat.reduceSub, reduceCtorEq, Int.reduceToNat, ↓reduceIte]
  repeat'
    (first
     | (refine uYes ?_; first | exact List.mem_cons_self | (simp only [List.mem_cons, List.not_mem_nil, or_false, true_or, or_true]; done))
     | (refine uNo (by kernel_rfl))
     | (refine flatMk ?_; kernel_rfl)
     | (refine And.intro ?_ ?_)
     | (intro hx)
     | ((first
         | (refine callGF ?_)
         | (refine callQGF ?_)
         | (refine skipG ?_)
         | (refine callS (hD _) ?_)
         | (refine callQ (hD _) ?_)
         | (refine callG (fun hc => (hD _)) ?_)
         | (refine callQG (fun hc => (hD _)) ?_)
         | (refine callS (implLegRoom_gives l _ _) ?_)
         | (refine callQ (implLegRoom_gives l _ _) ?_)
         | (refine callG (fun hc => (implLegRoom_gives l _ _)) ?_)
         | (refine callQG (fun hc => (implLegRoom_gives l _ _)) ?_)
         | (refine callS (specLegRoom_gives l _ _) ?_)
         | (refine callQ (specLegRoom_gives l _ _) ?_)
         | (refine callG (fun hc => (specLegRoom_gives l _ _)) ?_)
         | (refine callQG (fun hc => (specLegRoom_gives l _ _)) ?_)
         | (refine callS (implLegOk_gives l _) ?_)
         | (refine callQ (implLegOk_gives l _) ?_)
         | (refine callG (fun hc => (implLegOk_gives l _)) ?_)
         | (refine callQG (fun hc => (implLegOk_gives l _)) ?_)
         | (refine callS (specLegOk_gives l _) ?_)
         | (refine callQ (specLegOk_gives l _) ?_)
         | (refine callG (fun hc => (specLegOk_gives l _)) ?_)
         | (refine callQG (fun hc => (specLegOk_gives l _)) ?_)
         | (refine callS (wsIn_gives _ _ _ _) ?_)
         | (refine callQ (wsIn_gives _ _ _ _) ?_)
         | (refine callG (fun hc => (wsIn_gives _ _ _ _)) ?_)
         | (refine callQG (fun hc => (wsIn_gives _ _ _ _)) ?_)); simp -implicitDefEqProofs only [← legB_spec, push_cast, Nat.reduceEqDiff, Nat.reduceBEq, Nat.reduceBNe, Nat.reduceAdd, Nat.reduceMul, Nat.reduceLT, Nat.reduceLeDiff, Nat.reduceSub, reduceCtorEq, Int.reduceToNat, ↓reduceIte]))
  all_goals first
    | (have := hgood (by assumption); omega)
    | exact hbad (by assumption)
    | (rw [bne_self_eq_false] at hx; cases hx)
    | trace_state
end Go.Proofs.Ytmehbbepppjikaa
