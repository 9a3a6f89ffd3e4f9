/- Contracts of functions of the program (W7). -/
import Derived.Test.YtmehbbepppjikaaW6

namespace Go.Proofs.Ytmehbbepppjikaa
open Go.Av
set_option maxRecDepth 10000
set_option maxHeartbeats 1000000
set_option linter.unusedSimpArgs false
set_option linter.unusedVariables false

theorem fnLegDrop_gives (bs : List Int) (h : Hp) (hb : ∀ x, x ∈ bs → 0 ≤ x ∧ x ≤ 255) : Gives Try.prog 10 [.slice (bs.map (.int .u8)) .no] h (.bool true) := by
  have hD := fun g => drawLegDrop_gives bs g hb
  generalize keepD bs = s at hD
  obtain ⟨l, n⟩ := s
  simp only at hD
  have hI := fun g => implLegDrop_gives l n g
  have hS := fun g => specLegDrop_gives l n g
  cases hl : legB l with
  | false =>
    rw [hl] at hI hS
    replace hI : ∀ g, Gives Try.prog 47 [l.d, .int .i64 n] g (Leg.d default) := hI
    replace hS : ∀ g, Gives Try.prog 48 [l.d, .int .i64 n] g (Leg.d default) := hS
    refine meets_of [] mixed Try.func10 rfl (by kernel_rfl) (by kernel_rfl) (by rw [Try.ntmps10]; simp only [List.length_cons, List.length_nil]; omega) (fun hf => ?_)
    rw [Try.results10]
    clear hf
    try simp -implicitDefEqProofs only [← legB_spec, hl, push_cast, Nat.reduceEqDiff, Nat.reduceBEq, Nat.reduceBNe, Nat.reduceAdd, Nat.reduceMul, Nat.reduceLT, Nat.reduceLeDiff, Nat.reduceSub, reduceCtorEq, Int.reduceToNat, ↓reduceIte]
    repeat'
      (first
       | (refine uYes ?_; first | exact List.mem_cons_self | (simp only [List.mem_cons, List.not_mem_nil, or_false, true_or, or_true]; done))
       | (refine uNo (by kernel_rfl))
       | (refine flatMk ?_; kernel_rfl)
       | (refine And.intro ?_ ?_)
       | (intro hx)
       | ((first
           | (refine callGF ?_)
           | (refine callQGF ?_)
           | (refine skipG ?_)
           | (refine callS (hD _) ?_)
           | (refine callQ (hD _) ?_)
           | (refine callG (fun hc => (hD _)) ?_)
           | (refine callQG (fun hc => (hD _)) ?_)
           | (refine callS (hI _) ?_)
           | (refine callQ (hI _) ?_)
           | (refine callG (fun hc => (hI _)) ?_)
           | (refine callQG (fun hc => (hI _)) ?_)
           | (refine callS (hS _) ?_)
           | (refine callQ (hS _) ?_)
           | (refine callG (fun hc => (hS _)) ?_)
           | (refine callQG (fun hc => (hS _)) ?_)
           | (refine callS (wsLeg_gives default _) ?_)
           | (refine callQ (wsLeg_gives default _) ?_)
           | (refine callG (fun hc => (wsLeg_gives default _)) ?_)
           | (refine callQG (fun hc => (wsLeg_gives default _)) ?_)
           | (refine callS (implLegOk_gives l _) ?_)
           | (refine callQ (implLegOk_gives l _) ?_)
           | (refine callG (fun hc => (implLegOk_gives l _)) ?_)
           | (refine callQG (fun hc => (implLegOk_gives l _)) ?_)
           | (refine callS (specLegOk_gives l _) ?_)
           | (refine callQ (specLegOk_gives l _) ?_)
           | (refine callG (fun hc => (specLegOk_gives l _)) ?_)
           | (refine callQG (fun hc => (specLegOk_gives l _)) ?_)); simp -implicitDefEqProofs only [← legB_spec, hl, push_cast, Nat.reduceEqDiff, Nat.reduceBEq, Nat.reduceBNe, Nat.reduceAdd, Nat.reduceMul, Nat.reduceLT, Nat.reduceLeDiff, Nat.reduceSub, reduceCtorEq, Int.reduceToNat, ↓reduceIte]))
    all_goals first
      | omega
      | rfl
      | (cases hx; done)
      | trace_state
  | true =>
    rw [hl] at hI hS
    replace hI : ∀ g, Gives Try.prog 47 [l.d, .int .i64 n] g (dropL l n).d := hI
    replace hS : ∀ g, Gives Try.prog 48 [l.d, .int .i64 n] g (dropL l n).d := hS
    obtain ⟨x1, x2, x3, x4, x5⟩ := dropL_facts hl n
    generalize dropL l n = x at hI hS x1 x2 x3 x4 x5
    have hJ : ∀ g, Gives Try.prog 47 [x.d, .int .i64 n] g x.d := fun g => by
      have := implLegDrop_gives x n g
      rwa [x1, if_pos rfl, x4] at this
    have hK : ∀ g, Gives Try.prog 43 [x.d, .int .i64 n] g x.d := fun g => by
      have := implLegKeep_gives x n g
      rwa [x1, if_pos rfl, x5] at this
    have hn := (legP_of hl).holds
    have hw : IntKind.i64.wrap ((l.holds.length : Int) - 1) = (l.holds.length : Int) - 1 := wrap_id (by omega) (by omega)
    have hx2 : decide (x.sold = l.sold) = true := decide_eq_true x2
    have hge : decide ((l.holds.length : Int) - 1 ≤ (x.holds.length : Int)) = true := decide_eq_true x3
    refine meets_of [] mixed Try.func10 rfl (by kernel_rfl) (by kernel_rfl) (by rw [Try.ntmps10]; simp only [List.length_cons, List.length_nil]; omega) (fun hf => ?_)
    rw [Try.results10]
    clear hf
    try simp -implicitDefEqProofs only [← legB_spec, hl, x1, hx2, hw, hge, push_cast, Nat.reduceEqDiff, Nat.reduceBEq, Nat.reduceBNe, Nat.reduceAdd, Nat.reduceMul, Nat.reduceLT, Nat.reduceLeDiff, Nat.reduceSub, reduceCtorEq, Int.reduceToNat, ↓reduceIte]
    repeat'
      (first
       | (refine uYes ?_; first | exact List.mem_cons_self | (simp only [List.mem_cons, List.not_mem_nil, or_false, true_or, or_true]; done))
       | (refine uNo (by kernel_rfl))
       | (refine flatMk ?_; kernel_rfl)
       | (refine And.intro ?_ ?_)
       | (intro hx)
       | ((first
           | (refine callGF ?_)
           | (refine callQGF ?_)
           | (refine skipG ?_)
           | (refine callS (hD _) ?_)
           | (refine callQ (hD _) ?_)
           | (refine callG (fun hc => (hD _)) ?_)
           | (refine callQG (fun hc => (hD _)) ?_)
           | (refine callS (hI _) ?_)
           | (refine callQ (hI _) ?_)
           | (refine callG (fun hc => (hI _)) ?_)
           | (refine callQG (fun hc => (hI _)) ?_)
           | (refine callS (hS _) ?_)
           | (refine callQ (hS _) ?_)
           | (refine callG (fun hc => (hS _)) ?_)
           | (refine callQG (fun hc => (hS _)) ?_)
           | (refine callS (wsLeg_gives x _) ?_)
           | (refine callQ (wsLeg_gives x _) ?_)
           | (refine callG (fun hc => (wsLeg_gives x _)) ?_)
           | (refine callQG (fun hc => (wsLeg_gives x _)) ?_)
           | (refine callS (implLegOk_gives l _) ?_)
           | (refine callQ (implLegOk_gives l _) ?_)
           | (refine callG (fun hc => (implLegOk_gives l _)) ?_)
           | (refine callQG (fun hc => (implLegOk_gives l _)) ?_)
           | (refine callS (specLegOk_gives l _) ?_)
           | (refine callQ (specLegOk_gives l _) ?_)
           | (refine callG (fun hc => (specLegOk_gives l _)) ?_)
           | (refine callQG (fun hc => (specLegOk_gives l _)) ?_)
           | (refine callS (implLegOk_gives x _) ?_)
           | (refine callQ (implLegOk_gives x _) ?_)
           | (refine callG (fun hc => (implLegOk_gives x _)) ?_)
           | (refine callQG (fun hc => (implLegOk_gives x _)) ?_)
           | (refine callS (wsInts_gives _ _ _) ?_)
           | (refine callQ (wsInts_gives _ _ _) ?_)
           | (refine callG (fun hc => (wsInts_gives _ _ _)) ?_)
           | (refine callQG (fun hc => (wsInts_gives _ _ _)) ?_)
           | (refine callS (hJ _) ?_)
           | (refine callQ (hJ _) ?_)
           | (refine callG (fun hc => (hJ _)) ?_)
           | (refine callQG (fun hc => (hJ _)) ?_)
           | (refine callS (hK _) ?_)
           | (refine callQ (hK _) ?_)
           | (refine callG (fun hc => (hK _)) ?_)
           | (refine callQG (fun hc => (hK _)) ?_)); simp -implicitDefEqProofs only [← legB_spec, hl, x1, hx2, hw, hge, push_cast, Nat.reduceEqDiff, Nat.reduceBEq, Nat.reduceBNe, Nat.reduceAdd, Nat.reduceMul, Nat.reduceLT, Nat.reduceLeDiff, Nat.reduceSub, reduceCtorEq, Int.reduceToNat, ↓reduceIte]))
    all_goals first
      | omega
      | rfl
      | (cases hx; done)
      | trace_state
end Go.Proofs.Ytmehbbepppjikaa
