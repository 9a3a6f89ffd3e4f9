/- Contracts of functions of the program (H4). -/
import Derived.Test.YtmehbbepppjikaaH3
import Derived.Test.YtmehbbepppjikaaD2

namespace Go.Proofs.Ytmehbbepppjikaa
open Go.Av
set_option maxRecDepth 10000
set_option maxHeartbeats 1000000
set_option linter.unusedSimpArgs false
set_option linter.unusedVariables false

/-- what LegHold hands back -/
def heldV (l : Leg) (o : Hold) (s : Int) : Leg := if legB l then (if canB l o s then holdL l o else l) else default
def heldB (l : Leg) (o : Hold) (s : Int) : Bool := legB l && canB l o s
theorem implLegHold_gives (l : Leg) (o : Hold) (s : Int) (h : Hp) : Gives Try.prog 53 [l.d, o.d, .int .i64 s] h (.tup [(heldV l o s).d, .bool (heldB l o s)]) := by
  cases hb : legB l with
  | false =>
    rw [heldV, heldB, hb]
    show Gives _ _ _ _ (.tup [Leg.d default, .bool false])
    refine meets_of [] mixed Try.func53 rfl (by kernel_rfl) (by kernel_rfl) (by rw [Try.ntmps53]; simp only [List.length_cons, List.length_nil]; omega) (fun hf => ?_)
    rw [Try.results53]
    clear hf
    try simp -implicitDefEqProofs only [hb, push_cast, Nat.reduceEqDiff, Nat.reduceBEq, Nat.reduceBNe, Nat.reduceAdd, Nat.reduceMul, Nat.reduceLT, Nat.reduceLeDiff, Nat.reduceSub, reduceCtorEq, Int.reduceToNat, ↓reduceIte]
    repeat'
      (first
       | (refine uYes ?_; first | exact List.mem_cons_self | (simp only [List.mem_cons, List.not_mem_nil, or_false, true_or, or_true]; done))
       | (refine uNo (by kernel_rfl))
       | (refine flatMk ?_; kernel_rfl)
       | (refine And.intro ?_ ?_)
       | (intro hx)
       | ((first
           | (refine callGF ?_)
           | (refine callQGF ?_)
           | (refine skipG ?_)
           | (refine callS (implLegOk_gives l _) ?_)
           | (refine callQ (implLegOk_gives l _) ?_)
           | (refine callG (fun hc => (implLegOk_gives l _)) ?_)
           | (refine callQG (fun hc => (implLegOk_gives l _)) ?_)); simp -implicitDefEqProofs only [hb, push_cast, Nat.reduceEqDiff, Nat.reduceBEq, Nat.reduceBNe, Nat.reduceAdd, Nat.reduceMul, Nat.reduceLT, Nat.reduceLeDiff, Nat.reduceSub, reduceCtorEq, Int.reduceToNat, ↓reduceIte]))
    all_goals first
      | rfl
      | trace_state
  | true =>
    have hp := legP_of hb
    cases hc : canB l o s with
    | false =>
      rw [heldV, heldB, hb, hc]
      show Gives _ _ _ _ (.tup [l.d, .bool false])
      refine meets_of [] mixed Try.func53 rfl (by kernel_rfl) (by kernel_rfl) (by rw [Try.ntmps53]; simp only [List.length_cons, List.length_nil]; omega) (fun hf => ?_)
      rw [Try.results53]
      clear hf
      try simp -implicitDefEqProofs only [hb, Leg.fd, Leg.fc, push_cast, Nat.reduceEqDiff, Nat.reduceBEq, Nat.reduceBNe, Nat.reduceAdd, Nat.reduceMul, Nat.reduceLT, Nat.reduceLeDiff, Nat.reduceSub, reduceCtorEq, Int.reduceToNat, ↓reduceIte]
      repeat'
        (first
         | (refine uYes ?_; first | exact List.mem_cons_self | (simp only [List.mem_cons, List.not_mem_nil, or_false, true_or, or_true]; done))
         | (refine uNo (by kernel_rfl))
         | (refine flatMk ?_; kernel_rfl)
         | (refine And.intro ?_ ?_)
         | (intro hx)
         | ((first
             | (refine callGF ?_)
             | (refine callQGF ?_)
             | (refine skipG ?_)
             | (refine callS (implLegOk_gives l _) ?_)
             | (refine callQ (implLegOk_gives l _) ?_)
             | (refine callG (fun hc => (implLegOk_gives l _)) ?_)
             | (refine callQG (fun hc => (implLegOk_gives l _)) ?_)
             | (refine callS (copyF_gives l _) ?_)
             | (refine callQ (copyF_gives l _) ?_)
             | (refine callG (fun hc => (copyF_gives l _)) ?_)
             | (refine callQG (fun hc => (copyF_gives l _)) ?_)
             | (refine callS (holdF_no l o s (h.length + 3) _ (ob_app h _ 3) (by simp) hp hc) ?_)
             | (refine callQ (holdF_no l o s (h.length + 3) _ (ob_app h _ 3) (by simp) hp hc) ?_)
             | (refine callG (fun hc => (holdF_no l o s (h.length + 3) _ (ob_app h _ 3) (by simp) hp hc)) ?_)
             | (refine callQG (fun hc => (holdF_no l o s (h.length + 3) _ (ob_app h _ 3) (by simp) hp hc)) ?_)); simp -implicitDefEqProofs only [hb, Leg.fd, Leg.fc, push_cast, Nat.reduceEqDiff, Nat.reduceBEq, Nat.reduceBNe, Nat.reduceAdd, Nat.reduceMul, Nat.reduceLT, Nat.reduceLeDiff, Nat.reduceSub, reduceCtorEq, Int.reduceToNat, ↓reduceIte]))
      all_goals first
        | omega
        | rfl
        | trace_state
    | true =>
      rw [heldV, heldB, hb, hc]
      show Gives _ _ _ _ (.tup [(holdL l o).d, .bool true])
      generalize e : holdL l o = x
      refine meets_of [] mixed Try.func53 rfl (by kernel_rfl) (by kernel_rfl) (by rw [Try.ntmps53]; simp only [List.length_cons, List.length_nil]; omega) (fun hf => ?_)
      rw [Try.results53]
      clear hf
      try simp -implicitDefEqProofs only [hb, Leg.fd, Leg.fc, set_app, push_cast, Nat.reduceEqDiff, Nat.reduceBEq, Nat.reduceBNe, Nat.reduceAdd, Nat.reduceMul, Nat.reduceLT, Nat.reduceLeDiff, Nat.reduceSub, reduceCtorEq, Int.reduceToNat, ↓reduceIte]
      repeat'
        (first
         | (refine uYes ?_; first | exact List.mem_cons_self | (simp only [List.mem_cons, List.not_mem_nil, or_false, true_or, or_true]; done))
         | (refine uNo (by kernel_rfl))
         | (refine flatMk ?_; kernel_rfl)
         | (refine And.intro ?_ ?_)
         | (intro hx)
         | ((first
             | (refine callGF ?_)
             | (refine callQGF ?_)
             | (refine skipG ?_)
             | (refine callS (implLegOk_gives l _) ?_)
             | (refine callQ (implLegOk_gives l _) ?_)
             | (refine callG (fun hc => (implLegOk_gives l _)) ?_)
             | (refine callQG (fun hc => (implLegOk_gives l _)) ?_)
             | (refine callS (copyF_gives l _) ?_)
             | (refine callQ (copyF_gives l _) ?_)
             | (refine callG (fun hc => (copyF_gives l _)) ?_)
             | (refine callQG (fun hc => (copyF_gives l _)) ?_)
             | (refine callM (e ▸ holdF_yes l o s (h.length + 3) _ (ob_app h _ 3) (by simp) hp hc) ?_)); simp -implicitDefEqProofs only [hb, Leg.fd, Leg.fc, set_app, push_cast, Nat.reduceEqDiff, Nat.reduceBEq, Nat.reduceBNe, Nat.reduceAdd, Nat.reduceMul, Nat.reduceLT, Nat.reduceLeDiff, Nat.reduceSub, reduceCtorEq, Int.reduceToNat, ↓reduceIte]))
      all_goals first
        | omega
        | rfl
        | trace_state
theorem specLegHold_gives (l : Leg) (o : Hold) (s : Int) (h : Hp) : Gives Try.prog 59 [l.d, o.d, .int .i64 s] h (.tup [(heldV l o s).d, .bool (heldB l o s)]) := by
  cases hb : legB l with
  | false =>
    rw [heldV, heldB, hb]
    show Gives _ _ _ _ (.tup [Leg.d default, .bool false])
    refine meets_of [] mixed Try.func59 rfl (by kernel_rfl) (by kernel_rfl) (by rw [Try.ntmps59]; simp only [List.length_cons, List.length_nil]; omega) (fun hf => ?_)
    rw [Try.results59]
    clear hf
    try simp -implicitDefEqProofs only [← legB_spec, hb, push_cast, Nat.reduceEqDiff, Nat.reduceBEq, Nat.reduceBNe, Nat.reduceAdd, Nat.reduceMul, Nat.reduceLT, Nat.reduceLeDiff, Nat.reduceSub, reduceCtorEq, Int.reduceToNat, ↓reduceIte]
    repeat'
      (first
       | (refine uYes ?_; first | exact List.mem_cons_self | (simp only [List.mem_cons, List.not_mem_nil, or_false, true_or, or_true]; done))
       | (refine uNo (by kernel_rfl))
       | (refine flatMk ?_; kernel_rfl)
       | (refine And.intro ?_ ?_)
       | (intro hx)
       | ((first
           | (refine callGF ?_)
           | (refine callQGF ?_)
           | (refine skipG ?_)
           | (refine callS (specLegOk_gives l _) ?_)
           | (refine callQ (specLegOk_gives l _) ?_)
           | (refine callG (fun hc => (specLegOk_gives l _)) ?_)
           | (refine callQG (fun hc => (specLegOk_gives l _)) ?_)); simp -implicitDefEqProofs only [← legB_spec, hb, push_cast, Nat.reduceEqDiff, Nat.reduceBEq, Nat.reduceBNe, Nat.reduceAdd, Nat.reduceMul, Nat.reduceLT, Nat.reduceLeDiff, Nat.reduceSub, reduceCtorEq, Int.reduceToNat, ↓reduceIte]))
    all_goals first
      | rfl
      | trace_state
  | true =>
    have hp := legP_of hb
    rw [heldV, heldB, hb]
    show Gives _ _ _ _ (.tup [(if canB l o s then holdL l o else l).d, .bool (canB l o s)])
    have hH := fun g => l6Hold_gives l o s g hp
    generalize (if canB l o s then holdL l o else l) = x at hH
    generalize canB l o s = c at hH
    refine meets_of [] mixed Try.func59 rfl (by kernel_rfl) (by kernel_rfl) (by rw [Try.ntmps59]; simp only [List.length_cons, List.length_nil]; omega) (fun hf => ?_)
    rw [Try.results59]
    clear hf
    try simp -implicitDefEqProofs only [← legB_spec, hb, push_cast, Nat.reduceEqDiff, Nat.reduceBEq, Nat.reduceBNe, Nat.reduceAdd, Nat.reduceMul, Nat.reduceLT, Nat.reduceLeDiff, Nat.reduceSub, reduceCtorEq, Int.reduceToNat, ↓reduceIte]
    repeat'
      (first
       | (refine uYes ?_; first | exact List.mem_cons_self | (simp only [List.mem_cons, List.not_mem_nil, or_false, true_or, or_true]; done))
       | (refine uNo (by kernel_rfl))
       | (refine flatMk ?_; kernel_rfl)
       | (refine And.intro ?_ ?_)
       | (intro hx)
       | ((first
           | (refine callGF ?_)
           | (refine callQGF ?_)
           | (refine skipG ?_)
           | (refine callS (specLegOk_gives l _) ?_)
           | (refine callQ (specLegOk_gives l _) ?_)
           | (refine callG (fun hc => (specLegOk_gives l _)) ?_)
           | (refine callQG (fun hc => (specLegOk_gives l _)) ?_)
           | (refine callS (hH _) ?_)
           | (refine callQ (hH _) ?_)
           | (refine callG (fun hc => (hH _)) ?_)
           | (refine callQG (fun hc => (hH _)) ?_)
           | (refine callS (l6Copy_gives x _) ?_)
           | (refine callQ (l6Copy_gives x _) ?_)
           | (refine callG (fun hc => (l6Copy_gives x _)) ?_)
           | (refine callQG (fun hc => (l6Copy_gives x _)) ?_)); simp -implicitDefEqProofs only [← legB_spec, hb, push_cast, Nat.reduceEqDiff, Nat.reduceBEq, Nat.reduceBNe, Nat.reduceAdd, Nat.reduceMul, Nat.reduceLT, Nat.reduceLeDiff, Nat.reduceSub, reduceCtorEq, Int.reduceToNat, ↓reduceIte]))
    all_goals first
      | rfl
      | trace_state
end Go.Proofs.Ytmehbbepppjikaa
