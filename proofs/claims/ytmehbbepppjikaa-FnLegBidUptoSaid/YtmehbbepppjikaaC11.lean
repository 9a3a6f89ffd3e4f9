/- Contracts of functions of the program (C11). -/
import Derived.Test.YtmehbbepppjikaaC9
import Derived.Test.YtmehbbepppjikaaC10

namespace Go.Proofs.Ytmehbbepppjikaa
open Go.Av
set_option maxRecDepth 10000
set_option linter.unusedSimpArgs false
set_option linter.unusedVariables false

def legRoomV (l : Leg) (c : Int) : Int := if legB l && inB c 0 2 then roomW l 9 (c.toNat + 1) else 0
theorem implLegRoom_gives (l : Leg) (c : Int) (h : Hp) : Gives Try.prog 27 [l.d, .int .i64 c] h (.int .i64 (legRoomV l c)) := by
  refine meets_of [] mixed Try.func27 rfl (by kernel_rfl) (by kernel_rfl) (by rw [Try.ntmps27]; simp only [List.length_cons, List.length_nil]; omega) (fun hf => ?_)
  rw [Try.results27]
  clear hf
  by_cases hb : legB l && inB c 0 2
  · have hc := inB_iff.1 (Bool.and_eq_true _ _ ▸ hb).2
    have hp := legP_of (Bool.and_eq_true _ _ ▸ hb).1
    try simp -implicitDefEqProofs only [push_cast, Nat.reduceEqDiff, Nat.reduceBEq, Nat.reduceBNe, Nat.reduceAdd, Nat.reduceMul, Nat.reduceLT, Nat.reduceLeDiff, Nat.reduceSub, reduceCtorEq, Int.reduceToNat, ↓reduceIte]
    repeat'
      (first
       | (refine uYes ?_; first | exact List.mem_cons_self | (simp only [List.mem_cons, List.not_mem_nil, or_false, true_or, or_true]; done))
       | (refine uNo (by kernel_rfl))
       | (refine flatMk ?_; kernel_rfl)
       | (refine And.intro ?_ ?_)
       | (intro hx)
       | ((first
           | (refine callGF ?_)
           | (refine callQGF ?_)
           | (refine skipG ?_)
           | (refine callS (implLegOk_gives l _) ?_)
           | (refine callQ (implLegOk_gives l _) ?_)
           | (refine callG (fun hc => (implLegOk_gives l _)) ?_)
           | (refine callQG (fun hc => (implLegOk_gives l _)) ?_)
           | (refine callS (isClass_gives c _) ?_)
           | (refine callQ (isClass_gives c _) ?_)
           | (refine callG (fun hc => (isClass_gives c _)) ?_)
           | (refine callQG (fun hc => (isClass_gives c _)) ?_)
           | (refine callS (room_gives l c _ hc.1 hc.2 hp.limits hp.sold) ?_)
           | (refine callQ (room_gives l c _ hc.1 hc.2 hp.limits hp.sold) ?_)
           | (refine callG (fun hc => (room_gives l c _ hc.1 hc.2 hp.limits hp.sold)) ?_)
           | (refine callQG (fun hc => (room_gives l c _ hc.1 hc.2 hp.limits hp.sold)) ?_)); simp -implicitDefEqProofs only [push_cast, Nat.reduceEqDiff, Nat.reduceBEq, Nat.reduceBNe, Nat.reduceAdd, Nat.reduceMul, Nat.reduceLT, Nat.reduceLeDiff, Nat.reduceSub, reduceCtorEq, Int.reduceToNat, ↓reduceIte]))
    all_goals simp only [legRoomV]
    all_goals grind
  · try simp -implicitDefEqProofs only [push_cast, Nat.reduceEqDiff, Nat.reduceBEq, Nat.reduceBNe, Nat.reduceAdd, Nat.reduceMul, Nat.reduceLT, Nat.reduceLeDiff, Nat.reduceSub, reduceCtorEq, Int.reduceToNat, ↓reduceIte]
    repeat'
      (first
       | (refine uYes ?_; first | exact List.mem_cons_self | (simp only [List.mem_cons, List.not_mem_nil, or_false, true_or, or_true]; done))
       | (refine uNo (by kernel_rfl))
       | (refine flatMk ?_; kernel_rfl)
       | (refine And.intro ?_ ?_)
       | (intro hx)
       | ((first
           | (refine callGF ?_)
           | (refine callQGF ?_)
           | (refine skipG ?_)
           | (refine callS (implLegOk_gives l _) ?_)
           | (refine callQ (implLegOk_gives l _) ?_)
           | (refine callG (fun hc => (implLegOk_gives l _)) ?_)
           | (refine callQG (fun hc => (implLegOk_gives l _)) ?_)
           | (refine callS (isClass_gives c _) ?_)
           | (refine callQ (isClass_gives c _) ?_)
           | (refine callG (fun hc => (isClass_gives c _)) ?_)
           | (refine callQG (fun hc => (isClass_gives c _)) ?_)); simp -implicitDefEqProofs only [push_cast, Nat.reduceEqDiff, Nat.reduceBEq, Nat.reduceBNe, Nat.reduceAdd, Nat.reduceMul, Nat.reduceLT, Nat.reduceLeDiff, Nat.reduceSub, reduceCtorEq, Int.reduceToNat, ↓reduceIte]))
    all_goals simp only [legRoomV]
    all_goals grind
theorem specLegRoom_gives (l : Leg) (c : Int) (h : Hp) : Gives Try.prog 28 [l.d, .int .i64 c] h (.int .i64 (legRoomV l c)) := by
  refine meets_of [] mixed Try.func28 rfl (by kernel_rfl) (by kernel_rfl) (by rw [Try.ntmps28]; simp only [List.length_cons, List.length_nil]; omega) (fun hf => ?_)
  rw [Try.results28]
  clear hf
  by_cases hb : legB l && inB c 0 2
  · have hc := inB_iff.1 (Bool.and_eq_true _ _ ▸ hb).2
    have hp := legP_of (Bool.and_eq_true _ _ ▸ hb).1
    have e := (hp.roomW (k := c.toNat) (by omega)).1
    try simp -implicitDefEqProofs only [← legB_spec, push_cast, Nat.reduceEqDiff, Nat.reduceBEq, Nat.reduceBNe, Nat.reduceAdd, Nat.reduceMul, Nat.reduceLT, Nat.reduceLeDiff, Nat.reduceSub, reduceCtorEq, Int.reduceToNat, ↓reduceIte]
    repeat'
      (first
       | (refine uYes ?_; first | exact List.mem_cons_self | (simp only [List.mem_cons, List.not_mem_nil, or_false, true_or, or_true]; done))
       | (refine uNo (by kernel_rfl))
       | (refine flatMk ?_; kernel_rfl)
       | (refine And.intro ?_ ?_)
       | (intro hx)
       | ((first
           | (refine callGF ?_)
           | (refine callQGF ?_)
           | (refine skipG ?_)
           | (refine callS (specLegOk_gives l _) ?_)
           | (refine callQ (specLegOk_gives l _) ?_)
           | (refine callG (fun hc => (specLegOk_gives l _)) ?_)
           | (refine callQG (fun hc => (specLegOk_gives l _)) ?_)
           | (refine callS (l1In_gives _ _ _ _) ?_)
           | (refine callQ (l1In_gives _ _ _ _) ?_)
           | (refine callG (fun hc => (l1In_gives _ _ _ _)) ?_)
           | (refine callQG (fun hc => (l1In_gives _ _ _ _)) ?_)
           | (refine callS (specRoom_gives l c _ hc.1 hc.2 hp.limits hp.sold) ?_)
           | (refine callQ (specRoom_gives l c _ hc.1 hc.2 hp.limits hp.sold) ?_)
           | (refine callG (fun hc => (specRoom_gives l c _ hc.1 hc.2 hp.limits hp.sold)) ?_)
           | (refine callQG (fun hc => (specRoom_gives l c _ hc.1 hc.2 hp.limits hp.sold)) ?_)); simp -implicitDefEqProofs only [← legB_spec, push_cast, Nat.reduceEqDiff, Nat.reduceBEq, Nat.reduceBNe, Nat.reduceAdd, Nat.reduceMul, Nat.reduceLT, Nat.reduceLeDiff, Nat.reduceSub, reduceCtorEq, Int.reduceToNat, ↓reduceIte]))
    all_goals simp only [legRoomV, e]
    all_goals grind
  · try simp -implicitDefEqProofs only [← legB_spec, push_cast, Nat.reduceEqDiff, Nat.reduceBEq, Nat.reduceBNe, Nat.reduceAdd, Nat.reduceMul, Nat.reduceLT, Nat.reduceLeDiff, Nat.reduceSub, reduceCtorEq, Int.reduceToNat, ↓reduceIte]
    repeat'
      (first
       | (refine uYes ?_; first | exact List.mem_cons_self | (simp only [List.mem_cons, List.not_mem_nil, or_false, true_or, or_true]; done))
       | (refine uNo (by kernel_rfl))
       | (refine flatMk ?_; kernel_rfl)
       | (refine And.intro ?_ ?_)
       | (intro hx)
       | ((first
           | (refine callGF ?_)
           | (refine callQGF ?_)
           | (refine skipG ?_)
           | (refine callS (specLegOk_gives l _) ?_)
           | (refine callQ (specLegOk_gives l _) ?_)
           | (refine callG (fun hc => (specLegOk_gives l _)) ?_)
           | (refine callQG (fun hc => (specLegOk_gives l _)) ?_)
           | (refine callS (l1In_gives _ _ _ _) ?_)
           | (refine callQ (l1In_gives _ _ _ _) ?_)
           | (refine callG (fun hc => (l1In_gives _ _ _ _)) ?_)
           | (refine callQG (fun hc => (l1In_gives _ _ _ _)) ?_)); simp -implicitDefEqProofs only [← legB_spec, push_cast, Nat.reduceEqDiff, Nat.reduceBEq, Nat.reduceBNe, Nat.reduceAdd, Nat.reduceMul, Nat.reduceLT, Nat.reduceLeDiff, Nat.reduceSub, reduceCtorEq, Int.reduceToNat, ↓reduceIte]))
    all_goals simp only [legRoomV]
    all_goals grind

def legBidV (l : Leg) : Int := if legB l then bidV l else 0
theorem implLegBid_gives (l : Leg) (h : Hp) : Gives Try.prog 31 [l.d] h (.int .i64 (legBidV l)) := by
  refine meets_of [] mixed Try.func31 rfl (by kernel_rfl) (by kernel_rfl) (by rw [Try.ntmps31]; simp only [List.length_cons, List.length_nil]; omega) (fun hf => ?_)
  rw [Try.results31]
  clear hf
  by_cases hb : legB l = true
  · try simp -implicitDefEqProofs only [push_cast, Nat.reduceEqDiff, Nat.reduceBEq, Nat.reduceBNe, Nat.reduceAdd, Nat.reduceMul, Nat.reduceLT, Nat.reduceLeDiff, Nat.reduceSub, reduceCtorEq, Int.reduceToNat, ↓reduceIte]
    repeat'
      (first
       | (refine uYes ?_; first | exact List.mem_cons_self | (simp only [List.mem_cons, List.not_mem_nil, or_false, true_or, or_true]; done))
       | (refine uNo (by kernel_rfl))
       | (refine flatMk ?_; kernel_rfl)
       | (refine And.intro ?_ ?_)
       | (intro hx)
       | ((first
           | (refine callGF ?_)
           | (refine callQGF ?_)
           | (refine skipG ?_)
           | (refine callS (implLegOk_gives l _) ?_)
           | (refine callQ (implLegOk_gives l _) ?_)
           | (refine callG (fun hc => (implLegOk_gives l _)) ?_)
           | (refine callQG (fun hc => (implLegOk_gives l _)) ?_)
           | (refine callS (bid_gives l _ hb) ?_)
           | (refine callQ (bid_gives l _ hb) ?_)
           | (refine callG (fun hc => (bid_gives l _ hb)) ?_)
           | (refine callQG (fun hc => (bid_gives l _ hb)) ?_)); simp -implicitDefEqProofs only [push_cast, Nat.reduceEqDiff, Nat.reduceBEq, Nat.reduceBNe, Nat.reduceAdd, Nat.reduceMul, Nat.reduceLT, Nat.reduceLeDiff, Nat.reduceSub, reduceCtorEq, Int.reduceToNat, ↓reduceIte]))
    all_goals simp only [legBidV]
    all_goals grind
  · try simp -implicitDefEqProofs only [push_cast, Nat.reduceEqDiff, Nat.reduceBEq, Nat.reduceBNe, Nat.reduceAdd, Nat.reduceMul, Nat.reduceLT, Nat.reduceLeDiff, Nat.reduceSub, reduceCtorEq, Int.reduceToNat, ↓reduceIte]
    repeat'
      (first
       | (refine uYes ?_; first | exact List.mem_cons_self | (simp only [List.mem_cons, List.not_mem_nil, or_false, true_or, or_true]; done))
       | (refine uNo (by kernel_rfl))
       | (refine flatMk ?_; kernel_rfl)
       | (refine And.intro ?_ ?_)
       | (intro hx)
       | ((first
           | (refine callGF ?_)
           | (refine callQGF ?_)
           | (refine skipG ?_)
           | (refine callS (implLegOk_gives l _) ?_)
           | (refine callQ (implLegOk_gives l _) ?_)
           | (refine callG (fun hc => (implLegOk_gives l _)) ?_)
           | (refine callQG (fun hc => (implLegOk_gives l _)) ?_)); simp -implicitDefEqProofs only [push_cast, Nat.reduceEqDiff, Nat.reduceBEq, Nat.reduceBNe, Nat.reduceAdd, Nat.reduceMul, Nat.reduceLT, Nat.reduceLeDiff, Nat.reduceSub, reduceCtorEq, Int.reduceToNat, ↓reduceIte]))
    all_goals simp only [legBidV]
    all_goals grind
theorem specLegBid_gives (l : Leg) (h : Hp) : Gives Try.prog 30 [l.d] h (.int .i64 (legBidV l)) := by
  refine meets_of [] mixed Try.func30 rfl (by kernel_rfl) (by kernel_rfl) (by rw [Try.ntmps30]; simp only [List.length_cons, List.length_nil]; omega) (fun hf => ?_)
  rw [Try.results30]
  clear hf
  by_cases hb : legB l = true
  · try simp -implicitDefEqProofs only [← legB_spec, push_cast, Nat.reduceEqDiff, Nat.reduceBEq, Nat.reduceBNe, Nat.reduceAdd, Nat.reduceMul, Nat.reduceLT, Nat.reduceLeDiff, Nat.reduceSub, reduceCtorEq, Int.reduceToNat, ↓reduceIte]
    repeat'
      (first
       | (refine uYes ?_; first | exact List.mem_cons_self | (simp only [List.mem_cons, List.not_mem_nil, or_false, true_or, or_true]; done))
       | (refine uNo (by kernel_rfl))
       | (refine flatMk ?_; kernel_rfl)
       | (refine And.intro ?_ ?_)
       | (intro hx)
       | ((first
           | (refine callGF ?_)
           | (refine callQGF ?_)
           | (refine skipG ?_)
           | (refine callS (specLegOk_gives l _) ?_)
           | (refine callQ (specLegOk_gives l _) ?_)
           | (refine callG (fun hc => (specLegOk_gives l _)) ?_)
           | (refine callQG (fun hc => (specLegOk_gives l _)) ?_)
           | (refine callS (specBid_gives l _ hb) ?_)
           | (refine callQ (specBid_gives l _ hb) ?_)
           | (refine callG (fun hc => (specBid_gives l _ hb)) ?_)
           | (refine callQG (fun hc => (specBid_gives l _ hb)) ?_)); simp -implicitDefEqProofs only [← legB_spec, push_cast, Nat.reduceEqDiff, Nat.reduceBEq, Nat.reduceBNe, Nat.reduceAdd, Nat.reduceMul, Nat.reduceLT, Nat.reduceLeDiff, Nat.reduceSub, reduceCtorEq, Int.reduceToNat, ↓reduceIte]))
    all_goals simp only [legBidV]
    all_goals grind
  · try simp -implicitDefEqProofs only [← legB_spec, push_cast, Nat.reduceEqDiff, Nat.reduceBEq, Nat.reduceBNe, Nat.reduceAdd, Nat.reduceMul, Nat.reduceLT, Nat.reduceLeDiff, Nat.reduceSub, reduceCtorEq, Int.reduceToNat, ↓reduceIte]
    repeat'
      (first
       | (refine uYes ?_; first | exact List.mem_cons_self | (simp only [List.mem_cons, List.not_mem_nil, or_false, true_or, or_true]; done))
       | (refine uNo (by kernel_rfl))
       | (refine flatMk ?_; kernel_rfl)
       | (refine And.intro ?_ ?_)
       | (intro hx)
       | ((first
           | (refine callGF ?_)
           | (refine callQGF ?_)
           | (refine skipG ?_)
           | (refine callS (specLegOk_gives l _) ?_)
           | (refine callQ (specLegOk_gives l _) ?_)
           | (refine callG (fun hc => (specLegOk_gives l _)) ?_)
           | (refine callQG (fun hc => (specLegOk_gives l _)) ?_)); simp -implicitDefEqProofs only [← legB_spec, push_cast, Nat.reduceEqDiff, Nat.reduceBEq, Nat.reduceBNe, Nat.reduceAdd, Nat.reduceMul, Nat.reduceLT, Nat.reduceLeDiff, Nat.reduceSub, reduceCtorEq, Int.reduceToNat, ↓reduceIte]))
    all_goals simp only [legBidV]
    all_goals grind

theorem fnExactLegRoom_gives (l : Leg) (c : Int) (h : Hp) : Gives Try.prog 5 [l.d, .int .i64 c] h (.bool true) := by
  refine meets_of [] mixed Try.func5 rfl (by kernel_rfl) (by kernel_rfl) (by rw [Try.ntmps5]; simp only [List.length_cons, List.length_nil]; omega) (fun hf => ?_)
  rw [Try.results5]
  clear hf
  try simp -implicitDefEqProofs only [eqLegB_self, push_cast, Nat.reduceEqDiff, Nat.reduceBEq, Nat.reduceBNe, Nat.reduceAdd, Nat.reduceMul, Nat.reduceLT, Nat.reduceLeDiff, Nat.reduceSub, reduceCtorEq, Int.reduceToNat, ↓reduceIte]
  repeat'
    (first
     | (refine uYes ?_; first | exact List.mem_cons_self | (simp only [List.mem_cons, List.not_mem_nil, or_false, true_or, or_true]; done))
     | (refine uNo (by kernel_rfl))
     | (refine flatMk ?_; kernel_rfl)
     | (refine And.intro ?_ ?_)
     | (intro hx)
     | ((first
         | (refine callGF ?_)
         | (refine callQGF ?_)
         | (refine skipG ?_)
         | (refine callS (szLeg_gives l _ _) ?_)
         | (refine callQ (szLeg_gives l _ _) ?_)
         | (refine callG (fun hc => (szLeg_gives l _ _)) ?_)
         | (refine callQG (fun hc => (szLeg_gives l _ _)) ?_)
         | (refine callS (toLeg_gives l _) ?_)
         | (refine callQ (toLeg_gives l _) ?_)
         | (refine callG (fun hc => (toLeg_gives l _)) ?_)
         | (refine callQG (fun hc => (toLeg_gives l _)) ?_)
         | (refine callS (specLegRoom_gives l c _) ?_)
         | (refine callQ (specLegRoom_gives l c _) ?_)
         | (refine callG (fun hc => (specLegRoom_gives l c _)) ?_)
         | (refine callQG (fun hc => (specLegRoom_gives l c _)) ?_)
         | (refine callS (implLegRoom_gives l c _) ?_)
         | (refine callQ (implLegRoom_gives l c _) ?_)
         | (refine callG (fun hc => (implLegRoom_gives l c _)) ?_)
         | (refine callQG (fun hc => (implLegRoom_gives l c _)) ?_)
         | (refine callS (eqLeg_gives l l _) ?_)
         | (refine callQ (eqLeg_gives l l _) ?_)
         | (refine callG (fun hc => (eqLeg_gives l l _)) ?_)
         | (refine callQG (fun hc => (eqLeg_gives l l _)) ?_)); simp -implicitDefEqProofs only [eqLegB_self, push_cast, Nat.reduceEqDiff, Nat.reduceBEq, Nat.reduceBNe, Nat.reduceAdd, Nat.reduceMul, Nat.reduceLT, Nat.reduceLeDiff, Nat.reduceSub, reduceCtorEq, Int.reduceToNat, ↓reduceIte]))
  all_goals grind
theorem fnExactLegBid_gives (l : Leg) (h : Hp) : Gives Try.prog 6 [l.d] h (.bool true) := by
  refine meets_of [] mixed Try.func6 rfl (by kernel_rfl) (by kernel_rfl) (by rw [Try.ntmps6]; simp only [List.length_cons, List.length_nil]; omega) (fun hf => ?_)
  rw [Try.results6]
  clear hf
  try simp -implicitDefEqProofs only [eqLegB_self, push_cast, Nat.reduceEqDiff, Nat.reduceBEq, Nat.reduceBNe, Nat.reduceAdd, Nat.reduceMul, Nat.reduceLT, Nat.reduceLeDiff, Nat.reduceSub, reduceCtorEq, Int.reduceToNat, ↓reduceIte]
  repeat'
    (first
     | (refine uYes ?_; first | exact List.mem_cons_self | (simp only [List.mem_cons, List.not_mem_nil, or_false, true_or, or_true]; done))
     | (refine uNo (by kernel_rfl))
     | (refine flatMk ?_; kernel_rfl)
     | (refine And.intro ?_ ?_)
     | (intro hx)
     | ((first
         | (refine callGF ?_)
         | (refine callQGF ?_)
         | (refine skipG ?_)
         | (refine callS (szLeg_gives l _ _) ?_)
         | (refine callQ (szLeg_gives l _ _) ?_)
         | (refine callG (fun hc => (szLeg_gives l _ _)) ?_)
         | (refine callQG (fun hc => (szLeg_gives l _ _)) ?_)
         | (refine callS (toLeg_gives l _) ?_)
         | (refine callQ (toLeg_gives l _) ?_)
         | (refine callG (fun hc => (toLeg_gives l _)) ?_)
         | (refine callQG (fun hc => (toLeg_gives l _)) ?_)
         | (refine callS (specLegBid_gives l _) ?_)
         | (refine callQ (specLegBid_gives l _) ?_)
         | (refine callG (fun hc => (specLegBid_gives l _)) ?_)
         | (refine callQG (fun hc => (specLegBid_gives l _)) ?_)
         | (refine callS (implLegBid_gives l _) ?_)
         | (refine callQ (implLegBid_gives l _) ?_)
         | (refine callG (fun hc => (implLegBid_gives l _)) ?_)
         | (refine callQG (fun hc => (implLegBid_gives l _)) ?_)
         | (refine callS (eqLeg_gives l l _) ?_)
         | (refine callQ (eqLeg_gives l l _) ?_)
         | (refine callG (fun hc => (eqLeg_gives l l _)) ?_)
         | (refine callQG (fun hc => (eqLeg_gives l l _)) ?_)); simp -implicitDefEqProofs only [eqLegB_self, push_cast, Nat.reduceEqDiff, Nat.reduceBEq, Nat.reduceBNe, Nat.reduceAdd, Nat.reduceMul, Nat.reduceLT, Nat.reduceLeDiff, Nat.reduceSub, reduceCtorEq, Int.reduceToNat, ↓reduceIte]))
  all_goals grind
end Go.Proofs.Ytmehbbepppjikaa
