/- Contracts of functions of the program (Gb). -/
import Derived.Test.YtcmpcpigchlhpaaGa

namespace Go.Proofs.Ytcmpcpigchlhpaa
set_option linter.unusedSectionVars false
open Go.Av
variable [Av.Start]
set_option maxRecDepth 10000
set_option linter.unusedSimpArgs false
set_option linter.unusedVariables false

def legB (l : Leg) : Bool := nameB l.name && nameB l.src && nameB l.dst && !decide (l.src = l.dst) && inB l.dep 0 9999 && inB l.arr (IntKind.i64.wrap (l.dep + 1)) 9999 && inB l.cap 1 9 &&
  decide ((l.limits.length : Int) = 3) && fallB l.limits l.cap && decide (l.limits.getD 0 0 = l.cap) && decide ((l.sold.length : Int) = 3) && !anyB l.sold (fun x => !inB x 0 l.cap) &&
  inB l.bids.length 1 4 && fallB l.bids 1000000000 && holdsB l
theorem implLegOk_gives (l : Leg) (h : Hp) : Gives Try.prog 25 [l.d] h (.bool (legB l)) := by
  refine meets_of [] mixed Try.func25 rfl (by kernel_rfl) (by kernel_rfl) (by rw [Try.ntmps25]; simp only [List.length_cons, List.length_nil]; omega) (fun hf => ?_)
  rw [Try.results25]
  try simp -implicitDefEqProofs only [push_cast, Nat.reduceEqDiff, Nat.reduceBEq, Nat.reduceBNe, Nat.reduceAdd, Nat.reduceMul, Nat.reduceLT, Nat.reduceLeDiff, Nat.reduceSub, reduceCtorEq, Int.reduceToNat, ↓reduceIte]
  repeat'
    (first
     | (refine uYes ?_; first | exact List.mem_cons_self | (simp only [List.mem_cons, List.not_mem_nil, or_false, true_or, or_true]; done))
     | (refine uNo (by kernel_rfl))
     | (refine flatMk ?_; kernel_rfl)
     | (refine And.intro ?_ ?_)
     | (intro hx)
     | ((first
         | (refine callGF ?_)
         | (refine callQGF ?_)
         | (refine skipG ?_)
         | (refine callS (implName_gives _ _) ?_)
         | (refine callQ (implName_gives _ _) ?_)
         | (refine callG (fun hc => (implName_gives _ _)) ?_)
         | (refine callQG (fun hc => (implName_gives _ _)) ?_)
         | (refine callS (in_gives _ _ _ _) ?_)
         | (refine callQ (in_gives _ _ _ _) ?_)
         | (refine callG (fun hc => (in_gives _ _ _ _)) ?_)
         | (refine callQG (fun hc => (in_gives _ _ _ _)) ?_)
         | (refine callS (falling_gives _ _ _) ?_)
         | (refine callQ (falling_gives _ _ _) ?_)
         | (refine callG (fun hc => (falling_gives _ _ _)) ?_)
         | (refine callQG (fun hc => (falling_gives _ _ _)) ?_)
         | (refine callS (contains_gives _ _ _ _ (fun x => !inB x 0 l.cap) (fun x => legOk1_gives l x _ _ (by simp only [ob_app0, ob_zero, Leg.cs])) (by simp -implicitDefEqProofs only [push_cast, Nat.reduceEqDiff, Nat.reduceBEq, Nat.reduceBNe, Nat.reduceAdd, Nat.reduceMul, Nat.reduceLT, Nat.reduceLeDiff, Nat.reduceSub, reduceCtorEq, Int.reduceToNat, ↓reduceIte])) ?_)
         | (refine callQ (contains_gives _ _ _ _ (fun x => !inB x 0 l.cap) (fun x => legOk1_gives l x _ _ (by simp only [ob_app0, ob_zero, Leg.cs])) (by simp -implicitDefEqProofs only [push_cast, Nat.reduceEqDiff, Nat.reduceBEq, Nat.reduceBNe, Nat.reduceAdd, Nat.reduceMul, Nat.reduceLT, Nat.reduceLeDiff, Nat.reduceSub, reduceCtorEq, Int.reduceToNat, ↓reduceIte])) ?_)
         | (refine callG (fun hc => (contains_gives _ _ _ _ (fun x => !inB x 0 l.cap) (fun x => legOk1_gives l x _ _ (by simp only [ob_app0, ob_zero, Leg.cs])) (by simp -implicitDefEqProofs only [push_cast, Nat.reduceEqDiff, Nat.reduceBEq, Nat.reduceBNe, Nat.reduceAdd, Nat.reduceMul, Nat.reduceLT, Nat.reduceLeDiff, Nat.reduceSub, reduceCtorEq, Int.reduceToNat, ↓reduceIte]))) ?_)
         | (refine callQG (fun hc => (contains_gives _ _ _ _ (fun x => !inB x 0 l.cap) (fun x => legOk1_gives l x _ _ (by simp only [ob_app0, ob_zero, Leg.cs])) (by simp -implicitDefEqProofs only [push_cast, Nat.reduceEqDiff, Nat.reduceBEq, Nat.reduceBNe, Nat.reduceAdd, Nat.reduceMul, Nat.reduceLT, Nat.reduceLeDiff, Nat.reduceSub, reduceCtorEq, Int.reduceToNat, ↓reduceIte]))) ?_)
         | (refine callS (holdsOk_gives l _ (by simp only [Bool.and_eq_true, decide_eq_true_eq] at hc; omega) (by simp only [Bool.and_eq_true, decide_eq_true_eq] at hc; omega)) ?_)
         | (refine callQ (holdsOk_gives l _ (by simp only [Bool.and_eq_true, decide_eq_true_eq] at hc; omega) (by simp only [Bool.and_eq_true, decide_eq_true_eq] at hc; omega)) ?_)
         | (refine callG (fun hc => (holdsOk_gives l _ (by simp only [Bool.and_eq_true, decide_eq_true_eq] at hc; omega) (by simp only [Bool.and_eq_true, decide_eq_true_eq] at hc; omega))) ?_)
         | (refine callQG (fun hc => (holdsOk_gives l _ (by simp only [Bool.and_eq_true, decide_eq_true_eq] at hc; omega) (by simp only [Bool.and_eq_true, decide_eq_true_eq] at hc; omega))) ?_)); simp -implicitDefEqProofs only [push_cast, Nat.reduceEqDiff, Nat.reduceBEq, Nat.reduceBNe, Nat.reduceAdd, Nat.reduceMul, Nat.reduceLT, Nat.reduceLeDiff, Nat.reduceSub, reduceCtorEq, Int.reduceToNat, ↓reduceIte]))
  all_goals first
    | omega
    | (rw [legB]; done)
    | grind
end Go.Proofs.Ytcmpcpigchlhpaa

namespace Go.Proofs.Ytcmpcpigchlhpaa
set_option linter.unusedSectionVars false
open Go.Av
variable [Av.Start]
set_option maxRecDepth 10000
set_option linter.unusedSimpArgs false
set_option linter.unusedVariables false


def plainAt (l : Leg) (i : Nat) : Bool := fallAt l.limits l.cap i && inB (l.sold.getD i 0) 0 l.cap
def plain1 (l : Leg) : Bool := nameB l.name && nameB l.src && nameB l.dst && !decide (l.src = l.dst) && inB l.dep 0 9999 && inB l.arr (IntKind.i64.wrap (l.dep + 1)) 9999 && inB l.cap 1 9
def plain2 (l : Leg) : Bool := decide ((l.limits.length : Int) = 3) && decide ((l.sold.length : Int) = 3) && decide (l.limits.getD 0 0 = l.cap) && inB l.bids.length 1 4 && decide ((l.holds.length : Int) ≤ 6)
def plainB (l : Leg) : Bool := plain1 l && plain2 l && allB 3 (plainAt l) && fallB l.bids 1000000000
theorem plain_gives (l : Leg) (h : Hp) : Gives Try.prog 62 [l.d] h (.bool (plainB l)) := by
  refine meets_of [] mixed Try.func62 rfl (by kernel_rfl) (by kernel_rfl) (by rw [Try.ntmps62]; simp only [List.length_cons, List.length_nil]; omega) (fun hf => ?_)
  rw [Try.results62]
  obtain ⟨_, _, _, _, _, hf1, hf2⟩ := Leg.fit (hf l.d (by simp))
  clear hf
  try simp -implicitDefEqProofs only [push_cast, Nat.reduceEqDiff, Nat.reduceBEq, Nat.reduceBNe, Nat.reduceAdd, Nat.reduceMul, Nat.reduceLT, Nat.reduceLeDiff, Nat.reduceSub, reduceCtorEq, Int.reduceToNat, ↓reduceIte]
  repeat'
    (first
     | (refine uYes ?_; first | exact List.mem_cons_self | (simp only [List.mem_cons, List.not_mem_nil, or_false, true_or, or_true]; done))
     | (refine uNo (by kernel_rfl))
     | (refine flatMk ?_; kernel_rfl)
     | (refine And.intro ?_ ?_)
     | (intro hx)
     | ((first
         | (refine callGF ?_)
         | (refine callQGF ?_)
         | (refine skipG ?_)
         | (refine callS (specName_gives _ _) ?_)
         | (refine callQ (specName_gives _ _) ?_)
         | (refine callG (fun hc => (specName_gives _ _)) ?_)
         | (refine callQG (fun hc => (specName_gives _ _)) ?_)
         | (refine callS (l1In_gives _ _ _ _) ?_)
         | (refine callQ (l1In_gives _ _ _ _) ?_)
         | (refine callG (fun hc => (l1In_gives _ _ _ _)) ?_)
         | (refine callQG (fun hc => (l1In_gives _ _ _ _)) ?_)); simp -implicitDefEqProofs only [push_cast, Nat.reduceEqDiff, Nat.reduceBEq, Nat.reduceBNe, Nat.reduceAdd, Nat.reduceMul, Nat.reduceLT, Nat.reduceLeDiff, Nat.reduceSub, reduceCtorEq, Int.reduceToNat, ↓reduceIte]))
  all_goals first
    | omega
    | (have e : plain1 l = false := by simp only [plain1]; grind
       rw [plainB, e]; rfl)
    | (have e : plain2 l = false := by simp only [plain2]; grind
       rw [plainB, e, Bool.and_false]; rfl)
    | skip
  have e1 : plain1 l = true := by simp only [plain1]; grind
  have e2 : plain2 l = true := by simp only [plain2]; grind
  refine ev_loop [] (fun k : Nat => [(1, .ptr h.length 0), (3, .int .i64 k)])
    (fun _ => [.row l.cs]) (fun k => k ≤ 3 ∧ ∀ i, i < k → plainAt l i = true) (fun k => 3 - k) 0 trivial ⟨Nat.zero_le _, fun i hi => absurd hi (Nat.not_lt_zero i)⟩ ?_ ?_
  · refine ⟨1, by simp, by simp [tokSts], ?_⟩
    simp -implicitDefEqProofs only [Int.natCast_add, Int.cast_ofNat_Int, List.length_nil, Nat.le_refl, WeakTo, tokSts, tokOks, List.append_cancel_left_eq, exists_eq_left', exists_eq_left, List.append_cancel_left_eq, List.take_length, ObCl, and_true, true_and, push_cast, Nat.reduceEqDiff, Nat.reduceBEq, Nat.reduceBNe, Nat.reduceAdd, Nat.reduceMul, Nat.reduceLT, Nat.reduceLeDiff, Nat.reduceSub, reduceCtorEq, Int.reduceToNat, ↓reduceIte]
  · intro k hk
    have hw : IntKind.i64.wrap ((k : Int) + 1) = k + 1 := wrap_id (by omega) (by omega)
    have hw1 : IntKind.i64.wrap ((k : Int) - 1) = k - 1 := wrap_id (by omega) (by omega)
    have hp : ((k : Int) - 1).toNat = k - 1 := by omega
    try simp -implicitDefEqProofs only [hw, hw1, hp, push_cast, Nat.reduceEqDiff, Nat.reduceBEq, Nat.reduceBNe, Nat.reduceAdd, Nat.reduceMul, Nat.reduceLT, Nat.reduceLeDiff, Nat.reduceSub, reduceCtorEq, Int.reduceToNat, ↓reduceIte]
    repeat'
      (first
       | (refine uYes ?_; first | exact List.mem_cons_self | (simp only [List.mem_cons, List.not_mem_nil, or_false, true_or, or_true]; done))
       | (refine uNo (by kernel_rfl))
       | (refine flatMk ?_; kernel_rfl)
       | (refine And.intro ?_ ?_)
       | (intro hx)
       | ((first
           | (refine callGF ?_)
           | (refine callQGF ?_)
           | (refine skipG ?_)
           | (refine callS (l1In_gives _ _ _ _) ?_)
           | (refine callQ (l1In_gives _ _ _ _) ?_)
           | (refine callG (fun hc => (l1In_gives _ _ _ _)) ?_)
           | (refine callQG (fun hc => (l1In_gives _ _ _ _)) ?_)); simp -implicitDefEqProofs only [hw, hw1, hp, push_cast, Nat.reduceEqDiff, Nat.reduceBEq, Nat.reduceBNe, Nat.reduceAdd, Nat.reduceMul, Nat.reduceLT, Nat.reduceLeDiff, Nat.reduceSub, reduceCtorEq, Int.reduceToNat, ↓reduceIte]))
    all_goals first
      | omega
      | exact hx.1
      | exact hx
      | (refine round_mk (k + 1) ⟨by omega, allB_step hk.2 ?_⟩ (by omega) ?_
         · simp only [plainAt, fallAt]; grind
         · simp -implicitDefEqProofs only [hw, Int.natCast_add, Int.cast_ofNat_Int, List.length_nil, Nat.le_refl, WeakTo, tokSts, tokOks, List.append_cancel_left_eq, exists_eq_left', exists_eq_left, List.append_cancel_left_eq, List.take_length, ObCl, and_true, true_and, push_cast, Nat.reduceEqDiff, Nat.reduceBEq, Nat.reduceBNe, Nat.reduceAdd, Nat.reduceMul, Nat.reduceLT, Nat.reduceLeDiff, Nat.reduceSub, reduceCtorEq, Int.reduceToNat, ↓reduceIte])
      | (have e : allB 3 (plainAt l) = false := allB_f k (by omega) (by simp only [plainAt, fallAt]; grind)
         rw [plainB, e, Bool.and_false]; rfl)
      | grind
      | skip
    obtain rfl : k = 3 := by omega
    have e3 : allB 3 (plainAt l) = true := allB_t hk.2
    refine ev_loop [] (fun k : Nat => [(1, .ptr h.length 0), (4, .int .i64 k)])
      (fun _ => [.row l.cs]) (fun k => k ≤ l.bids.length ∧ ∀ i, i < k → fallAt l.bids 1000000000 i = true) (fun k => l.bids.length - k) 0 trivial ⟨Nat.zero_le _, fun i hi => absurd hi (Nat.not_lt_zero i)⟩ ?_ ?_
    · refine ⟨1, by simp, by simp [tokSts], ?_⟩
      simp -implicitDefEqProofs only [Int.natCast_add, Int.cast_ofNat_Int, List.length_nil, Nat.le_refl, WeakTo, tokSts, tokOks, List.append_cancel_left_eq, exists_eq_left', exists_eq_left, List.append_cancel_left_eq, List.take_length, ObCl, and_true, true_and, push_cast, Nat.reduceEqDiff, Nat.reduceBEq, Nat.reduceBNe, Nat.reduceAdd, Nat.reduceMul, Nat.reduceLT, Nat.reduceLeDiff, Nat.reduceSub, reduceCtorEq, Int.reduceToNat, ↓reduceIte]
    · intro k hk
      have hw : IntKind.i64.wrap ((k : Int) + 1) = k + 1 := wrap_id (by omega) (by omega)
      have hw1 : IntKind.i64.wrap ((k : Int) - 1) = k - 1 := wrap_id (by omega) (by omega)
      have hp : ((k : Int) - 1).toNat = k - 1 := by omega
      try simp -implicitDefEqProofs only [hw, hw1, hp, push_cast, Nat.reduceEqDiff, Nat.reduceBEq, Nat.reduceBNe, Nat.reduceAdd, Nat.reduceMul, Nat.reduceLT, Nat.reduceLeDiff, Nat.reduceSub, reduceCtorEq, Int.reduceToNat, ↓reduceIte]
      repeat'
        (first
         | (refine uYes ?_; first | exact List.mem_cons_self | (simp only [List.mem_cons, List.not_mem_nil, or_false, true_or, or_true]; done))
         | (refine uNo (by kernel_rfl))
         | (refine flatMk ?_; kernel_rfl)
         | (refine And.intro ?_ ?_)
         | (intro hx)
         | ((first
             | (refine callGF ?_)
             | (refine callQGF ?_)
             | (refine skipG ?_)
             | (refine callS (l1In_gives _ _ _ _) ?_)
             | (refine callQ (l1In_gives _ _ _ _) ?_)
             | (refine callG (fun hc => (l1In_gives _ _ _ _)) ?_)
             | (refine callQG (fun hc => (l1In_gives _ _ _ _)) ?_)); simp -implicitDefEqProofs only [hw, hw1, hp, push_cast, Nat.reduceEqDiff, Nat.reduceBEq, Nat.reduceBNe, Nat.reduceAdd, Nat.reduceMul, Nat.reduceLT, Nat.reduceLeDiff, Nat.reduceSub, reduceCtorEq, Int.reduceToNat, ↓reduceIte]))
      all_goals first
        | omega
        | exact hx.1
        | exact hx
        | (refine round_mk (k + 1) ⟨by omega, allB_step hk.2 ?_⟩ (by omega) ?_
           · simp only [fallAt]; grind
           · simp -implicitDefEqProofs only [hw, Int.natCast_add, Int.cast_ofNat_Int, List.length_nil, Nat.le_refl, WeakTo, tokSts, tokOks, List.append_cancel_left_eq, exists_eq_left', exists_eq_left, List.append_cancel_left_eq, List.take_length, ObCl, and_true, true_and, push_cast, Nat.reduceEqDiff, Nat.reduceBEq, Nat.reduceBNe, Nat.reduceAdd, Nat.reduceMul, Nat.reduceLT, Nat.reduceLeDiff, Nat.reduceSub, reduceCtorEq, Int.reduceToNat, ↓reduceIte])
        | (have e : fallB l.bids 1000000000 = false := allB_f k (by omega) (by simp only [fallAt]; grind)
           rw [plainB, e, Bool.and_false])
        | (have e : fallB l.bids 1000000000 = true := by
             obtain rfl : k = l.bids.length := by omega
             exact allB_t hk.2
           rw [plainB, e1, e2, e3, e]; rfl)
        | grind

def specLegB (l : Leg) : Bool := plainB l && allB l.holds.length (holdAt l) && allB 3 (clsAt l)
theorem specLegOk_gives (l : Leg) (h : Hp) : Gives Try.prog 27 [l.d] h (.bool (specLegB l)) := by
  refine meets_of [] mixed Try.func27 rfl (by kernel_rfl) (by kernel_rfl) (by rw [Try.ntmps27]; simp only [List.length_cons, List.length_nil]; omega) (fun hf => ?_)
  rw [Try.results27]
  obtain ⟨_, _, _, _, _, hf1, hf2⟩ := Leg.fit (hf l.d (by simp))
  clear hf
  try simp -implicitDefEqProofs only [push_cast, Nat.reduceEqDiff, Nat.reduceBEq, Nat.reduceBNe, Nat.reduceAdd, Nat.reduceMul, Nat.reduceLT, Nat.reduceLeDiff, Nat.reduceSub, reduceCtorEq, Int.reduceToNat, ↓reduceIte]
  repeat'
    (first
     | (refine uYes ?_; first | exact List.mem_cons_self | (simp only [List.mem_cons, List.not_mem_nil, or_false, true_or, or_true]; done))
     | (refine uNo (by kernel_rfl))
     | (refine flatMk ?_; kernel_rfl)
     | (refine And.intro ?_ ?_)
     | (intro hx)
     | ((first
         | (refine callGF ?_)
         | (refine callQGF ?_)
         | (refine skipG ?_)
         | (refine callS (plain_gives l _) ?_)
         | (refine callQ (plain_gives l _) ?_)
         | (refine callG (fun hc => (plain_gives l _)) ?_)
         | (refine callQG (fun hc => (plain_gives l _)) ?_)); simp -implicitDefEqProofs only [push_cast, Nat.reduceEqDiff, Nat.reduceBEq, Nat.reduceBNe, Nat.reduceAdd, Nat.reduceMul, Nat.reduceLT, Nat.reduceLeDiff, Nat.reduceSub, reduceCtorEq, Int.reduceToNat, ↓reduceIte]))
  · rename_i hq
    simp only [specLegB, hx]; rfl
  have hq : l.limits.length = 3 ∧ l.sold.length = 3 := by
    simp only [plainB, plain2, Bool.and_eq_true, decide_eq_true_eq] at hx
    omega
  refine ev_loop [] (fun k : Nat => [(1, .ptr h.length 0), (3, .int .i64 k)])
    (fun _ => [.row l.cs]) (fun k => k ≤ l.holds.length ∧ ∀ i, i < k → holdAt l i = true) (fun k => l.holds.length - k) 0 trivial ⟨Nat.zero_le _, fun i hi => absurd hi (Nat.not_lt_zero i)⟩ ?_ ?_
  · refine ⟨1, by simp, by simp [tokSts], ?_⟩
    simp -implicitDefEqProofs only [Int.natCast_add, Int.cast_ofNat_Int, List.length_nil, Nat.le_refl, WeakTo, tokSts, tokOks, List.append_cancel_left_eq, exists_eq_left', exists_eq_left, List.append_cancel_left_eq, List.take_length, ObCl, and_true, true_and, push_cast, Nat.reduceEqDiff, Nat.reduceBEq, Nat.reduceBNe, Nat.reduceAdd, Nat.reduceMul, Nat.reduceLT, Nat.reduceLeDiff, Nat.reduceSub, reduceCtorEq, Int.reduceToNat, ↓reduceIte]
  · intro k hk
    have hw : IntKind.i64.wrap ((k : Int) + 1) = k + 1 := wrap_id (by omega) (by omega)
    have hw1 : IntKind.i64.wrap ((k : Int) - 1) = k - 1 := wrap_id (by omega) (by omega)
    have hp : ((k : Int) - 1).toNat = k - 1 := by omega
    try simp -implicitDefEqProofs only [hw, hw1, hp, push_cast, Nat.reduceEqDiff, Nat.reduceBEq, Nat.reduceBNe, Nat.reduceAdd, Nat.reduceMul, Nat.reduceLT, Nat.reduceLeDiff, Nat.reduceSub, reduceCtorEq, Int.reduceToNat, ↓reduceIte]
    repeat'
      (first
       | (refine uYes ?_; first | exact List.mem_cons_self | (simp only [List.mem_cons, List.not_mem_nil, or_false, true_or, or_true]; done))
       | (refine uNo (by kernel_rfl))
       | (refine flatMk ?_; kernel_rfl)
       | (refine And.intro ?_ ?_)
       | (intro hx)
       | ((first
           | (refine callGF ?_)
           | (refine callQGF ?_)
           | (refine skipG ?_)
           | (refine callS (l1In_gives _ _ _ _) ?_)
           | (refine callQ (l1In_gives _ _ _ _) ?_)
           | (refine callG (fun hc => (l1In_gives _ _ _ _)) ?_)
           | (refine callQG (fun hc => (l1In_gives _ _ _ _)) ?_)); simp -implicitDefEqProofs only [hw, hw1, hp, push_cast, Nat.reduceEqDiff, Nat.reduceBEq, Nat.reduceBNe, Nat.reduceAdd, Nat.reduceMul, Nat.reduceLT, Nat.reduceLeDiff, Nat.reduceSub, reduceCtorEq, Int.reduceToNat, ↓reduceIte]))
    all_goals first
      | omega
      | exact hx
      | exact hx.1
      | (refine round_mk (k + 1) ⟨by omega, allB_step hk.2 ?_⟩ (by omega) ?_
         · simp only [holdAt, mayB]; grind
         · simp -implicitDefEqProofs only [hw, Int.natCast_add, Int.cast_ofNat_Int, List.length_nil, Nat.le_refl, WeakTo, tokSts, tokOks, List.append_cancel_left_eq, exists_eq_left', exists_eq_left, List.append_cancel_left_eq, List.take_length, ObCl, and_true, true_and, push_cast, Nat.reduceEqDiff, Nat.reduceBEq, Nat.reduceBNe, Nat.reduceAdd, Nat.reduceMul, Nat.reduceLT, Nat.reduceLeDiff, Nat.reduceSub, reduceCtorEq, Int.reduceToNat, ↓reduceIte])
      | (rw [specLegB, show allB l.holds.length (holdAt l) = false from allB_f k (by omega) (by simp only [holdAt, mayB]; grind), Bool.and_false]; rfl)
      | grind
      | skip
    obtain rfl : k = l.holds.length := by omega
    refine ev_loop [] (fun k : Nat => [(1, .ptr h.length 0), (5, .int .i64 k)])
      (fun _ => [.row l.cs]) (fun k => k ≤ 3 ∧ ∀ i, i < k → clsAt l i = true) (fun k => 3 - k) 0 trivial ⟨Nat.zero_le _, fun i hi => absurd hi (Nat.not_lt_zero i)⟩ ?_ ?_
    · refine ⟨1, by simp, by simp [tokSts], ?_⟩
      simp -implicitDefEqProofs only [Int.natCast_add, Int.cast_ofNat_Int, List.length_nil, Nat.le_refl, WeakTo, tokSts, tokOks, List.append_cancel_left_eq, exists_eq_left', exists_eq_left, List.append_cancel_left_eq, List.take_length, ObCl, and_true, true_and, push_cast, Nat.reduceEqDiff, Nat.reduceBEq, Nat.reduceBNe, Nat.reduceAdd, Nat.reduceMul, Nat.reduceLT, Nat.reduceLeDiff, Nat.reduceSub, reduceCtorEq, Int.reduceToNat, ↓reduceIte]
    · intro m hm
      have hw : IntKind.i64.wrap ((m : Int) + 1) = m + 1 := wrap_id (by omega) (by omega)
      try simp -implicitDefEqProofs only [hw, push_cast, Nat.reduceEqDiff, Nat.reduceBEq, Nat.reduceBNe, Nat.reduceAdd, Nat.reduceMul, Nat.reduceLT, Nat.reduceLeDiff, Nat.reduceSub, reduceCtorEq, Int.reduceToNat, ↓reduceIte]
      repeat'
        (first
         | (refine uYes ?_; first | exact List.mem_cons_self | (simp only [List.mem_cons, List.not_mem_nil, or_false, true_or, or_true]; done))
         | (refine uNo (by kernel_rfl))
         | (refine flatMk ?_; kernel_rfl)
         | (refine And.intro ?_ ?_)
         | (intro hx)
         | ((first
             | (refine callGF ?_)
             | (refine callQGF ?_)
             | (refine skipG ?_)
             | (refine callS (specUsed_gives l _ _ (by omega) (by omega) (by omega)) ?_)
             | (refine callQ (specUsed_gives l _ _ (by omega) (by omega) (by omega)) ?_)
             | (refine callG (fun hc => (specUsed_gives l _ _ (by omega) (by omega) (by omega))) ?_)
             | (refine callQG (fun hc => (specUsed_gives l _ _ (by omega) (by omega) (by omega))) ?_)
             | (refine callS (specBack_gives l _ _) ?_)
             | (refine callQ (specBack_gives l _ _) ?_)
             | (refine callG (fun hc => (specBack_gives l _ _)) ?_)
             | (refine callQG (fun hc => (specBack_gives l _ _)) ?_)); simp -implicitDefEqProofs only [hw, push_cast, Nat.reduceEqDiff, Nat.reduceBEq, Nat.reduceBNe, Nat.reduceAdd, Nat.reduceMul, Nat.reduceLT, Nat.reduceLeDiff, Nat.reduceSub, reduceCtorEq, Int.reduceToNat, ↓reduceIte]))
      all_goals first
        | omega
        | exact hx
        | (refine round_mk (m + 1) ⟨by omega, allB_step hm.2 ?_⟩ (by omega) ?_
           · simp only [clsAt]; grind
           · simp -implicitDefEqProofs only [hw, Int.natCast_add, Int.cast_ofNat_Int, List.length_nil, Nat.le_refl, WeakTo, tokSts, tokOks, List.append_cancel_left_eq, exists_eq_left', exists_eq_left, List.append_cancel_left_eq, List.take_length, ObCl, and_true, true_and, push_cast, Nat.reduceEqDiff, Nat.reduceBEq, Nat.reduceBNe, Nat.reduceAdd, Nat.reduceMul, Nat.reduceLT, Nat.reduceLeDiff, Nat.reduceSub, reduceCtorEq, Int.reduceToNat, ↓reduceIte])
        | (rw [specLegB, show allB 3 (clsAt l) = false from allB_f m (by omega) (by simp only [clsAt]; grind), Bool.and_false])
        | (obtain rfl : m = 3 := by omega
           rw [specLegB, allB_t hk.2, allB_t hm.2]; grind)
end Go.Proofs.Ytcmpcpigchlhpaa

namespace Go.Proofs.Ytcmpcpigchlhpaa
set_option linter.unusedSectionVars false
open Go.Av
variable [Av.Start]
set_option maxRecDepth 10000
set_option linter.unusedSimpArgs false
set_option linter.unusedVariables false

omit [Av.Start] in
theorem legB_spec (l : Leg) : legB l = specLegB l := by
  have h3 : ∀ (f : Nat → Bool), allB 3 f = (f 0 && f 1 && f 2) := fun f => by simp [allB, List.range_succ, List.range_zero, Bool.and_assoc]
  have e : legB l = true ↔ specLegB l = true := by
    simp only [legB, specLegB, plainB, plain1, plain2, plainAt, holdsB, anyB, fallB, Bool.and_eq_true, decide_eq_true_eq, Bool.not_not, allB_iff, Bool.not_eq_true', decide_eq_false_iff_not]
    constructor
    · rintro ⟨⟨⟨⟨⟨⟨⟨⟨⟨⟨⟨⟨⟨⟨a1, a2⟩, a3⟩, a4⟩, a5⟩, a6⟩, a7⟩, a8⟩, a9⟩, a10⟩, a11⟩, a12⟩, a13⟩, a14⟩, ⟨a15, a16⟩, a17⟩
      have e8 : l.limits.length = 3 := by omega
      have e11 : l.sold.length = 3 := by omega
      rw [e8] at a9
      rw [e11] at a12
      have b1 : (l.holds.length : Int) ≤ 6 := by omega
      exact ⟨⟨⟨⟨⟨⟨⟨⟨⟨⟨⟨a1, a2⟩, a3⟩, a4⟩, a5⟩, a6⟩, a7⟩, ⟨⟨⟨a8, a11⟩, a10⟩, a13⟩, b1⟩, fun i hi => ⟨a9 i hi, a12 i hi⟩⟩, a14⟩, a15⟩, a16⟩
    · rintro ⟨⟨⟨⟨⟨⟨⟨⟨⟨⟨⟨a1, a2⟩, a3⟩, a4⟩, a5⟩, a6⟩, a7⟩, ⟨⟨⟨a8, a11⟩, a10⟩, a13⟩, b1⟩, b2⟩, a14⟩, a15⟩, a16⟩
      have e8 : l.limits.length = 3 := by omega
      have e11 : l.sold.length = 3 := by omega
      refine ⟨⟨⟨⟨⟨⟨⟨⟨⟨⟨⟨⟨⟨⟨a1, a2⟩, a3⟩, a4⟩, a5⟩, a6⟩, a7⟩, a8⟩, ?_⟩, a10⟩, a11⟩, ?_⟩, a13⟩, a14⟩, ⟨a15, a16⟩, by omega⟩
      · rw [e8]; exact fun i hi => (b2 i hi).1
      · rw [e11]; exact fun i hi => (b2 i hi).2
  exact Bool.eq_iff_iff.2 e

theorem eqHold_gives (a b : Hold) (h : Hp) : Gives Try.prog 94 [a.d, b.d] h (.bool (decide (a.txn = b.txn) && decide (a.cls = b.cls) && decide (a.seats = b.seats))) := by
  refine meets_of [] mixed Try.func94 rfl (by kernel_rfl) (by kernel_rfl) (by rw [Try.ntmps94]; simp only [List.length_cons, List.length_nil]; omega) (fun hf => ?_)
  rw [Try.results94]
  try simp -implicitDefEqProofs only [push_cast, Nat.reduceEqDiff, Nat.reduceBEq, Nat.reduceBNe, Nat.reduceAdd, Nat.reduceMul, Nat.reduceLT, Nat.reduceLeDiff, Nat.reduceSub, reduceCtorEq, Int.reduceToNat, ↓reduceIte]
  repeat'
    (first
     | (refine uYes ?_; first | exact List.mem_cons_self | (simp only [List.mem_cons, List.not_mem_nil, or_false, true_or, or_true]; done))
     | (refine uNo (by kernel_rfl))
     | (refine flatMk ?_; kernel_rfl)
     | (refine And.intro ?_ ?_)
     | (intro hx)
     | ((first
         | (refine callGF ?_)
         | (refine callQGF ?_)
         | (refine skipG ?_)
         | (refine callS (l1In_gives _ _ _ _) ?_)
         | (refine callQ (l1In_gives _ _ _ _) ?_)
         | (refine callG (fun hc => (l1In_gives _ _ _ _)) ?_)
         | (refine callQG (fun hc => (l1In_gives _ _ _ _)) ?_)); simp -implicitDefEqProofs only [push_cast, Nat.reduceEqDiff, Nat.reduceBEq, Nat.reduceBNe, Nat.reduceAdd, Nat.reduceMul, Nat.reduceLT, Nat.reduceLeDiff, Nat.reduceSub, reduceCtorEq, Int.reduceToNat, ↓reduceIte]))
  all_goals grind
theorem eqIntS_gives (a b : List Int) (h : Hp) : Gives Try.prog 74 [.slice (a.map (.int .i64)) .no, .slice (b.map (.int .i64)) .no] h (.bool (decide (a = b))) := by
  refine meets_of [] mixed Try.func74 rfl (by kernel_rfl) (by kernel_rfl) (by rw [Try.ntmps74]; simp only [List.length_cons, List.length_nil]; omega) (fun hf => ?_)
  rw [Try.results74]
  have hl : a.length ≤ 1073741824 := by
    have := hf (.slice (a.map (.int .i64)) .no) (by simp)
    simpa [fitsD, flen, lenMax] using this
  clear hf
  try simp -implicitDefEqProofs only [push_cast, Nat.reduceEqDiff, Nat.reduceBEq, Nat.reduceBNe, Nat.reduceAdd, Nat.reduceMul, Nat.reduceLT, Nat.reduceLeDiff, Nat.reduceSub, reduceCtorEq, Int.reduceToNat, ↓reduceIte]
  repeat'
    (first
     | (refine uYes ?_; first | exact List.mem_cons_self | (simp only [List.mem_cons, List.not_mem_nil, or_false, true_or, or_true]; done))
     | (refine uNo (by kernel_rfl))
     | (refine flatMk ?_; kernel_rfl)
     | (refine And.intro ?_ ?_)
     | (intro hx)
     | ((first
         | (refine callGF ?_)
         | (refine callQGF ?_)
         | (refine skipG ?_)
         | (refine callS (l1In_gives _ _ _ _) ?_)
         | (refine callQ (l1In_gives _ _ _ _) ?_)
         | (refine callG (fun hc => (l1In_gives _ _ _ _)) ?_)
         | (refine callQG (fun hc => (l1In_gives _ _ _ _)) ?_)); simp -implicitDefEqProofs only [push_cast, Nat.reduceEqDiff, Nat.reduceBEq, Nat.reduceBNe, Nat.reduceAdd, Nat.reduceMul, Nat.reduceLT, Nat.reduceLeDiff, Nat.reduceSub, reduceCtorEq, Int.reduceToNat, ↓reduceIte]))
  · exact (decide_eq_false (fun e => hx (by rw [e]))).symm
  refine ev_loop0 [] (fun k : Nat => [(0, .slice (a.map (.int .i64)) .no), (1, .slice (b.map (.int .i64)) .no), (5, .int .i64 k)]) (fun k => k ≤ a.length ∧ ∀ i, i < k → a.getD i 0 = b.getD i 0) (fun k => a.length - k) 0 trivial ⟨Nat.zero_le _, fun i hi => absurd hi (Nat.not_lt_zero i)⟩ ?_ ?_
  · exact ⟨rfl, [], by simp -implicitDefEqProofs only [Int.natCast_add, Int.cast_ofNat_Int, List.length_nil, Nat.le_refl, WeakTo, tokSts, tokOks, List.append_cancel_left_eq, exists_eq_left', exists_eq_left, List.append_cancel_left_eq, List.take_length, ObCl, and_true, true_and, push_cast, Nat.reduceEqDiff, Nat.reduceBEq, Nat.reduceBNe, Nat.reduceAdd, Nat.reduceMul, Nat.reduceLT, Nat.reduceLeDiff, Nat.reduceSub, reduceCtorEq, Int.reduceToNat, ↓reduceIte]⟩
  · intro k hk
    have hw : IntKind.i64.wrap ((k : Int) + 1) = k + 1 := wrap_id (by omega) (by omega)
    try simp -implicitDefEqProofs only [hw, push_cast, Nat.reduceEqDiff, Nat.reduceBEq, Nat.reduceBNe, Nat.reduceAdd, Nat.reduceMul, Nat.reduceLT, Nat.reduceLeDiff, Nat.reduceSub, reduceCtorEq, Int.reduceToNat, ↓reduceIte]
    repeat'
      (first
       | (refine uYes ?_; first | exact List.mem_cons_self | (simp only [List.mem_cons, List.not_mem_nil, or_false, true_or, or_true]; done))
       | (refine uNo (by kernel_rfl))
       | (refine flatMk ?_; kernel_rfl)
       | (refine And.intro ?_ ?_)
       | (intro hx)
       | ((first
           | (refine callGF ?_)
           | (refine callQGF ?_)
           | (refine skipG ?_)
           | (refine callS (l1In_gives _ _ _ _) ?_)
           | (refine callQ (l1In_gives _ _ _ _) ?_)
           | (refine callG (fun hc => (l1In_gives _ _ _ _)) ?_)
           | (refine callQG (fun hc => (l1In_gives _ _ _ _)) ?_)); simp -implicitDefEqProofs only [hw, push_cast, Nat.reduceEqDiff, Nat.reduceBEq, Nat.reduceBNe, Nat.reduceAdd, Nat.reduceMul, Nat.reduceLT, Nat.reduceLeDiff, Nat.reduceSub, reduceCtorEq, Int.reduceToNat, ↓reduceIte]))
    all_goals first
      | omega
      | (refine round_mk0 (k + 1) ⟨by omega, fun i hi => ?_⟩ (by omega) ⟨[], ?_⟩
         · by_cases e : i = k
           · exact e ▸ hx
           · exact hk.2 i (by omega)
         · simp -implicitDefEqProofs only [hw, Int.natCast_add, Int.cast_ofNat_Int, List.length_nil, Nat.le_refl, WeakTo, tokSts, tokOks, List.append_cancel_left_eq, exists_eq_left', exists_eq_left, List.append_cancel_left_eq, List.take_length, ObCl, and_true, true_and, push_cast, Nat.reduceEqDiff, Nat.reduceBEq, Nat.reduceBNe, Nat.reduceAdd, Nat.reduceMul, Nat.reduceLT, Nat.reduceLeDiff, Nat.reduceSub, reduceCtorEq, Int.reduceToNat, ↓reduceIte])
      | exact (decide_eq_false (fun e => hx (by rw [e]))).symm
      | (refine (decide_eq_true (List.ext_getElem (by omega) (fun i h1 h2 => ?_))).symm
         have := hk.2 i (by omega)
         simpa [List.getD_eq_getElem?_getD, List.getElem?_eq_getElem, h1, h2] using this)
theorem toHold_gives (a : Hold) (h : Hp) : Gives Try.prog 90 [a.d] h a.d := by
  refine meets_of [2, 3] mixed Try.func90 rfl (by kernel_rfl) (by kernel_rfl) (by rw [Try.ntmps90]; simp only [List.length_cons, List.length_nil]; omega) (fun hf => ?_)
  rw [Try.results90]
  try simp -implicitDefEqProofs only [push_cast, Nat.reduceEqDiff, Nat.reduceBEq, Nat.reduceBNe, Nat.reduceAdd, Nat.reduceMul, Nat.reduceLT, Nat.reduceLeDiff, Nat.reduceSub, reduceCtorEq, Int.reduceToNat, ↓reduceIte]
  repeat'
    (first
     | (refine uYes ?_; first | exact List.mem_cons_self | (simp only [List.mem_cons, List.not_mem_nil, or_false, true_or, or_true]; done))
     | (refine uNo (by kernel_rfl))
     | (refine flatMk ?_; kernel_rfl)
     | (refine And.intro ?_ ?_)
     | (intro hx)
     | ((first
         | (refine callGF ?_)
         | (refine callQGF ?_)
         | (refine skipG ?_)
         | (refine callS (l1In_gives _ _ _ _) ?_)
         | (refine callQ (l1In_gives _ _ _ _) ?_)
         | (refine callG (fun hc => (l1In_gives _ _ _ _)) ?_)
         | (refine callQG (fun hc => (l1In_gives _ _ _ _)) ?_)); simp -implicitDefEqProofs only [push_cast, Nat.reduceEqDiff, Nat.reduceBEq, Nat.reduceBNe, Nat.reduceAdd, Nat.reduceMul, Nat.reduceLT, Nat.reduceLeDiff, Nat.reduceSub, reduceCtorEq, Int.reduceToNat, ↓reduceIte]))
  all_goals trace_state
end Go.Proofs.Ytcmpcpigchlhpaa
