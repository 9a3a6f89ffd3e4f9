/- Contracts of functions of the program (C14). -/
import Derived.Test.YtcomlmdpkafijaaC12

namespace Go.Proofs.Ytcomlmdpkafijaa
open Go.Av
set_option maxRecDepth 10000
set_option linter.unusedSimpArgs false
set_option linter.unusedVariables false

structure Trip where
  legs : List (List UInt8)
  fare : List UInt8
  seats : Int
def Trip.cs (t : Trip) : List D := [.slice (t.legs.map .str) .no, .str t.fare, .int .i64 t.seats]
def Trip.d (t : Trip) : D := .agg t.cs
attribute [push_cast] Trip.cs Trip.d
theorem Trip.fit {t : Trip} (h : fitsD t.d) : t.legs.length ≤ 1073741824 ∧ t.fare.length ≤ 1073741824 := by
  simpa [fitsD, Trip.d, Trip.cs, flen, lenMax] using h

theorem indexStr_gives (xs : List (List UInt8)) (s : List UInt8) (h : Hp) : Gives Try.prog 137 [.slice (xs.map .str) .no, .str s] h (.int .i64 (idxV (fun x => decide (s = x)) xs)) := by
  refine meets_of [] mixed Try.func137 rfl (by kernel_rfl) (by kernel_rfl) (by rw [Try.ntmps137]; simp only [List.length_cons, List.length_nil]; omega) (fun hf => ?_)
  rw [Try.results137]
  have hl : xs.length ≤ 1073741824 := by simpa using slice_fit (hf (.slice (xs.map .str) .no) (by simp))
  clear hf
  simp -implicitDefEqProofs only [push_cast, Nat.reduceEqDiff, Nat.reduceBEq, Nat.reduceBNe, Nat.reduceAdd, Nat.reduceMul, Nat.reduceLT, Nat.reduceLeDiff, Nat.reduceSub, reduceCtorEq, Int.reduceToNat, ↓reduceIte]
  refine ev_loop0 [] (fun k : Nat => [(0, .slice (xs.map .str) .no), (1, .str s), (7, .int .i64 xs.length), (8, .int .i64 k)]) (fun k => k ≤ xs.length ∧ ∀ i, i < k → ¬s = xs.getD i []) (fun k => xs.length - k) 0 trivial ⟨Nat.zero_le _, fun i hi => absurd hi (Nat.not_lt_zero i)⟩ ?_ ?_
  · refine ⟨rfl, [], ?_⟩
    simp -implicitDefEqProofs only [Int.natCast_add, Int.cast_ofNat_Int, List.length_nil, Nat.le_refl, WeakTo, tokSts, tokOks, List.append_cancel_left_eq, exists_eq_left', exists_eq_left, List.append_cancel_left_eq, List.take_length, ObCl, and_true, true_and, push_cast, Nat.reduceEqDiff, Nat.reduceBEq, Nat.reduceBNe, Nat.reduceAdd, Nat.reduceMul, Nat.reduceLT, Nat.reduceLeDiff, Nat.reduceSub, reduceCtorEq, Int.reduceToNat, ↓reduceIte]
  · intro k hk
    have hw : IntKind.i64.wrap ((k : Int) + 1) = k + 1 := wrap_id (by omega) (by omega)
    try simp -implicitDefEqProofs only [hw, push_cast, Nat.reduceEqDiff, Nat.reduceBEq, Nat.reduceBNe, Nat.reduceAdd, Nat.reduceMul, Nat.reduceLT, Nat.reduceLeDiff, Nat.reduceSub, reduceCtorEq, Int.reduceToNat, ↓reduceIte]
    repeat'
      (first
       | (refine And.intro ?_ ?_)
       | (intro hx)
       | ((first
           | (refine callGF ?_)
           | (refine callQGF ?_)
           | (refine callS (in_gives ..) ?_)
           | (refine callQ (in_gives ..) ?_)
           | (refine callG (fun hc => (in_gives ..)) ?_)
           | (refine callQG (fun hc => (in_gives ..)) ?_)); simp -implicitDefEqProofs only [hw, push_cast, Nat.reduceEqDiff, Nat.reduceBEq, Nat.reduceBNe, Nat.reduceAdd, Nat.reduceMul, Nat.reduceLT, Nat.reduceLeDiff, Nat.reduceSub, reduceCtorEq, Int.reduceToNat, ↓reduceIte]))
    all_goals first
      | omega
      | (refine round_mk0 (k + 1) ⟨by omega, fun i hi => ?_⟩ (by omega) ⟨[], ?_⟩
         · by_cases e : i = k
           · rw [e]; exact hx
           · exact hk.2 i (by omega)
         · simp -implicitDefEqProofs only [hw, Int.natCast_add, Int.cast_ofNat_Int, List.length_nil, Nat.le_refl, WeakTo, tokSts, tokOks, List.append_cancel_left_eq, exists_eq_left', exists_eq_left, List.append_cancel_left_eq, List.take_length, ObCl, and_true, true_and, push_cast, Nat.reduceEqDiff, Nat.reduceBEq, Nat.reduceBNe, Nat.reduceAdd, Nat.reduceMul, Nat.reduceLT, Nat.reduceLeDiff, Nat.reduceSub, reduceCtorEq, Int.reduceToNat, ↓reduceIte])
      | (rw [idxV_at [] (by omega) (fun i hi => decide_eq_false (hk.2 i hi)) (decide_eq_true hx)])
      | (rw [idxV_none [] (fun i hi => decide_eq_false (hk.2 i (by omega)))])
def hasB (xs : List (List UInt8)) (s : List UInt8) : Bool := decide (0 ≤ idxV (fun x => decide (s = x)) xs)
theorem hasB_iff {xs : List (List UInt8)} {s : List UInt8} : hasB xs s = true ↔ s ∈ xs := by
  rw [hasB, decide_eq_true_eq]
  constructor
  · intro h
    obtain ⟨k, k1, k2, k3, _⟩ := idxV_spec ([] : List UInt8) h
    rw [of_decide_eq_true k3, List.getD_eq_getElem?_getD, List.getElem?_eq_getElem k2]
    exact List.getElem_mem k2
  · intro h
    rw [idxV, if_pos]
    · omega
    · rw [List.any_eq_true]
      exact ⟨s, h, decide_eq_true rfl⟩
theorem containsStr_gives (xs : List (List UInt8)) (s : List UInt8) (h : Hp) : Gives Try.prog 135 [.slice (xs.map .str) .no, .str s] h (.bool (hasB xs s)) := by
  refine meets_of [] mixed Try.func135 rfl (by kernel_rfl) (by kernel_rfl) (by rw [Try.ntmps135]; simp only [List.length_cons, List.length_nil]; omega) (fun hf => ?_)
  rw [Try.results135]
  clear hf
  try simp -implicitDefEqProofs only [push_cast, Nat.reduceEqDiff, Nat.reduceBEq, Nat.reduceBNe, Nat.reduceAdd, Nat.reduceMul, Nat.reduceLT, Nat.reduceLeDiff, Nat.reduceSub, reduceCtorEq, Int.reduceToNat, ↓reduceIte]
  repeat'
    (first
     | (refine And.intro ?_ ?_)
     | (intro hx)
     | ((first
         | (refine callGF ?_)
         | (refine callQGF ?_)
         | (refine callS (indexStr_gives xs s _) ?_)
         | (refine callQ (indexStr_gives xs s _) ?_)
         | (refine callG (fun hc => (indexStr_gives xs s _)) ?_)
         | (refine callQG (fun hc => (indexStr_gives xs s _)) ?_)); simp -implicitDefEqProofs only [push_cast, Nat.reduceEqDiff, Nat.reduceBEq, Nat.reduceBNe, Nat.reduceAdd, Nat.reduceMul, Nat.reduceLT, Nat.reduceLeDiff, Nat.reduceSub, reduceCtorEq, Int.reduceToNat, ↓reduceIte]))
  all_goals rfl

/-- a name, and none of those ahead of it -/
def unlikeAt (xs : List (List UInt8)) (i : Nat) : Bool := nameB (xs.getD i []) && !hasB (xs.take i) (xs.getD i [])
theorem hasB_take {xs : List (List UInt8)} {s : List UInt8} {i : Nat} (hi : i ≤ xs.length) : hasB (xs.take i) s = true ↔ ∃ j, j < i ∧ xs.getD j [] = s := by
  rw [hasB_iff, List.mem_iff_getElem]
  constructor
  · rintro ⟨j, hj, e⟩
    rw [List.length_take] at hj
    refine ⟨j, by omega, ?_⟩
    rw [← e, List.getElem_take, List.getD_eq_getElem?_getD, List.getElem?_eq_getElem (by omega)]
    rfl
  · rintro ⟨j, hj, e⟩
    refine ⟨j, by rw [List.length_take]; omega, ?_⟩
    rw [← e, List.getElem_take, List.getD_eq_getElem?_getD, List.getElem?_eq_getElem (by omega)]
    rfl
theorem unlike_gives (xs : List (List UInt8)) (h : Hp) : Gives Try.prog 131 [.slice (xs.map .str) .no] h (.bool (allB xs.length (unlikeAt xs))) := by
  refine meets_of [] mixed Try.func131 rfl (by kernel_rfl) (by kernel_rfl) (by rw [Try.ntmps131]; simp only [List.length_cons, List.length_nil]; omega) (fun hf => ?_)
  rw [Try.results131]
  have hl : xs.length ≤ 1073741824 := by simpa using slice_fit (hf (.slice (xs.map .str) .no) (by simp))
  clear hf
  simp -implicitDefEqProofs only [push_cast, Nat.reduceEqDiff, Nat.reduceBEq, Nat.reduceBNe, Nat.reduceAdd, Nat.reduceMul, Nat.reduceLT, Nat.reduceLeDiff, Nat.reduceSub, reduceCtorEq, Int.reduceToNat, ↓reduceIte]
  refine ev_loop0 [] (fun k : Nat => [(0, .slice (xs.map .str) .no), (5, .slice (xs.map .str) .no), (6, .int .i64 xs.length), (7, .int .i64 k)]) (fun k => k ≤ xs.length ∧ ∀ i, i < k → unlikeAt xs i = true) (fun k => xs.length - k) 0 trivial ⟨Nat.zero_le _, fun i hi => absurd hi (Nat.not_lt_zero i)⟩ ?_ ?_
  · refine ⟨rfl, [], ?_⟩
    simp -implicitDefEqProofs only [Int.natCast_add, Int.cast_ofNat_Int, List.length_nil, Nat.le_refl, WeakTo, tokSts, tokOks, List.append_cancel_left_eq, exists_eq_left', exists_eq_left, List.append_cancel_left_eq, List.take_length, ObCl, and_true, true_and, push_cast, Nat.reduceEqDiff, Nat.reduceBEq, Nat.reduceBNe, Nat.reduceAdd, Nat.reduceMul, Nat.reduceLT, Nat.reduceLeDiff, Nat.reduceSub, reduceCtorEq, Int.reduceToNat, ↓reduceIte]
  · intro k hk
    have hw : IntKind.i64.wrap ((k : Int) + 1) = k + 1 := wrap_id (by omega) (by omega)
    try simp -implicitDefEqProofs only [hw, push_cast, Nat.reduceEqDiff, Nat.reduceBEq, Nat.reduceBNe, Nat.reduceAdd, Nat.reduceMul, Nat.reduceLT, Nat.reduceLeDiff, Nat.reduceSub, reduceCtorEq, Int.reduceToNat, ↓reduceIte]
    repeat'
      (first
       | (refine And.intro ?_ ?_)
       | (intro hx)
       | ((first
           | (refine callGF ?_)
           | (refine callQGF ?_)
           | (refine callS (implName_gives _ _) ?_)
           | (refine callQ (implName_gives _ _) ?_)
           | (refine callG (fun hc => (implName_gives _ _)) ?_)
           | (refine callQG (fun hc => (implName_gives _ _)) ?_)
           | (refine callS (containsStr_gives (xs.take k) _ _) ?_)
           | (refine callQ (containsStr_gives (xs.take k) _ _) ?_)
           | (refine callG (fun hc => (containsStr_gives (xs.take k) _ _)) ?_)
           | (refine callQG (fun hc => (containsStr_gives (xs.take k) _ _)) ?_)); simp -implicitDefEqProofs only [hw, push_cast, Nat.reduceEqDiff, Nat.reduceBEq, Nat.reduceBNe, Nat.reduceAdd, Nat.reduceMul, Nat.reduceLT, Nat.reduceLeDiff, Nat.reduceSub, reduceCtorEq, Int.reduceToNat, ↓reduceIte]))
    all_goals first
      | omega
      | (refine round_mk0 (k + 1) ⟨by omega, allB_step hk.2 ?_⟩ (by omega) ⟨[], ?_⟩
         · rw [unlikeAt]; grind
         · simp -implicitDefEqProofs only [hw, Int.natCast_add, Int.cast_ofNat_Int, List.length_nil, Nat.le_refl, WeakTo, tokSts, tokOks, List.append_cancel_left_eq, exists_eq_left', exists_eq_left, List.append_cancel_left_eq, List.take_length, ObCl, and_true, true_and, push_cast, Nat.reduceEqDiff, Nat.reduceBEq, Nat.reduceBNe, Nat.reduceAdd, Nat.reduceMul, Nat.reduceLT, Nat.reduceLeDiff, Nat.reduceSub, reduceCtorEq, Int.reduceToNat, ↓reduceIte])
      | (rw [allB_f k (by omega) (by rw [unlikeAt]; grind)])
      | (obtain rfl : k = xs.length := by omega
         rw [allB_t hk.2])
def formB (t : Trip) : Bool := inB t.legs.length 1 3 && allB t.legs.length (unlikeAt t.legs) && nameB t.fare && inB t.seats 1 4
theorem formed_gives (t : Trip) (h : Hp) : Gives Try.prog 119 [t.d] h (.bool (formB t)) := by
  refine meets_of [] mixed Try.func119 rfl (by kernel_rfl) (by kernel_rfl) (by rw [Try.ntmps119]; simp only [List.length_cons, List.length_nil]; omega) (fun hf => ?_)
  rw [Try.results119]
  clear hf
  try simp -implicitDefEqProofs only [push_cast, Nat.reduceEqDiff, Nat.reduceBEq, Nat.reduceBNe, Nat.reduceAdd, Nat.reduceMul, Nat.reduceLT, Nat.reduceLeDiff, Nat.reduceSub, reduceCtorEq, Int.reduceToNat, ↓reduceIte]
  repeat'
    (first
     | (refine And.intro ?_ ?_)
     | (intro hx)
     | ((first
         | (refine callGF ?_)
         | (refine callQGF ?_)
         | (refine callS (implName_gives _ _) ?_)
         | (refine callQ (implName_gives _ _) ?_)
         | (refine callG (fun hc => (implName_gives _ _)) ?_)
         | (refine callQG (fun hc => (implName_gives _ _)) ?_)
         | (refine callS (in_gives _ _ _ _) ?_)
         | (refine callQ (in_gives _ _ _ _) ?_)
         | (refine callG (fun hc => (in_gives _ _ _ _)) ?_)
         | (refine callQG (fun hc => (in_gives _ _ _ _)) ?_)
         | (refine callS (unlike_gives _ _) ?_)
         | (refine callQ (unlike_gives _ _) ?_)
         | (refine callG (fun hc => (unlike_gives _ _)) ?_)
         | (refine callQG (fun hc => (unlike_gives _ _)) ?_)); simp -implicitDefEqProofs only [push_cast, Nat.reduceEqDiff, Nat.reduceBEq, Nat.reduceBNe, Nat.reduceAdd, Nat.reduceMul, Nat.reduceLT, Nat.reduceLeDiff, Nat.reduceSub, reduceCtorEq, Int.reduceToNat, ↓reduceIte]))
  all_goals (simp only [formB]; try grind)
theorem specForm_gives (t : Trip) (h : Hp) : Gives Try.prog 117 [t.d] h (.bool (formB t)) := by
  refine meets_of [] mixed Try.func117 rfl (by kernel_rfl) (by kernel_rfl) (by rw [Try.ntmps117]; simp only [List.length_cons, List.length_nil]; omega) (fun hf => ?_)
  rw [Try.results117]
  obtain ⟨hl, _⟩ := Trip.fit (hf t.d (by simp))
  clear hf
  simp -implicitDefEqProofs only [push_cast, Nat.reduceEqDiff, Nat.reduceBEq, Nat.reduceBNe, Nat.reduceAdd, Nat.reduceMul, Nat.reduceLT, Nat.reduceLeDiff, Nat.reduceSub, reduceCtorEq, Int.reduceToNat, ↓reduceIte]
  refine ev_loop [] (fun k : Nat => [(1, .ptr h.length 0), (3, .int .i64 k)]) (fun _ => [.row t.cs]) (fun k => k ≤ t.legs.length ∧ ∀ i, i < k → unlikeAt t.legs i = true) (fun k => t.legs.length - k) 0 trivial ⟨Nat.zero_le _, fun i hi => absurd hi (Nat.not_lt_zero i)⟩ ?_ ?_
  · refine ⟨1, by simp, by simp [tokSts], ?_⟩
    simp -implicitDefEqProofs only [Int.natCast_add, Int.cast_ofNat_Int, List.length_nil, Nat.le_refl, WeakTo, tokSts, tokOks, List.append_cancel_left_eq, exists_eq_left', exists_eq_left, List.append_cancel_left_eq, List.take_length, ObCl, and_true, true_and, push_cast, Nat.reduceEqDiff, Nat.reduceBEq, Nat.reduceBNe, Nat.reduceAdd, Nat.reduceMul, Nat.reduceLT, Nat.reduceLeDiff, Nat.reduceSub, reduceCtorEq, Int.reduceToNat, ↓reduceIte]
  · intro k hk
    have hw : IntKind.i64.wrap ((k : Int) + 1) = k + 1 := wrap_id (by omega) (by omega)
    rcases Nat.lt_or_ge k t.legs.length with hlt | hge
    · try simp -implicitDefEqProofs only [hw, push_cast, Nat.reduceEqDiff, Nat.reduceBEq, Nat.reduceBNe, Nat.reduceAdd, Nat.reduceMul, Nat.reduceLT, Nat.reduceLeDiff, Nat.reduceSub, reduceCtorEq, Int.reduceToNat, ↓reduceIte]
      repeat'
        (first
         | (refine And.intro ?_ ?_)
         | (intro hx)
         | ((first
             | (refine callGF ?_)
             | (refine callQGF ?_)
             | (refine callS (specName_gives _ _) ?_)
             | (refine callQ (specName_gives _ _) ?_)
             | (refine callG (fun hc => (specName_gives _ _)) ?_)
             | (refine callQG (fun hc => (specName_gives _ _)) ?_)); simp -implicitDefEqProofs only [hw, push_cast, Nat.reduceEqDiff, Nat.reduceBEq, Nat.reduceBNe, Nat.reduceAdd, Nat.reduceMul, Nat.reduceLT, Nat.reduceLeDiff, Nat.reduceSub, reduceCtorEq, Int.reduceToNat, ↓reduceIte]))
      all_goals try omega
      · have e : formB t = false := by
          simp only [formB]
          rw [allB_f k (by omega) (by rw [unlikeAt]; grind)]
          grind
        rw [e]
      rename_i hn
      refine ev_loop [] (fun j : Nat => [(1, .ptr h.length 0), (3, .int .i64 k), (4, .int .i64 j)]) (fun _ => [.row t.cs]) (fun j => j ≤ k ∧ ∀ i, i < j → ¬t.legs.getD i [] = t.legs.getD k []) (fun j => k - j) 0 trivial ⟨Nat.zero_le _, fun i hi => absurd hi (Nat.not_lt_zero i)⟩ ?_ ?_
      · refine ⟨1, by simp, by simp [tokSts], ?_⟩
        simp -implicitDefEqProofs only [Int.natCast_add, Int.cast_ofNat_Int, List.length_nil, Nat.le_refl, WeakTo, tokSts, tokOks, List.append_cancel_left_eq, exists_eq_left', exists_eq_left, List.append_cancel_left_eq, List.take_length, ObCl, and_true, true_and, push_cast, Nat.reduceEqDiff, Nat.reduceBEq, Nat.reduceBNe, Nat.reduceAdd, Nat.reduceMul, Nat.reduceLT, Nat.reduceLeDiff, Nat.reduceSub, reduceCtorEq, Int.reduceToNat, ↓reduceIte]
      · intro j hj
        have hw2 : IntKind.i64.wrap ((j : Int) + 1) = j + 1 := wrap_id (by omega) (by omega)
        have ht := hasB_take (xs := t.legs) (s := t.legs.getD k []) (i := k) (by omega)
        try simp -implicitDefEqProofs only [hw, hw2, push_cast, Nat.reduceEqDiff, Nat.reduceBEq, Nat.reduceBNe, Nat.reduceAdd, Nat.reduceMul, Nat.reduceLT, Nat.reduceLeDiff, Nat.reduceSub, reduceCtorEq, Int.reduceToNat, ↓reduceIte]
        repeat'
          (first
           | (refine And.intro ?_ ?_)
           | (intro hx)
           | ((first
               | (refine callGF ?_)
               | (refine callQGF ?_)
               | (refine callS (specName_gives _ _) ?_)
               | (refine callQ (specName_gives _ _) ?_)
               | (refine callG (fun hc => (specName_gives _ _)) ?_)
               | (refine callQG (fun hc => (specName_gives _ _)) ?_)); simp -implicitDefEqProofs only [hw, hw2, push_cast, Nat.reduceEqDiff, Nat.reduceBEq, Nat.reduceBNe, Nat.reduceAdd, Nat.reduceMul, Nat.reduceLT, Nat.reduceLeDiff, Nat.reduceSub, reduceCtorEq, Int.reduceToNat, ↓reduceIte]))
        all_goals first
          | omega
          | (have e : formB t = false := by
               simp only [formB]
               rw [allB_f k (by omega) (by rw [unlikeAt, ht.2 ⟨j, by omega, hx⟩]; simp)]
               grind
             rw [e])
          | (refine round_mk (j + 1) ⟨by omega, fun i hi => ?_⟩ (by omega) ?_
             · by_cases e : i = j
               · rw [e]; exact hx
               · exact hj.2 i (by omega)
             · simp -implicitDefEqProofs only [hw2, Int.natCast_add, Int.cast_ofNat_Int, List.length_nil, Nat.le_refl, WeakTo, tokSts, tokOks, List.append_cancel_left_eq, exists_eq_left', exists_eq_left, List.append_cancel_left_eq, List.take_length, ObCl, and_true, true_and, push_cast, Nat.reduceEqDiff, Nat.reduceBEq, Nat.reduceBNe, Nat.reduceAdd, Nat.reduceMul, Nat.reduceLT, Nat.reduceLeDiff, Nat.reduceSub, reduceCtorEq, Int.reduceToNat, ↓reduceIte])
          | (refine round_mk (k + 1) ⟨by omega, allB_step hk.2 ?_⟩ (by omega) ?_
             · rw [unlikeAt]
               cases e : hasB (t.legs.take k) (t.legs.getD k []) with
               | false => grind
               | true =>
                 obtain ⟨i, hi, he⟩ := ht.1 e
                 exact absurd he (hj.2 i (by omega))
             · simp -implicitDefEqProofs only [hw, Int.natCast_add, Int.cast_ofNat_Int, List.length_nil, Nat.le_refl, WeakTo, tokSts, tokOks, List.append_cancel_left_eq, exists_eq_left', exists_eq_left, List.append_cancel_left_eq, List.take_length, ObCl, and_true, true_and, push_cast, Nat.reduceEqDiff, Nat.reduceBEq, Nat.reduceBNe, Nat.reduceAdd, Nat.reduceMul, Nat.reduceLT, Nat.reduceLeDiff, Nat.reduceSub, reduceCtorEq, Int.reduceToNat, ↓reduceIte])
    · try simp -implicitDefEqProofs only [hw, push_cast, Nat.reduceEqDiff, Nat.reduceBEq, Nat.reduceBNe, Nat.reduceAdd, Nat.reduceMul, Nat.reduceLT, Nat.reduceLeDiff, Nat.reduceSub, reduceCtorEq, Int.reduceToNat, ↓reduceIte]
      repeat'
        (first
         | (refine And.intro ?_ ?_)
         | (intro hx)
         | ((first
             | (refine callGF ?_)
             | (refine callQGF ?_)
             | (refine callS (specName_gives _ _) ?_)
             | (refine callQ (specName_gives _ _) ?_)
             | (refine callG (fun hc => (specName_gives _ _)) ?_)
             | (refine callQG (fun hc => (specName_gives _ _)) ?_)
             | (refine callS (l1In_gives _ _ _ _) ?_)
             | (refine callQ (l1In_gives _ _ _ _) ?_)
             | (refine callG (fun hc => (l1In_gives _ _ _ _)) ?_)
             | (refine callQG (fun hc => (l1In_gives _ _ _ _)) ?_)); simp -implicitDefEqProofs only [hw, push_cast, Nat.reduceEqDiff, Nat.reduceBEq, Nat.reduceBNe, Nat.reduceAdd, Nat.reduceMul, Nat.reduceLT, Nat.reduceLeDiff, Nat.reduceSub, reduceCtorEq, Int.reduceToNat, ↓reduceIte]))
      all_goals first
        | omega
        | (obtain rfl : k = t.legs.length := by omega
           simp only [formB, allB_t hk.2]
           grind)
end Go.Proofs.Ytcomlmdpkafijaa
