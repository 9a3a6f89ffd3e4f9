/- Contracts of functions of the program (C2). -/
import Derived.Test.YtmehbbepppjikaaC1

namespace Go.Proofs.Ytmehbbepppjikaa
open Go.Av
set_option maxRecDepth 10000
set_option linter.unusedSimpArgs false
set_option linter.unusedVariables false

def sumW (n : Int) (xs : List Int) : Int := xs.foldl (fun n s => IntKind.i64.wrap (n + s)) n
def usedW (c n : Int) (hs : List Hold) : Int := hs.foldl (fun n h => if c ≤ h.cls ∧ 0 < h.seats then IntKind.i64.wrap (n + h.seats) else n) n
def backW (c n : Int) (hs : List Hold) : Int := hs.foldl (fun n h => if h.cls = c ∧ h.seats < 0 then IntKind.i64.wrap (n - h.seats) else n) n
theorem sumW_succ (n : Int) (xs : List Int) {k : Nat} (h : k < xs.length) : sumW n (xs.take (k + 1)) = IntKind.i64.wrap (sumW n (xs.take k) + xs.getD k 0) := by
  rw [take_succ_getD xs 0 h, sumW, List.foldl_append]; rfl
theorem usedW_succ (c n : Int) (xs : List Hold) {k : Nat} (h : k < xs.length) : usedW c n (xs.take (k + 1)) = if c ≤ (xs.getD k default).cls ∧ 0 < (xs.getD k default).seats then IntKind.i64.wrap (usedW c n (xs.take k) + (xs.getD k default).seats) else usedW c n (xs.take k) := by
  rw [take_succ_getD xs default h, usedW, List.foldl_append]; rfl
theorem backW_succ (c n : Int) (xs : List Hold) {k : Nat} (h : k < xs.length) : backW c n (xs.take (k + 1)) = if (xs.getD k default).cls = c ∧ (xs.getD k default).seats < 0 then IntKind.i64.wrap (backW c n (xs.take k) - (xs.getD k default).seats) else backW c n (xs.take k) := by
  rw [take_succ_getD xs default h, backW, List.foldl_append]; rfl
theorem getD_drop0 (xs : List Int) (a k : Nat) : (xs.drop a).getD k 0 = xs.getD (a + k) 0 := by
  simp [List.getD_eq_getElem?_getD]

/-- what a class and all lower ones use -/
def usedV (l : Leg) (c : Int) : Int := usedW c (sumW 0 (l.sold.drop c.toNat)) l.holds
def backV (l : Leg) (c : Int) : Int := backW c 0 l.holds

theorem used_gives (l : Leg) (c : Int) (h : Hp) (h0 : 0 ≤ c) (h1 : c ≤ l.sold.length) : Gives Try.prog 119 [l.d, .int .i64 c] h (.int .i64 (usedV l c)) := by
  refine meets_of [] mixed Try.func119 rfl (by kernel_rfl) (by kernel_rfl) (by rw [Try.ntmps119]; simp only [List.length_cons, List.length_nil]; omega) (fun hf => ?_)
  rw [Try.results119]
  obtain ⟨_, _, _, _, hf1, _, hf2⟩ := Leg.fit (hf l.d (by simp))
  clear hf
  simp -implicitDefEqProofs only [push_cast, Nat.reduceEqDiff, Nat.reduceBEq, Nat.reduceBNe, Nat.reduceAdd, Nat.reduceMul, Nat.reduceLT, Nat.reduceLeDiff, Nat.reduceSub, reduceCtorEq, Int.reduceToNat, ↓reduceIte]
  refine ⟨⟨h0, h1⟩, ?_⟩
  refine ev_loop [] (fun k : Nat => [(1, .int .i64 c), (2, .ptr h.length 0), (5, .int .i64 (sumW 0 ((l.sold.drop c.toNat).take k))), (13, .slice ((l.sold.drop c.toNat).map (.int .i64)) .no), (14, .int .i64 ((l.sold.length - c.toNat : Nat))), (15, .int .i64 (k : Int))])
    (fun _ => [.row l.cs]) (fun k => k ≤ l.sold.length - c.toNat) (fun k => l.sold.length - c.toNat - k) 0 trivial (Nat.zero_le _) ?_ ?_
  · refine ⟨1, by simp, by simp [tokSts], ?_⟩
    simp -implicitDefEqProofs only [Int.natCast_add, Int.cast_ofNat_Int, List.length_nil, Nat.le_refl, WeakTo, tokSts, tokOks, List.append_cancel_left_eq, exists_eq_left', exists_eq_left, List.append_cancel_left_eq, List.take_length, ObCl, and_true, true_and, push_cast, Nat.reduceEqDiff, Nat.reduceBEq, Nat.reduceBNe, Nat.reduceAdd, Nat.reduceMul, Nat.reduceLT, Nat.reduceLeDiff, Nat.reduceSub, reduceCtorEq, Int.reduceToNat, ↓reduceIte]
    simp [sumW]
  · intro k hk
    simp -implicitDefEqProofs only [push_cast, Nat.reduceEqDiff, Nat.reduceBEq, Nat.reduceBNe, Nat.reduceAdd, Nat.reduceMul, Nat.reduceLT, Nat.reduceLeDiff, Nat.reduceSub, reduceCtorEq, Int.reduceToNat, ↓reduceIte]
    refine ⟨fun hlt => ⟨⟨by omega, hlt⟩, round_mk (k + 1) (by omega) (by omega) ?_⟩, fun hge => ?_⟩
    · simp -implicitDefEqProofs only [Int.natCast_add, Int.cast_ofNat_Int, List.length_nil, Nat.le_refl, WeakTo, tokSts, tokOks, List.append_cancel_left_eq, exists_eq_left', exists_eq_left, List.append_cancel_left_eq, List.take_length, ObCl, and_true, true_and, push_cast, Nat.reduceEqDiff, Nat.reduceBEq, Nat.reduceBNe, Nat.reduceAdd, Nat.reduceMul, Nat.reduceLT, Nat.reduceLeDiff, Nat.reduceSub, reduceCtorEq, Int.reduceToNat, ↓reduceIte]
      exact ⟨(sumW_succ 0 _ (by simp; omega)).symm, wrap_id (by omega) (by omega)⟩
    · obtain rfl : k = l.sold.length - c.toNat := by omega
      rw [List.take_of_length_le (l := l.sold.drop c.toNat) (by simp)]
      refine ev_loop [] (fun k : Nat => [(1, .int .i64 c), (2, .ptr h.length 0), (5, .int .i64 (usedW c (sumW 0 (l.sold.drop c.toNat)) (l.holds.take k))), (24, .slice (l.holds.map Hold.d) .no), (25, .int .i64 (l.holds.length : Int)), (26, .int .i64 (k : Int))])
        (fun _ => [.row l.cs]) (fun k => k ≤ l.holds.length) (fun k => l.holds.length - k) 0 trivial (Nat.zero_le _) ?_ ?_
      · refine ⟨1, by simp, by simp [tokSts], ?_⟩
        simp -implicitDefEqProofs only [Int.natCast_add, Int.cast_ofNat_Int, List.length_nil, Nat.le_refl, WeakTo, tokSts, tokOks, List.append_cancel_left_eq, exists_eq_left', exists_eq_left, List.append_cancel_left_eq, List.take_length, ObCl, and_true, true_and, push_cast, Nat.reduceEqDiff, Nat.reduceBEq, Nat.reduceBNe, Nat.reduceAdd, Nat.reduceMul, Nat.reduceLT, Nat.reduceLeDiff, Nat.reduceSub, reduceCtorEq, Int.reduceToNat, ↓reduceIte]
        simp [usedW]
      · intro k hk
        simp -implicitDefEqProofs only [push_cast, Nat.reduceEqDiff, Nat.reduceBEq, Nat.reduceBNe, Nat.reduceAdd, Nat.reduceMul, Nat.reduceLT, Nat.reduceLeDiff, Nat.reduceSub, reduceCtorEq, Int.reduceToNat, ↓reduceIte]
        refine ⟨fun hlt => ⟨⟨by omega, hlt⟩, fun hc => round_mk (k + 1) (by omega) (by omega) ?_, fun hc => round_mk (k + 1) (by omega) (by omega) ?_⟩, fun hge => ?_⟩
        · simp -implicitDefEqProofs only [Int.natCast_add, Int.cast_ofNat_Int, List.length_nil, Nat.le_refl, WeakTo, tokSts, tokOks, List.append_cancel_left_eq, exists_eq_left', exists_eq_left, List.append_cancel_left_eq, List.take_length, ObCl, and_true, true_and, push_cast, Nat.reduceEqDiff, Nat.reduceBEq, Nat.reduceBNe, Nat.reduceAdd, Nat.reduceMul, Nat.reduceLT, Nat.reduceLeDiff, Nat.reduceSub, reduceCtorEq, Int.reduceToNat, ↓reduceIte]
          rw [usedW_succ _ _ _ (by omega), if_pos hc]
          exact ⟨rfl, wrap_id (by omega) (by omega)⟩
        · simp -implicitDefEqProofs only [Int.natCast_add, Int.cast_ofNat_Int, List.length_nil, Nat.le_refl, WeakTo, tokSts, tokOks, List.append_cancel_left_eq, exists_eq_left', exists_eq_left, List.append_cancel_left_eq, List.take_length, ObCl, and_true, true_and, push_cast, Nat.reduceEqDiff, Nat.reduceBEq, Nat.reduceBNe, Nat.reduceAdd, Nat.reduceMul, Nat.reduceLT, Nat.reduceLeDiff, Nat.reduceSub, reduceCtorEq, Int.reduceToNat, ↓reduceIte]
          rw [usedW_succ _ _ _ (by omega), if_neg (fun e => by have := hc e.1; omega)]
          exact ⟨rfl, wrap_id (by omega) (by omega)⟩
        · obtain rfl : k = l.holds.length := by omega
          rw [List.take_length, usedV]

theorem back_gives (l : Leg) (c : Int) (h : Hp) : Gives Try.prog 120 [l.d, .int .i64 c] h (.int .i64 (backV l c)) := by
  refine meets_of [] mixed Try.func120 rfl (by kernel_rfl) (by kernel_rfl) (by rw [Try.ntmps120]; simp only [List.length_cons, List.length_nil]; omega) (fun hf => ?_)
  rw [Try.results120]
  obtain ⟨_, _, _, _, hf1, _, hf2⟩ := Leg.fit (hf l.d (by simp))
  clear hf
  simp -implicitDefEqProofs only [push_cast, Nat.reduceEqDiff, Nat.reduceBEq, Nat.reduceBNe, Nat.reduceAdd, Nat.reduceMul, Nat.reduceLT, Nat.reduceLeDiff, Nat.reduceSub, reduceCtorEq, Int.reduceToNat, ↓reduceIte]
  refine ev_loop [] (fun k : Nat => [(1, .int .i64 c), (2, .ptr h.length 0), (5, .int .i64 (backW c 0 (l.holds.take k))), (9, .slice (l.holds.map Hold.d) .no), (10, .int .i64 (l.holds.length : Int)), (11, .int .i64 (k : Int))])
    (fun _ => [.row l.cs]) (fun k => k ≤ l.holds.length) (fun k => l.holds.length - k) 0 trivial (Nat.zero_le _) ?_ ?_
  · refine ⟨1, by simp, by simp [tokSts], ?_⟩
    simp -implicitDefEqProofs only [Int.natCast_add, Int.cast_ofNat_Int, List.length_nil, Nat.le_refl, WeakTo, tokSts, tokOks, List.append_cancel_left_eq, exists_eq_left', exists_eq_left, List.append_cancel_left_eq, List.take_length, ObCl, and_true, true_and, push_cast, Nat.reduceEqDiff, Nat.reduceBEq, Nat.reduceBNe, Nat.reduceAdd, Nat.reduceMul, Nat.reduceLT, Nat.reduceLeDiff, Nat.reduceSub, reduceCtorEq, Int.reduceToNat, ↓reduceIte]
    simp [backW]
  · intro k hk
    simp -implicitDefEqProofs only [push_cast, Nat.reduceEqDiff, Nat.reduceBEq, Nat.reduceBNe, Nat.reduceAdd, Nat.reduceMul, Nat.reduceLT, Nat.reduceLeDiff, Nat.reduceSub, reduceCtorEq, Int.reduceToNat, ↓reduceIte]
    refine ⟨fun hlt => ⟨⟨by omega, hlt⟩, fun hc => round_mk (k + 1) (by omega) (by omega) ?_, fun hc => round_mk (k + 1) (by omega) (by omega) ?_⟩, fun hge => ?_⟩
    · simp -implicitDefEqProofs only [Int.natCast_add, Int.cast_ofNat_Int, List.length_nil, Nat.le_refl, WeakTo, tokSts, tokOks, List.append_cancel_left_eq, exists_eq_left', exists_eq_left, List.append_cancel_left_eq, List.take_length, ObCl, and_true, true_and, push_cast, Nat.reduceEqDiff, Nat.reduceBEq, Nat.reduceBNe, Nat.reduceAdd, Nat.reduceMul, Nat.reduceLT, Nat.reduceLeDiff, Nat.reduceSub, reduceCtorEq, Int.reduceToNat, ↓reduceIte]
      rw [backW_succ _ _ _ (by omega), if_pos hc]
      exact ⟨rfl, wrap_id (by omega) (by omega)⟩
    · simp -implicitDefEqProofs only [Int.natCast_add, Int.cast_ofNat_Int, List.length_nil, Nat.le_refl, WeakTo, tokSts, tokOks, List.append_cancel_left_eq, exists_eq_left', exists_eq_left, List.append_cancel_left_eq, List.take_length, ObCl, and_true, true_and, push_cast, Nat.reduceEqDiff, Nat.reduceBEq, Nat.reduceBNe, Nat.reduceAdd, Nat.reduceMul, Nat.reduceLT, Nat.reduceLeDiff, Nat.reduceSub, reduceCtorEq, Int.reduceToNat, ↓reduceIte]
      rw [backW_succ _ _ _ (by omega), if_neg (fun e => by have := hc e.1; omega)]
      exact ⟨rfl, wrap_id (by omega) (by omega)⟩
    · obtain rfl : k = l.holds.length := by omega
      rw [List.take_length, backV]

theorem specBack_gives (l : Leg) (c : Int) (h : Hp) : Gives Try.prog 72 [l.d, .int .i64 c] h (.int .i64 (backV l c)) := by
  refine meets_of [] mixed Try.func72 rfl (by kernel_rfl) (by kernel_rfl) (by rw [Try.ntmps72]; simp only [List.length_cons, List.length_nil]; omega) (fun hf => ?_)
  rw [Try.results72]
  obtain ⟨_, _, _, _, hf1, _, hf2⟩ := Leg.fit (hf l.d (by simp))
  clear hf
  simp -implicitDefEqProofs only [push_cast, Nat.reduceEqDiff, Nat.reduceBEq, Nat.reduceBNe, Nat.reduceAdd, Nat.reduceMul, Nat.reduceLT, Nat.reduceLeDiff, Nat.reduceSub, reduceCtorEq, Int.reduceToNat, ↓reduceIte]
  refine ev_loop [] (fun k : Nat => [(1, .int .i64 c), (2, .ptr h.length 0), (5, .int .i64 (backW c 0 (l.holds.take k))), (6, .int .i64 (k : Int))])
    (fun _ => [.row l.cs]) (fun k => k ≤ l.holds.length) (fun k => l.holds.length - k) 0 trivial (Nat.zero_le _) ?_ ?_
  · refine ⟨1, by simp, by simp [tokSts], ?_⟩
    simp -implicitDefEqProofs only [Int.natCast_add, Int.cast_ofNat_Int, List.length_nil, Nat.le_refl, WeakTo, tokSts, tokOks, List.append_cancel_left_eq, exists_eq_left', exists_eq_left, List.append_cancel_left_eq, List.take_length, ObCl, and_true, true_and, push_cast, Nat.reduceEqDiff, Nat.reduceBEq, Nat.reduceBNe, Nat.reduceAdd, Nat.reduceMul, Nat.reduceLT, Nat.reduceLeDiff, Nat.reduceSub, reduceCtorEq, Int.reduceToNat, ↓reduceIte]
    simp [backW]
  · intro k hk
    simp -implicitDefEqProofs only [push_cast, Nat.reduceEqDiff, Nat.reduceBEq, Nat.reduceBNe, Nat.reduceAdd, Nat.reduceMul, Nat.reduceLT, Nat.reduceLeDiff, Nat.reduceSub, reduceCtorEq, Int.reduceToNat, ↓reduceIte]
    refine ⟨fun hlt => ⟨⟨by omega, hlt⟩, fun e => ⟨e, e, by omega, hlt⟩, fun hc => ⟨⟨by omega, hlt⟩, round_mk (k + 1) (by omega) (by omega) ?_⟩, fun hc => round_mk (k + 1) (by omega) (by omega) ?_⟩, fun hge => ?_⟩
    · simp -implicitDefEqProofs only [Int.natCast_add, Int.cast_ofNat_Int, List.length_nil, Nat.le_refl, WeakTo, tokSts, tokOks, List.append_cancel_left_eq, exists_eq_left', exists_eq_left, List.append_cancel_left_eq, List.take_length, ObCl, and_true, true_and, push_cast, Nat.reduceEqDiff, Nat.reduceBEq, Nat.reduceBNe, Nat.reduceAdd, Nat.reduceMul, Nat.reduceLT, Nat.reduceLeDiff, Nat.reduceSub, reduceCtorEq, Int.reduceToNat, ↓reduceIte]
      rw [backW_succ _ _ _ (by omega), if_pos hc]
      exact ⟨rfl, wrap_id (by omega) (by omega)⟩
    · simp -implicitDefEqProofs only [Int.natCast_add, Int.cast_ofNat_Int, List.length_nil, Nat.le_refl, WeakTo, tokSts, tokOks, List.append_cancel_left_eq, exists_eq_left', exists_eq_left, List.append_cancel_left_eq, List.take_length, ObCl, and_true, true_and, push_cast, Nat.reduceEqDiff, Nat.reduceBEq, Nat.reduceBNe, Nat.reduceAdd, Nat.reduceMul, Nat.reduceLT, Nat.reduceLeDiff, Nat.reduceSub, reduceCtorEq, Int.reduceToNat, ↓reduceIte]
      rw [backW_succ _ _ _ (by omega), if_neg (fun e => by have := hc e.1; omega)]
      exact ⟨rfl, wrap_id (by omega) (by omega)⟩
    · obtain rfl : k = l.holds.length := by omega
      rw [List.take_length, backV]

theorem specUsed_gives (l : Leg) (c : Int) (h : Hp) (h0 : 0 ≤ c) (h1 : c ≤ 3) (h3 : l.sold.length = 3) : Gives Try.prog 71 [l.d, .int .i64 c] h (.int .i64 (usedV l c)) := by
  refine meets_of [] mixed Try.func71 rfl (by kernel_rfl) (by kernel_rfl) (by rw [Try.ntmps71]; simp only [List.length_cons, List.length_nil]; omega) (fun hf => ?_)
  rw [Try.results71]
  obtain ⟨_, _, _, _, hf1, _, hf2⟩ := Leg.fit (hf l.d (by simp))
  clear hf
  simp -implicitDefEqProofs only [push_cast, Nat.reduceEqDiff, Nat.reduceBEq, Nat.reduceBNe, Nat.reduceAdd, Nat.reduceMul, Nat.reduceLT, Nat.reduceLeDiff, Nat.reduceSub, reduceCtorEq, Int.reduceToNat, ↓reduceIte]
  refine ev_loop [] (fun k : Nat => [(1, .int .i64 c), (2, .ptr h.length 0), (5, .int .i64 (sumW 0 ((l.sold.drop c.toNat).take k))), (6, .int .i64 (c + k))])
    (fun _ => [.row l.cs]) (fun k => k ≤ 3 - c.toNat) (fun k => 3 - c.toNat - k) 0 trivial (Nat.zero_le _) ?_ ?_
  · refine ⟨1, by simp, by simp [tokSts], ?_⟩
    simp -implicitDefEqProofs only [Int.natCast_add, Int.cast_ofNat_Int, List.length_nil, Nat.le_refl, WeakTo, tokSts, tokOks, List.append_cancel_left_eq, exists_eq_left', exists_eq_left, List.append_cancel_left_eq, List.take_length, ObCl, and_true, true_and, push_cast, Nat.reduceEqDiff, Nat.reduceBEq, Nat.reduceBNe, Nat.reduceAdd, Nat.reduceMul, Nat.reduceLT, Nat.reduceLeDiff, Nat.reduceSub, reduceCtorEq, Int.reduceToNat, ↓reduceIte]
    simp [sumW]
  · intro k hk
    simp -implicitDefEqProofs only [push_cast, Nat.reduceEqDiff, Nat.reduceBEq, Nat.reduceBNe, Nat.reduceAdd, Nat.reduceMul, Nat.reduceLT, Nat.reduceLeDiff, Nat.reduceSub, reduceCtorEq, Int.reduceToNat, ↓reduceIte]
    refine ⟨fun hlt => ⟨⟨by omega, by omega⟩, round_mk (k + 1) (by omega) (by omega) ?_⟩, fun hge => ?_⟩
    · simp -implicitDefEqProofs only [Int.natCast_add, Int.cast_ofNat_Int, List.length_nil, Nat.le_refl, WeakTo, tokSts, tokOks, List.append_cancel_left_eq, exists_eq_left', exists_eq_left, List.append_cancel_left_eq, List.take_length, ObCl, and_true, true_and, push_cast, Nat.reduceEqDiff, Nat.reduceBEq, Nat.reduceBNe, Nat.reduceAdd, Nat.reduceMul, Nat.reduceLT, Nat.reduceLeDiff, Nat.reduceSub, reduceCtorEq, Int.reduceToNat, ↓reduceIte]
      refine ⟨?_, by rw [wrap_id (by omega) (by omega)]; omega⟩
      rw [sumW_succ 0 _ (by simp; omega), getD_drop0, show (c + (k : Int)).toNat = c.toNat + k by omega]
    · obtain rfl : k = 3 - c.toNat := by omega
      rw [List.take_of_length_le (l := l.sold.drop c.toNat) (by simp; omega)]
      refine ev_loop [] (fun k : Nat => [(1, .int .i64 c), (2, .ptr h.length 0), (5, .int .i64 (usedW c (sumW 0 (l.sold.drop c.toNat)) (l.holds.take k))), (7, .int .i64 (k : Int))])
        (fun _ => [.row l.cs]) (fun k => k ≤ l.holds.length) (fun k => l.holds.length - k) 0 trivial (Nat.zero_le _) ?_ ?_
      · refine ⟨1, by simp, by simp [tokSts], ?_⟩
        simp -implicitDefEqProofs only [Int.natCast_add, Int.cast_ofNat_Int, List.length_nil, Nat.le_refl, WeakTo, tokSts, tokOks, List.append_cancel_left_eq, exists_eq_left', exists_eq_left, List.append_cancel_left_eq, List.take_length, ObCl, and_true, true_and, push_cast, Nat.reduceEqDiff, Nat.reduceBEq, Nat.reduceBNe, Nat.reduceAdd, Nat.reduceMul, Nat.reduceLT, Nat.reduceLeDiff, Nat.reduceSub, reduceCtorEq, Int.reduceToNat, ↓reduceIte]
        simp [usedW]
      · intro k hk
        simp -implicitDefEqProofs only [push_cast, Nat.reduceEqDiff, Nat.reduceBEq, Nat.reduceBNe, Nat.reduceAdd, Nat.reduceMul, Nat.reduceLT, Nat.reduceLeDiff, Nat.reduceSub, reduceCtorEq, Int.reduceToNat, ↓reduceIte]
        refine ⟨fun hlt => ⟨⟨by omega, hlt⟩, fun e => ⟨e, e, by omega, hlt⟩, fun hc => ⟨⟨by omega, hlt⟩, round_mk (k + 1) (by omega) (by omega) ?_⟩, fun hc => round_mk (k + 1) (by omega) (by omega) ?_⟩, fun hge => ?_⟩
        · simp -implicitDefEqProofs only [Int.natCast_add, Int.cast_ofNat_Int, List.length_nil, Nat.le_refl, WeakTo, tokSts, tokOks, List.append_cancel_left_eq, exists_eq_left', exists_eq_left, List.append_cancel_left_eq, List.take_length, ObCl, and_true, true_and, push_cast, Nat.reduceEqDiff, Nat.reduceBEq, Nat.reduceBNe, Nat.reduceAdd, Nat.reduceMul, Nat.reduceLT, Nat.reduceLeDiff, Nat.reduceSub, reduceCtorEq, Int.reduceToNat, ↓reduceIte]
          rw [usedW_succ _ _ _ (by omega), if_pos hc]
          exact ⟨rfl, wrap_id (by omega) (by omega)⟩
        · simp -implicitDefEqProofs only [Int.natCast_add, Int.cast_ofNat_Int, List.length_nil, Nat.le_refl, WeakTo, tokSts, tokOks, List.append_cancel_left_eq, exists_eq_left', exists_eq_left, List.append_cancel_left_eq, List.take_length, ObCl, and_true, true_and, push_cast, Nat.reduceEqDiff, Nat.reduceBEq, Nat.reduceBNe, Nat.reduceAdd, Nat.reduceMul, Nat.reduceLT, Nat.reduceLeDiff, Nat.reduceSub, reduceCtorEq, Int.reduceToNat, ↓reduceIte]
          rw [usedW_succ _ _ _ (by omega), if_neg (fun e => by have := hc e.1; omega)]
          exact ⟨rfl, wrap_id (by omega) (by omega)⟩
        · obtain rfl : k = l.holds.length := by omega
          rw [List.take_length, usedV]
end Go.Proofs.Ytmehbbepppjikaa
