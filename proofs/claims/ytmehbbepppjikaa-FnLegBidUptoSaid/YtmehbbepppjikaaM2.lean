/- Contracts of functions of the program (M2). -/
import Derived.Test.YtmehbbepppjikaaM1

namespace Go.Proofs.Ytmehbbepppjikaa
open Go.Av
set_option maxRecDepth 10000
set_option linter.unusedSimpArgs false
set_option linter.unusedVariables false

theorem getD_app_lt {α : Type} {xs ys : List α} {i : Nat} (d : α) (h : i < xs.length) : (xs ++ ys).getD i d = xs.getD i d := by
  rw [List.getD_eq_getElem?_getD, List.getElem?_append_left h, List.getD_eq_getElem?_getD]
theorem getD_app_at {α : Type} {xs : List α} {x : α} {i : Nat} (d : α) (h : i = xs.length) : (xs ++ [x]).getD i d = x := by
  subst h
  rw [List.getD_eq_getElem?_getD, List.getElem?_append_right (Nat.le_refl _)]
  simp
theorem seqI_get (k : Int) : ∀ {n j : Nat}, j < n → (seqI k n).getD j 0 = k + j
  | n + 1, j, h => by
    rw [seqI]
    by_cases e : j < n
    · rw [getD_app_lt _ (by rw [seqI_len]; exact e), seqI_get k e]
    · rw [getD_app_at _ (by rw [seqI_len]; omega)]
      omega
/-- n holds in a row, marked from k on -/
def seqH (k : Int) : Nat → List Hold
  | 0 => []
  | n + 1 => seqH k n ++ [⟨k + n * 3, k + n * 3 + 1, k + n * 3 + 2⟩]
theorem seqH_len (k : Int) : ∀ n, (seqH k n).length = n
  | 0 => rfl
  | n + 1 => by rw [seqH, List.length_append, seqH_len k n]; rfl
theorem seqH_get (k : Int) : ∀ {n j : Nat}, j < n → (seqH k n).getD j default = ⟨k + j * 3, k + j * 3 + 1, k + j * 3 + 2⟩
  | n + 1, j, h => by
    rw [seqH]
    by_cases e : j < n
    · rw [getD_app_lt _ (by rw [seqH_len]; exact e), seqH_get k e]
    · obtain rfl : j = n := by omega
      rw [getD_app_at _ (by rw [seqH_len])]
theorem seqH_flat (k : Int) : ∀ n, (seqI k (n * 3)).map (.int .i64) = (seqH k n).flatMap Hold.cs
  | 0 => rfl
  | n + 1 => by
    rw [show (n + 1) * 3 = n * 3 + 1 + 1 + 1 by omega, seqI, seqI, seqI, seqH, List.map_append, List.map_append, List.map_append, seqH_flat k n, List.flatMap_append, List.append_assoc, List.append_assoc]
    congr 1
    simp [Hold.cs]
    omega
theorem heldIntS_gives (k0 : Int) (n : Nat) (h : Hp) (h0 : 0 ≤ k0) (h1 : k0 + n ≤ 4000000000000000000) : Gives Try.prog 103 [.slice ((seqI k0 n).map (.int .i64)) .no, .int .i64 k0] h (.int .i64 (k0 + n)) := by
  refine meets_of [] mixed Try.func103 rfl (by kernel_rfl) (by kernel_rfl) (by rw [Try.ntmps103]; simp only [List.length_cons, List.length_nil]; omega) (fun hf => ?_)
  rw [Try.results103]
  clear hf
  have hl := seqI_len k0 n
  simp -implicitDefEqProofs only [push_cast, Nat.reduceEqDiff, Nat.reduceBEq, Nat.reduceBNe, Nat.reduceAdd, Nat.reduceMul, Nat.reduceLT, Nat.reduceLeDiff, Nat.reduceSub, reduceCtorEq, Int.reduceToNat, ↓reduceIte]
  refine ev_loop0 [] (fun j : Nat => [(0, .slice ((seqI k0 n).map (.int .i64)) .no), (1, .int .i64 (k0 + j)), (5, .int .i64 j)]) (fun j => j ≤ n) (fun j => n - j) 0 trivial (Nat.zero_le _) ?_ ?_
  · refine ⟨rfl, [], ?_⟩
    simp -implicitDefEqProofs only [Int.natCast_add, Int.cast_ofNat_Int, List.length_nil, Nat.le_refl, WeakTo, tokSts, tokOks, List.append_cancel_left_eq, exists_eq_left', exists_eq_left, List.append_cancel_left_eq, List.take_length, ObCl, and_true, true_and, push_cast, Nat.reduceEqDiff, Nat.reduceBEq, Nat.reduceBNe, Nat.reduceAdd, Nat.reduceMul, Nat.reduceLT, Nat.reduceLeDiff, Nat.reduceSub, reduceCtorEq, Int.reduceToNat, ↓reduceIte]
    omega
  · intro j hj
    have hw : IntKind.i64.wrap ((j : Int) + 1) = j + 1 := wrap_id (by omega) (by omega)
    have hw2 : IntKind.i64.wrap (k0 + (j : Int) + 1) = k0 + j + 1 := wrap_id (by omega) (by omega)
    by_cases hjn : j < n
    · have hg := seqI_get k0 hjn
      try simp -implicitDefEqProofs only [hw, hw2, hg, hl, push_cast, Nat.reduceEqDiff, Nat.reduceBEq, Nat.reduceBNe, Nat.reduceAdd, Nat.reduceMul, Nat.reduceLT, Nat.reduceLeDiff, Nat.reduceSub, reduceCtorEq, Int.reduceToNat, ↓reduceIte]
      repeat'
        (first
         | (refine uYes ?_; first | exact List.mem_cons_self | (simp only [List.mem_cons, List.not_mem_nil, or_false, true_or, or_true]; done))
         | (refine uNo (by kernel_rfl))
         | (refine flatMk ?_; kernel_rfl)
         | (refine And.intro ?_ ?_)
         | (intro hx)
         | ((first
             | (refine callGF ?_)
             | (refine callQGF ?_)
             | (refine skipG ?_)
             | (refine callS (in_gives ..) ?_)
             | (refine callQ (in_gives ..) ?_)
             | (refine callG (fun hc => (in_gives ..)) ?_)
             | (refine callQG (fun hc => (in_gives ..)) ?_)); simp -implicitDefEqProofs only [hw, hw2, hg, hl, push_cast, Nat.reduceEqDiff, Nat.reduceBEq, Nat.reduceBNe, Nat.reduceAdd, Nat.reduceMul, Nat.reduceLT, Nat.reduceLeDiff, Nat.reduceSub, reduceCtorEq, Int.reduceToNat, ↓reduceIte]))
      all_goals first
        | omega
        | (refine round_mk0 (j + 1) (by omega) (by omega) ⟨[], ?_⟩
           simp -implicitDefEqProofs only [Int.natCast_add, Int.cast_ofNat_Int, List.length_nil, Nat.le_refl, WeakTo, tokSts, tokOks, List.append_cancel_left_eq, exists_eq_left', exists_eq_left, List.append_cancel_left_eq, List.take_length, ObCl, and_true, true_and, push_cast, Nat.reduceEqDiff, Nat.reduceBEq, Nat.reduceBNe, Nat.reduceAdd, Nat.reduceMul, Nat.reduceLT, Nat.reduceLeDiff, Nat.reduceSub, reduceCtorEq, Int.reduceToNat, ↓reduceIte]
           omega)
        | trace_state
    · try simp -implicitDefEqProofs only [hw, hw2, hl, push_cast, Nat.reduceEqDiff, Nat.reduceBEq, Nat.reduceBNe, Nat.reduceAdd, Nat.reduceMul, Nat.reduceLT, Nat.reduceLeDiff, Nat.reduceSub, reduceCtorEq, Int.reduceToNat, ↓reduceIte]
      repeat'
        (first
         | (refine uYes ?_; first | exact List.mem_cons_self | (simp only [List.mem_cons, List.not_mem_nil, or_false, true_or, or_true]; done))
         | (refine uNo (by kernel_rfl))
         | (refine flatMk ?_; kernel_rfl)
         | (refine And.intro ?_ ?_)
         | (intro hx)
         | ((first
             | (refine callGF ?_)
             | (refine callQGF ?_)
             | (refine skipG ?_)
             | (refine callS (in_gives ..) ?_)
             | (refine callQ (in_gives ..) ?_)
             | (refine callG (fun hc => (in_gives ..)) ?_)
             | (refine callQG (fun hc => (in_gives ..)) ?_)); simp -implicitDefEqProofs only [hw, hw2, hl, push_cast, Nat.reduceEqDiff, Nat.reduceBEq, Nat.reduceBNe, Nat.reduceAdd, Nat.reduceMul, Nat.reduceLT, Nat.reduceLeDiff, Nat.reduceSub, reduceCtorEq, Int.reduceToNat, ↓reduceIte]))
      all_goals first
        | omega
        | trace_state
theorem heldHoldS_gives (k0 : Int) (n : Nat) (h : Hp) (h0 : 0 ≤ k0) (h1 : k0 + n * 3 ≤ 4000000000000000000) : Gives Try.prog 104 [.slice ((seqH k0 n).map Hold.d) .no, .int .i64 k0] h (.int .i64 (k0 + n * 3)) := by
  refine meets_of [] mixed Try.func104 rfl (by kernel_rfl) (by kernel_rfl) (by rw [Try.ntmps104]; simp only [List.length_cons, List.length_nil]; omega) (fun hf => ?_)
  rw [Try.results104]
  clear hf
  have hl := seqH_len k0 n
  simp -implicitDefEqProofs only [push_cast, Nat.reduceEqDiff, Nat.reduceBEq, Nat.reduceBNe, Nat.reduceAdd, Nat.reduceMul, Nat.reduceLT, Nat.reduceLeDiff, Nat.reduceSub, reduceCtorEq, Int.reduceToNat, ↓reduceIte]
  refine ev_loop0 [] (fun j : Nat => [(0, .slice ((seqH k0 n).map Hold.d) .no), (1, .int .i64 (k0 + j * 3)), (5, .int .i64 j)]) (fun j => j ≤ n) (fun j => n - j) 0 trivial (Nat.zero_le _) ?_ ?_
  · refine ⟨rfl, [], ?_⟩
    simp -implicitDefEqProofs only [Int.natCast_add, Int.cast_ofNat_Int, List.length_nil, Nat.le_refl, WeakTo, tokSts, tokOks, List.append_cancel_left_eq, exists_eq_left', exists_eq_left, List.append_cancel_left_eq, List.take_length, ObCl, and_true, true_and, push_cast, Nat.reduceEqDiff, Nat.reduceBEq, Nat.reduceBNe, Nat.reduceAdd, Nat.reduceMul, Nat.reduceLT, Nat.reduceLeDiff, Nat.reduceSub, reduceCtorEq, Int.reduceToNat, ↓reduceIte]
    omega
  · intro j hj
    have hw : IntKind.i64.wrap ((j : Int) + 1) = j + 1 := wrap_id (by omega) (by omega)
    have hw2 : IntKind.i64.wrap (k0 + (j : Int) * 3 + 1) = k0 + j * 3 + 1 := wrap_id (by omega) (by omega)
    have hw3 : IntKind.i64.wrap (k0 + (j : Int) * 3 + 1 + 1) = k0 + j * 3 + 2 := by rw [wrap_id (by omega) (by omega)]; omega
    have hw4 : IntKind.i64.wrap (k0 + (j : Int) * 3 + 2 + 1) = k0 + j * 3 + 3 := by rw [wrap_id (by omega) (by omega)]; omega
    by_cases hjn : j < n
    · have hg := seqH_get k0 hjn
      try simp -implicitDefEqProofs only [hw, hw2, hw3, hw4, hg, hl, push_cast, Nat.reduceEqDiff, Nat.reduceBEq, Nat.reduceBNe, Nat.reduceAdd, Nat.reduceMul, Nat.reduceLT, Nat.reduceLeDiff, Nat.reduceSub, reduceCtorEq, Int.reduceToNat, ↓reduceIte]
      repeat'
        (first
         | (refine uYes ?_; first | exact List.mem_cons_self | (simp only [List.mem_cons, List.not_mem_nil, or_false, true_or, or_true]; done))
         | (refine uNo (by kernel_rfl))
         | (refine flatMk ?_; kernel_rfl)
         | (refine And.intro ?_ ?_)
         | (intro hx)
         | ((first
             | (refine callGF ?_)
             | (refine callQGF ?_)
             | (refine skipG ?_)
             | (refine callS (in_gives ..) ?_)
             | (refine callQ (in_gives ..) ?_)
             | (refine callG (fun hc => (in_gives ..)) ?_)
             | (refine callQG (fun hc => (in_gives ..)) ?_)); simp -implicitDefEqProofs only [hw, hw2, hw3, hw4, hg, hl, push_cast, Nat.reduceEqDiff, Nat.reduceBEq, Nat.reduceBNe, Nat.reduceAdd, Nat.reduceMul, Nat.reduceLT, Nat.reduceLeDiff, Nat.reduceSub, reduceCtorEq, Int.reduceToNat, ↓reduceIte]))
      all_goals first
        | omega
        | (refine round_mk0 (j + 1) (by omega) (by omega) ⟨[], ?_⟩
           simp -implicitDefEqProofs only [Int.natCast_add, Int.cast_ofNat_Int, List.length_nil, Nat.le_refl, WeakTo, tokSts, tokOks, List.append_cancel_left_eq, exists_eq_left', exists_eq_left, List.append_cancel_left_eq, List.take_length, ObCl, and_true, true_and, push_cast, Nat.reduceEqDiff, Nat.reduceBEq, Nat.reduceBNe, Nat.reduceAdd, Nat.reduceMul, Nat.reduceLT, Nat.reduceLeDiff, Nat.reduceSub, reduceCtorEq, Int.reduceToNat, ↓reduceIte]
           omega)
        | trace_state
    · try simp -implicitDefEqProofs only [hw, hw2, hl, push_cast, Nat.reduceEqDiff, Nat.reduceBEq, Nat.reduceBNe, Nat.reduceAdd, Nat.reduceMul, Nat.reduceLT, Nat.reduceLeDiff, Nat.reduceSub, reduceCtorEq, Int.reduceToNat, ↓reduceIte]
      repeat'
        (first
         | (refine uYes ?_; first | exact List.mem_cons_self | (simp only [List.mem_cons, List.not_mem_nil, or_false, true_or, or_true]; done))
         | (refine uNo (by kernel_rfl))
         | (refine flatMk ?_; kernel_rfl)
         | (refine And.intro ?_ ?_)
         | (intro hx)
         | ((first
             | (refine callGF ?_)
             | (refine callQGF ?_)
             | (refine skipG ?_)
             | (refine callS (in_gives ..) ?_)
             | (refine callQ (in_gives ..) ?_)
             | (refine callG (fun hc => (in_gives ..)) ?_)
             | (refine callQG (fun hc => (in_gives ..)) ?_)); simp -implicitDefEqProofs only [hw, hw2, hl, push_cast, Nat.reduceEqDiff, Nat.reduceBEq, Nat.reduceBNe, Nat.reduceAdd, Nat.reduceMul, Nat.reduceLT, Nat.reduceLeDiff, Nat.reduceSub, reduceCtorEq, Int.reduceToNat, ↓reduceIte]))
      all_goals first
        | omega
        | trace_state
end Go.Proofs.Ytmehbbepppjikaa
