/- Contracts of functions of the program (M1). -/
import Derived.Test.YtmehbbepppjikaaK5
import Derived.Test.YtmehbbepppjikaaEd

namespace Go.Proofs.Ytmehbbepppjikaa
open Go.Av
set_option maxRecDepth 10000
set_option linter.unusedSimpArgs false
set_option linter.unusedVariables false

/-- n numbers in a row, from k on -/
def seqI (k : Int) : Nat → List Int
  | 0 => []
  | n + 1 => seqI k n ++ [k + n]
theorem seqI_len (k : Int) : ∀ n, (seqI k n).length = n
  | 0 => rfl
  | n + 1 => by rw [seqI, List.length_append, seqI_len k n]; rfl
/-- a row of which the first j cells are marked -/
def mkRow (k : Int) (cs : List D) (j : Nat) : List D := (seqI k j).map (.int .i64) ++ cs.drop j
theorem mkRow_len (k : Int) (cs : List D) {j : Nat} (hj : j ≤ cs.length) : (mkRow k cs j).length = cs.length := by
  rw [mkRow, List.length_append, List.length_map, seqI_len, List.length_drop]
  omega
theorem mkRow_zero (k : Int) (cs : List D) : mkRow k cs 0 = cs := rfl
theorem mkRow_step (k : Int) (cs : List D) {j : Nat} {v : Int} (hj : j < cs.length) (hv : v = k + j) : (mkRow k cs j).take j ++ D.int .i64 v :: (mkRow k cs j).drop (j + 1) = mkRow k cs (j + 1) := by
  subst hv
  have hl : ((seqI k j).map (D.int .i64)).length = j := by rw [List.length_map, seqI_len]
  rw [mkRow, List.take_append_of_le_length (by omega), List.take_of_length_le (by omega), List.drop_append, List.drop_eq_nil_of_le (by omega), List.nil_append, hl, show j + 1 - j = 1 by omega, List.drop_drop, mkRow, seqI, List.map_append, List.append_assoc]
  rfl
theorem mkRow_full (k : Int) (cs : List D) {n : Nat} (hn : n = cs.length) : mkRow k cs n = (seqI k n).map (.int .i64) := by
  rw [mkRow, List.drop_eq_nil_of_le (by omega), List.append_nil]
theorem mkRow_cl (k : Int) {cs : List D} {n : Nat} (hc : ∀ d, d ∈ cs → Cl n d) (j : Nat) : ∀ d, d ∈ mkRow k cs j → Cl n d := by
  intro d hd
  rcases List.mem_append.1 hd with hd | hd
  · exact ints_cl _ _ _ hd
  · exact hc d (List.mem_of_mem_drop hd)
theorem markIntSR (k0 : Int) (cs : List D) (r n cp : Nat) (h : Hp) (hr : ob h r = .row cs) (hrl : r < h.length) (hn : n = cs.length) (hc : ∀ d, d ∈ cs → Cl h.length d) (h0 : 0 ≤ k0) (h1 : k0 + n ≤ 4000000000000000000) :
    Meets Try.prog 101 [.vec r false 1 0 n cp, .int .i64 k0] h fun d' h' => d' = .int .i64 (k0 + n) ∧ h' = h.set r (.row ((seqI k0 n).map (.int .i64))) := by
  refine meets_of [] mixed Try.func101 rfl (by kernel_rfl) (by kernel_rfl) (by rw [Try.ntmps101]; simp only [List.length_cons, List.length_nil]; omega) (fun hf => ?_)
  rw [Try.results101]
  clear hf
  simp -implicitDefEqProofs only [push_cast, Nat.reduceEqDiff, Nat.reduceBEq, Nat.reduceBNe, Nat.reduceAdd, Nat.reduceMul, Nat.reduceLT, Nat.reduceLeDiff, Nat.reduceSub, reduceCtorEq, Int.reduceToNat, ↓reduceIte]
  refine ev_loopS r (fun j : Nat => [(0, .vec r false 1 0 n cp), (1, .int .i64 (k0 + j)), (5, .int .i64 j)]) (fun j => mkRow k0 cs j) (fun j => j ≤ n) (fun j => n - j) 0 (Nat.zero_le _) hrl hr hc ?_ ?_
  · simp -implicitDefEqProofs only [SlotsOk, Int.natCast_add, Int.cast_ofNat_Int, List.length_nil, Nat.le_refl, WeakTo, tokSts, tokOks, List.append_cancel_left_eq, exists_eq_left', exists_eq_left, List.append_cancel_left_eq, List.take_length, ObCl, and_true, true_and, push_cast, Nat.reduceEqDiff, Nat.reduceBEq, Nat.reduceBNe, Nat.reduceAdd, Nat.reduceMul, Nat.reduceLT, Nat.reduceLeDiff, Nat.reduceSub, reduceCtorEq, Int.reduceToNat, ↓reduceIte]
    exact ⟨hrl, by omega⟩
  · intro j hj
    have hw : IntKind.i64.wrap ((j : Int) + 1) = j + 1 := wrap_id (by omega) (by omega)
    have hl := mkRow_len k0 cs (j := j) (by omega)
    have hset : ∀ x, ob (h.set r x) r = x := fun x => by simp [ob, List.getD_eq_getElem?_getD, hrl]
    have hw2 : IntKind.i64.wrap (k0 + (j : Int) + 1) = k0 + j + 1 := wrap_id (by omega) (by omega)
    try simp -implicitDefEqProofs only [hset, hl, hw, hw2, List.length_set, push_cast, Nat.reduceEqDiff, Nat.reduceBEq, Nat.reduceBNe, Nat.reduceAdd, Nat.reduceMul, Nat.reduceLT, Nat.reduceLeDiff, Nat.reduceSub, reduceCtorEq, Int.reduceToNat, ↓reduceIte]
    repeat'
      (first
       | (refine uYes ?_; first | exact List.mem_cons_self | (simp only [List.mem_cons, List.not_mem_nil, or_false, true_or, or_true]; done))
       | (refine uNo (by kernel_rfl))
       | (refine flatMk ?_; kernel_rfl)
       | (refine And.intro ?_ ?_)
       | (intro hx)
       | ((first
           | (refine callGF ?_)
           | (refine callQGF ?_)
           | (refine skipG ?_)
           | (refine callS (in_gives _ _ _ _) ?_)
           | (refine callQ (in_gives _ _ _ _) ?_)
           | (refine callG (fun hc => (in_gives _ _ _ _)) ?_)
           | (refine callQG (fun hc => (in_gives _ _ _ _)) ?_)); simp -implicitDefEqProofs only [hset, hl, hw, hw2, List.length_set, push_cast, Nat.reduceEqDiff, Nat.reduceBEq, Nat.reduceBNe, Nat.reduceAdd, Nat.reduceMul, Nat.reduceLT, Nat.reduceLeDiff, Nat.reduceSub, reduceCtorEq, Int.reduceToNat, ↓reduceIte]))
    all_goals first
      | omega
      | (refine round_mkS (j + 1) (by omega) (by omega) ?_ (mkRow_cl _ hc _) ?_
         · simp only [List.set_set]
           rw [mkRow_step k0 cs (by omega) rfl]
         · simp -implicitDefEqProofs only [SlotsOk, Int.natCast_add, Int.cast_ofNat_Int, List.length_nil, Nat.le_refl, WeakTo, tokSts, tokOks, List.append_cancel_left_eq, exists_eq_left', exists_eq_left, List.append_cancel_left_eq, List.take_length, ObCl, and_true, true_and, push_cast, Nat.reduceEqDiff, Nat.reduceBEq, Nat.reduceBNe, Nat.reduceAdd, Nat.reduceMul, Nat.reduceLT, Nat.reduceLeDiff, Nat.reduceSub, reduceCtorEq, Int.reduceToNat, ↓reduceIte]
           exact ⟨hrl, by omega⟩)
      | (obtain rfl : j = n := by omega
         refine back_set (mkRow_full _ _ hn) hrl (ints_cl _ _))
      | trace_state
theorem markHoldSR (k0 : Int) (cs : List D) (r n cp : Nat) (h : Hp) (hr : ob h r = .row cs) (hrl : r < h.length) (hn : n * 3 = cs.length) (hc : ∀ d, d ∈ cs → Cl h.length d) (h0 : 0 ≤ k0) (h1 : k0 + n * 3 ≤ 4000000000000000000) :
    Meets Try.prog 102 [.vec r true 3 0 n cp, .int .i64 k0] h fun d' h' => d' = .int .i64 (k0 + n * 3) ∧ h' = h.set r (.row ((seqI k0 (n * 3)).map (.int .i64))) := by
  refine meets_of [] mixed Try.func102 rfl (by kernel_rfl) (by kernel_rfl) (by rw [Try.ntmps102]; simp only [List.length_cons, List.length_nil]; omega) (fun hf => ?_)
  rw [Try.results102]
  clear hf
  simp -implicitDefEqProofs only [push_cast, Nat.reduceEqDiff, Nat.reduceBEq, Nat.reduceBNe, Nat.reduceAdd, Nat.reduceMul, Nat.reduceLT, Nat.reduceLeDiff, Nat.reduceSub, reduceCtorEq, Int.reduceToNat, ↓reduceIte]
  refine ev_loopS r (fun j : Nat => [(0, .vec r true 3 0 n cp), (1, .int .i64 (k0 + j * 3)), (5, .int .i64 j)]) (fun j => mkRow k0 cs (j * 3)) (fun j => j ≤ n) (fun j => n - j) 0 (Nat.zero_le _) hrl (by rw [hr, Nat.zero_mul]; rfl) (by rw [Nat.zero_mul]; exact hc) ?_ ?_
  · simp -implicitDefEqProofs only [SlotsOk, Int.natCast_add, Int.cast_ofNat_Int, List.length_nil, Nat.le_refl, WeakTo, tokSts, tokOks, List.append_cancel_left_eq, exists_eq_left', exists_eq_left, List.append_cancel_left_eq, List.take_length, ObCl, and_true, true_and, push_cast, Nat.reduceEqDiff, Nat.reduceBEq, Nat.reduceBNe, Nat.reduceAdd, Nat.reduceMul, Nat.reduceLT, Nat.reduceLeDiff, Nat.reduceSub, reduceCtorEq, Int.reduceToNat, ↓reduceIte]
    exact ⟨hrl, by omega⟩
  · intro j hj
    have hw : IntKind.i64.wrap ((j : Int) + 1) = j + 1 := wrap_id (by omega) (by omega)
    have hset : ∀ x, ob (h.set r x) r = x := fun x => by simp [ob, List.getD_eq_getElem?_getD, hrl]
    by_cases hjn : j < n
    · have hl := mkRow_len k0 cs (j := j * 3) (by omega)
      have hl1 := mkRow_len k0 cs (j := j * 3 + 1) (by omega)
      have hl2 := mkRow_len k0 cs (j := j * 3 + 2) (by omega)
      have hs0 := mkRow_step k0 cs (j := j * 3) (v := k0 + j * 3) (by omega) (by omega)
      have hs1 := mkRow_step k0 cs (j := j * 3 + 1) (v := k0 + j * 3 + 1) (by omega) (by omega)
      have hs2 := mkRow_step k0 cs (j := j * 3 + 2) (v := k0 + j * 3 + 2) (by omega) (by omega)
      have hw2 : IntKind.i64.wrap (k0 + (j : Int) * 3 + 1) = k0 + j * 3 + 1 := wrap_id (by omega) (by omega)
      have hw3 : IntKind.i64.wrap (k0 + (j : Int) * 3 + 1 + 1) = k0 + j * 3 + 2 := by rw [wrap_id (by omega) (by omega)]; omega
      have hw4 : IntKind.i64.wrap (k0 + (j : Int) * 3 + 2 + 1) = k0 + j * 3 + 3 := by rw [wrap_id (by omega) (by omega)]; omega
      try simp -implicitDefEqProofs only [hset, hl, hl1, hl2, hs0, hs1, hs2, hw, hw2, hw3, hw4, List.length_set, List.set_set, push_cast, Nat.reduceEqDiff, Nat.reduceBEq, Nat.reduceBNe, Nat.reduceAdd, Nat.reduceMul, Nat.reduceLT, Nat.reduceLeDiff, Nat.reduceSub, reduceCtorEq, Int.reduceToNat, ↓reduceIte]
      repeat'
        (first
         | (refine uYes ?_; first | exact List.mem_cons_self | (simp only [List.mem_cons, List.not_mem_nil, or_false, true_or, or_true]; done))
         | (refine uNo (by kernel_rfl))
         | (refine flatMk ?_; kernel_rfl)
         | (refine And.intro ?_ ?_)
         | (intro hx)
         | ((first
             | (refine callGF ?_)
             | (refine callQGF ?_)
             | (refine skipG ?_)
             | (refine callS (in_gives _ _ _ _) ?_)
             | (refine callQ (in_gives _ _ _ _) ?_)
             | (refine callG (fun hc => (in_gives _ _ _ _)) ?_)
             | (refine callQG (fun hc => (in_gives _ _ _ _)) ?_)); simp -implicitDefEqProofs only [hset, hl, hl1, hl2, hs0, hs1, hs2, hw, hw2, hw3, hw4, List.length_set, List.set_set, push_cast, Nat.reduceEqDiff, Nat.reduceBEq, Nat.reduceBNe, Nat.reduceAdd, Nat.reduceMul, Nat.reduceLT, Nat.reduceLeDiff, Nat.reduceSub, reduceCtorEq, Int.reduceToNat, ↓reduceIte]))
      all_goals first
        | omega
        | (refine round_mkS (j + 1) (by omega) (by omega) ?_ (mkRow_cl _ hc _) ?_
           · simp only [List.set_set]
             rw [show (j + 1) * 3 = j * 3 + 2 + 1 by omega]
           · simp -implicitDefEqProofs only [SlotsOk, Int.natCast_add, Int.cast_ofNat_Int, List.length_nil, Nat.le_refl, WeakTo, tokSts, tokOks, List.append_cancel_left_eq, exists_eq_left', exists_eq_left, List.append_cancel_left_eq, List.take_length, ObCl, and_true, true_and, push_cast, Nat.reduceEqDiff, Nat.reduceBEq, Nat.reduceBNe, Nat.reduceAdd, Nat.reduceMul, Nat.reduceLT, Nat.reduceLeDiff, Nat.reduceSub, reduceCtorEq, Int.reduceToNat, ↓reduceIte]
             exact ⟨hrl, by omega⟩)
        | trace_state
    · try simp -implicitDefEqProofs only [hset, List.length_set, List.set_set, push_cast, Nat.reduceEqDiff, Nat.reduceBEq, Nat.reduceBNe, Nat.reduceAdd, Nat.reduceMul, Nat.reduceLT, Nat.reduceLeDiff, Nat.reduceSub, reduceCtorEq, Int.reduceToNat, ↓reduceIte]
      repeat'
        (first
         | (refine uYes ?_; first | exact List.mem_cons_self | (simp only [List.mem_cons, List.not_mem_nil, or_false, true_or, or_true]; done))
         | (refine uNo (by kernel_rfl))
         | (refine flatMk ?_; kernel_rfl)
         | (refine And.intro ?_ ?_)
         | (intro hx)
         | ((first
             | (refine callGF ?_)
             | (refine callQGF ?_)
             | (refine skipG ?_)
             | (refine callS (in_gives _ _ _ _) ?_)
             | (refine callQ (in_gives _ _ _ _) ?_)
             | (refine callG (fun hc => (in_gives _ _ _ _)) ?_)
             | (refine callQG (fun hc => (in_gives _ _ _ _)) ?_)); simp -implicitDefEqProofs only [hset, List.length_set, List.set_set, push_cast, Nat.reduceEqDiff, Nat.reduceBEq, Nat.reduceBNe, Nat.reduceAdd, Nat.reduceMul, Nat.reduceLT, Nat.reduceLeDiff, Nat.reduceSub, reduceCtorEq, Int.reduceToNat, ↓reduceIte]))
      all_goals first
        | omega
        | (obtain rfl : j = n := by omega
           refine back_set (mkRow_full _ _ hn) hrl (ints_cl _ _))
        | trace_state
end Go.Proofs.Ytmehbbepppjikaa
