/- Contracts of functions of the program (Gh). -/
import Derived.Test.YtcmpcpigchlhpaaGv
import Derived.Test.YtcmpcpigchlhpaaEd

namespace Go.Proofs.Ytcmpcpigchlhpaa
set_option linter.unusedSectionVars false
open Go.Av
variable [Av.Start]
set_option maxRecDepth 10000
set_option linter.unusedSimpArgs false
set_option linter.unusedVariables false

/-- n numbers in a row, from k on -/
def seqI (k : Int) : Nat → List Int
  | 0 => []
  | n + 1 => seqI k n ++ [k + n]
omit [Av.Start] in
theorem seqI_len (k : Int) : ∀ n, (seqI k n).length = n
  | 0 => rfl
  | n + 1 => by rw [seqI, List.length_append, seqI_len k n]; rfl
/-- a row of which the first j cells are marked -/
def mkRow (k : Int) (cs : List D) (j : Nat) : List D := (seqI k j).map (.int .i64) ++ cs.drop j
omit [Av.Start] in
theorem mkRow_len (k : Int) (cs : List D) {j : Nat} (hj : j ≤ cs.length) : (mkRow k cs j).length = cs.length := by
  rw [mkRow, List.length_append, List.length_map, seqI_len, List.length_drop]
  omega
omit [Av.Start] in
theorem mkRow_zero (k : Int) (cs : List D) : mkRow k cs 0 = cs := rfl
omit [Av.Start] in
theorem mkRow_step (k : Int) (cs : List D) {j : Nat} {v : Int} (hj : j < cs.length) (hv : v = k + j) : (mkRow k cs j).take j ++ D.int .i64 v :: (mkRow k cs j).drop (j + 1) = mkRow k cs (j + 1) := by
  subst hv
  have hl : ((seqI k j).map (D.int .i64)).length = j := by rw [List.length_map, seqI_len]
  rw [mkRow, List.take_append_of_le_length (by omega), List.take_of_length_le (by omega), List.drop_append, List.drop_eq_nil_of_le (by omega), List.nil_append, hl, show j + 1 - j = 1 by omega, List.drop_drop, mkRow, seqI, List.map_append, List.append_assoc]
  rfl
omit [Av.Start] in
theorem mkRow_full (k : Int) (cs : List D) {n : Nat} (hn : n = cs.length) : mkRow k cs n = (seqI k n).map (.int .i64) := by
  rw [mkRow, List.drop_eq_nil_of_le (by omega), List.append_nil]
omit [Av.Start] in
theorem mkRow_cl (k : Int) {cs : List D} {n : Nat} (hc : ∀ d, d ∈ cs → Cl n d) (j : Nat) : ∀ d, d ∈ mkRow k cs j → Cl n d := by
  intro d hd
  rcases List.mem_append.1 hd with hd | hd
  · exact ints_cl _ _ _ hd
  · exact hc d (List.mem_of_mem_drop hd)
theorem markIntSR (k0 : Int) (cs : List D) (r n cp : Nat) (h : Hp) (hr : ob h r = .row cs) (hrl : r < h.length) (hn : n = cs.length) (hc : ∀ d, d ∈ cs → Cl h.length d) (h0 : 0 ≤ k0) (h1 : k0 + n ≤ 4000000000000000000) :
    Meets Try.prog 40 [.vec r false 1 0 n cp, .int .i64 k0] h fun d' h' => d' = .int .i64 (k0 + n) ∧ h' = h.set r (.row ((seqI k0 n).map (.int .i64))) := by
  refine meets_of [] mixed Try.func40 rfl (by kernel_rfl) (by kernel_rfl) (by rw [Try.ntmps40]; simp only [List.length_cons, List.length_nil]; omega) (fun hf => ?_)
  rw [Try.results40]
  clear hf
  simp -implicitDefEqProofs only [push_cast, Nat.reduceEqDiff, Nat.reduceBEq, Nat.reduceBNe, Nat.reduceAdd, Nat.reduceMul, Nat.reduceLT, Nat.reduceLeDiff, Nat.reduceSub, reduceCtorEq, Int.reduceToNat, ↓reduceIte]
  refine ev_loopS r (fun j : Nat => [(0, .vec r false 1 0 n cp), (1, .int .i64 (k0 + j)), (5, .int .i64 j)]) (fun j => mkRow k0 cs j) (fun j => j ≤ n) (fun j => n - j) 0 (Nat.zero_le _) hrl hr hc ?_ ?_
  · simp -implicitDefEqProofs only [SlotsOk, Int.natCast_add, Int.cast_ofNat_Int, List.length_nil, Nat.le_refl, WeakTo, tokSts, tokOks, List.append_cancel_left_eq, exists_eq_left', exists_eq_left, List.append_cancel_left_eq, List.take_length, ObCl, and_true, true_and, push_cast, Nat.reduceEqDiff, Nat.reduceBEq, Nat.reduceBNe, Nat.reduceAdd, Nat.reduceMul, Nat.reduceLT, Nat.reduceLeDiff, Nat.reduceSub, reduceCtorEq, Int.reduceToNat, ↓reduceIte]
    exact ⟨hrl, by omega⟩
  · intro j hj
    have hw : IntKind.i64.wrap ((j : Int) + 1) = j + 1 := wrap_id (by omega) (by omega)
    have hl := mkRow_len k0 cs (j := j) (by omega)
    have hset : ∀ x, ob (h.set r x) r = x := fun x => by simp [ob, List.getD_eq_getElem?_getD, hrl]
    have hw2 : IntKind.i64.wrap (k0 + (j : Int) + 1) = k0 + j + 1 := wrap_id (by omega) (by omega)
    try simp -implicitDefEqProofs only [hset, hl, hw, hw2, List.length_set, push_cast, Nat.reduceEqDiff, Nat.reduceBEq, Nat.reduceBNe, Nat.reduceAdd, Nat.reduceMul, Nat.reduceLT, Nat.reduceLeDiff, Nat.reduceSub, reduceCtorEq, Int.reduceToNat, ↓reduceIte]
    repeat'
      (first
       | (refine uYes ?_; first | exact List.mem_cons_self | (simp only [List.mem_cons, List.not_mem_nil, or_false, true_or, or_true]; done))
       | (refine uNo (by kernel_rfl))
       | (refine flatMk ?_; kernel_rfl)
       | (refine And.intro ?_ ?_)
       | (intro hx)
       | ((first
           | (refine callGF ?_)
           | (refine callQGF ?_)
           | (refine skipG ?_)
           | (refine callS (in_gives _ _ _ _) ?_)
           | (refine callQ (in_gives _ _ _ _) ?_)
           | (refine callG (fun hc => (in_gives _ _ _ _)) ?_)
           | (refine callQG (fun hc => (in_gives _ _ _ _)) ?_)); simp -implicitDefEqProofs only [hset, hl, hw, hw2, List.length_set, push_cast, Nat.reduceEqDiff, Nat.reduceBEq, Nat.reduceBNe, Nat.reduceAdd, Nat.reduceMul, Nat.reduceLT, Nat.reduceLeDiff, Nat.reduceSub, reduceCtorEq, Int.reduceToNat, ↓reduceIte]))
    all_goals first
      | omega
      | (refine round_mkS (j + 1) (by omega) (by omega) ?_ (mkRow_cl _ hc _) ?_
         · simp only [List.set_set]
           rw [mkRow_step k0 cs (by omega) rfl]
         · simp -implicitDefEqProofs only [SlotsOk, Int.natCast_add, Int.cast_ofNat_Int, List.length_nil, Nat.le_refl, WeakTo, tokSts, tokOks, List.append_cancel_left_eq, exists_eq_left', exists_eq_left, List.append_cancel_left_eq, List.take_length, ObCl, and_true, true_and, push_cast, Nat.reduceEqDiff, Nat.reduceBEq, Nat.reduceBNe, Nat.reduceAdd, Nat.reduceMul, Nat.reduceLT, Nat.reduceLeDiff, Nat.reduceSub, reduceCtorEq, Int.reduceToNat, ↓reduceIte]
           exact ⟨hrl, by omega⟩)
      | (obtain rfl : j = n := by omega
         refine back_set (mkRow_full _ _ hn) hrl (ints_cl _ _))
      | trace_state
theorem markHoldSR (k0 : Int) (cs : List D) (r n cp : Nat) (h : Hp) (hr : ob h r = .row cs) (hrl : r < h.length) (hn : n * 3 = cs.length) (hc : ∀ d, d ∈ cs → Cl h.length d) (h0 : 0 ≤ k0) (h1 : k0 + n * 3 ≤ 4000000000000000000) :
    Meets Try.prog 41 [.vec r true 3 0 n cp, .int .i64 k0] h fun d' h' => d' = .int .i64 (k0 + n * 3) ∧ h' = h.set r (.row ((seqI k0 (n * 3)).map (.int .i64))) := by
  refine meets_of [] mixed Try.func41 rfl (by kernel_rfl) (by kernel_rfl) (by rw [Try.ntmps41]; simp only [List.length_cons, List.length_nil]; omega) (fun hf => ?_)
  rw [Try.results41]
  clear hf
  simp -implicitDefEqProofs only [push_cast, Nat.reduceEqDiff, Nat.reduceBEq, Nat.reduceBNe, Nat.reduceAdd, Nat.reduceMul, Nat.reduceLT, Nat.reduceLeDiff, Nat.reduceSub, reduceCtorEq, Int.reduceToNat, ↓reduceIte]
  refine ev_loopS r (fun j : Nat => [(0, .vec r true 3 0 n cp), (1, .int .i64 (k0 + j * 3)), (5, .int .i64 j)]) (fun j => mkRow k0 cs (j * 3)) (fun j => j ≤ n) (fun j => n - j) 0 (Nat.zero_le _) hrl (by rw [hr, Nat.zero_mul]; rfl) (by rw [Nat.zero_mul]; exact hc) ?_ ?_
  · simp -implicitDefEqProofs only [SlotsOk, Int.natCast_add, Int.cast_ofNat_Int, List.length_nil, Nat.le_refl, WeakTo, tokSts, tokOks, List.append_cancel_left_eq, exists_eq_left', exists_eq_left, List.append_cancel_left_eq, List.take_length, ObCl, and_true, true_and, push_cast, Nat.reduceEqDiff, Nat.reduceBEq, Nat.reduceBNe, Nat.reduceAdd, Nat.reduceMul, Nat.reduceLT, Nat.reduceLeDiff, Nat.reduceSub, reduceCtorEq, Int.reduceToNat, ↓reduceIte]
    exact ⟨hrl, by omega⟩
  · intro j hj
    have hw : IntKind.i64.wrap ((j : Int) + 1) = j + 1 := wrap_id (by omega) (by omega)
    have hset : ∀ x, ob (h.set r x) r = x := fun x => by simp [ob, List.getD_eq_getElem?_getD, hrl]
    by_cases hjn : j < n
    · have hl := mkRow_len k0 cs (j := j * 3) (by omega)
      have hl1 := mkRow_len k0 cs (j := j * 3 + 1) (by omega)
      have hl2 := mkRow_len k0 cs (j := j * 3 + 2) (by omega)
      have hs0 := mkRow_step k0 cs (j := j * 3) (v := k0 + j * 3) (by omega) (by omega)
      have hs1 := mkRow_step k0 cs (j := j * 3 + 1) (v := k0 + j * 3 + 1) (by omega) (by omega)
      have hs2 := mkRow_step k0 cs (j := j * 3 + 2) (v := k0 + j * 3 + 2) (by omega) (by omega)
      have hw2 : IntKind.i64.wrap (k0 + (j : Int) * 3 + 1) = k0 + j * 3 + 1 := wrap_id (by omega) (by omega)
      have hw3 : IntKind.i64.wrap (k0 + (j : Int) * 3 + 1 + 1) = k0 + j * 3 + 2 := by rw [wrap_id (by omega) (by omega)]; omega
      have hw4 : IntKind.i64.wrap (k0 + (j : Int) * 3 + 2 + 1) = k0 + j * 3 + 3 := by rw [wrap_id (by omega) (by omega)]; omega
      try simp -implicitDefEqProofs only [hset, hl, hl1, hl2, hs0, hs1, hs2, hw, hw2, hw3, hw4, List.length_set, List.set_set, push_cast, Nat.reduceEqDiff, Nat.reduceBEq, Nat.reduceBNe, Nat.reduceAdd, Nat.reduceMul, Nat.reduceLT, Nat.reduceLeDiff, Nat.reduceSub, reduceCtorEq, Int.reduceToNat, ↓reduceIte]
      repeat'
        (first
         | (refine uYes ?_; first | exact List.mem_cons_self | (simp only [List.mem_cons, List.not_mem_nil, or_false, true_or, or_true]; done))
         | (refine uNo (by kernel_rfl))
         | (refine flatMk ?_; kernel_rfl)
         | (refine And.intro ?_ ?_)
         | (intro hx)
         | ((first
             | (refine callGF ?_)
             | (refine callQGF ?_)
             | (refine skipG ?_)
             | (refine callS (in_gives _ _ _ _) ?_)
             | (refine callQ (in_gives _ _ _ _) ?_)
             | (refine callG (fun hc => (in_gives _ _ _ _)) ?_)
             | (refine callQG (fun hc => (in_gives _ _ _ _)) ?_)); simp -implicitDefEqProofs only [hset, hl, hl1, hl2, hs0, hs1, hs2, hw, hw2, hw3, hw4, List.length_set, List.set_set, push_cast, Nat.reduceEqDiff, Nat.reduceBEq, Nat.reduceBNe, Nat.reduceAdd, Nat.reduceMul, Nat.reduceLT, Nat.reduceLeDiff, Nat.reduceSub, reduceCtorEq, Int.reduceToNat, ↓reduceIte]))
      all_goals first
        | omega
        | (refine round_mkS (j + 1) (by omega) (by omega) ?_ (mkRow_cl _ hc _) ?_
           · simp only [List.set_set]
             rw [show (j + 1) * 3 = j * 3 + 2 + 1 by omega]
           · simp -implicitDefEqProofs only [SlotsOk, Int.natCast_add, Int.cast_ofNat_Int, List.length_nil, Nat.le_refl, WeakTo, tokSts, tokOks, List.append_cancel_left_eq, exists_eq_left', exists_eq_left, List.append_cancel_left_eq, List.take_length, ObCl, and_true, true_and, push_cast, Nat.reduceEqDiff, Nat.reduceBEq, Nat.reduceBNe, Nat.reduceAdd, Nat.reduceMul, Nat.reduceLT, Nat.reduceLeDiff, Nat.reduceSub, reduceCtorEq, Int.reduceToNat, ↓reduceIte]
             exact ⟨hrl, by omega⟩)
        | trace_state
    · try simp -implicitDefEqProofs only [hset, List.length_set, List.set_set, push_cast, Nat.reduceEqDiff, Nat.reduceBEq, Nat.reduceBNe, Nat.reduceAdd, Nat.reduceMul, Nat.reduceLT, Nat.reduceLeDiff, Nat.reduceSub, reduceCtorEq, Int.reduceToNat, ↓reduceIte]
      repeat'
        (first
         | (refine uYes ?_; first | exact List.mem_cons_self | (simp only [List.mem_cons, List.not_mem_nil, or_false, true_or, or_true]; done))
         | (refine uNo (by kernel_rfl))
         | (refine flatMk ?_; kernel_rfl)
         | (refine And.intro ?_ ?_)
         | (intro hx)
         | ((first
             | (refine callGF ?_)
             | (refine callQGF ?_)
             | (refine skipG ?_)
             | (refine callS (in_gives _ _ _ _) ?_)
             | (refine callQ (in_gives _ _ _ _) ?_)
             | (refine callG (fun hc => (in_gives _ _ _ _)) ?_)
             | (refine callQG (fun hc => (in_gives _ _ _ _)) ?_)); simp -implicitDefEqProofs only [hset, List.length_set, List.set_set, push_cast, Nat.reduceEqDiff, Nat.reduceBEq, Nat.reduceBNe, Nat.reduceAdd, Nat.reduceMul, Nat.reduceLT, Nat.reduceLeDiff, Nat.reduceSub, reduceCtorEq, Int.reduceToNat, ↓reduceIte]))
      all_goals first
        | omega
        | (obtain rfl : j = n := by omega
           refine back_set (mkRow_full _ _ hn) hrl (ints_cl _ _))
        | trace_state
end Go.Proofs.Ytcmpcpigchlhpaa

namespace Go.Proofs.Ytcmpcpigchlhpaa
set_option linter.unusedSectionVars false
open Go.Av
variable [Av.Start]
set_option maxRecDepth 10000
set_option linter.unusedSimpArgs false
set_option linter.unusedVariables false

omit [Av.Start] in
theorem getD_app_lt {α : Type} {xs ys : List α} {i : Nat} (d : α) (h : i < xs.length) : (xs ++ ys).getD i d = xs.getD i d := by
  rw [List.getD_eq_getElem?_getD, List.getElem?_append_left h, List.getD_eq_getElem?_getD]
omit [Av.Start] in
theorem getD_app_at {α : Type} {xs : List α} {x : α} {i : Nat} (d : α) (h : i = xs.length) : (xs ++ [x]).getD i d = x := by
  subst h
  rw [List.getD_eq_getElem?_getD, List.getElem?_append_right (Nat.le_refl _)]
  simp
omit [Av.Start] in
theorem seqI_get (k : Int) : ∀ {n j : Nat}, j < n → (seqI k n).getD j 0 = k + j
  | n + 1, j, h => by
    rw [seqI]
    by_cases e : j < n
    · rw [getD_app_lt _ (by rw [seqI_len]; exact e), seqI_get k e]
    · rw [getD_app_at _ (by rw [seqI_len]; omega)]
      omega
/-- n holds in a row, marked from k on -/
def seqH (k : Int) : Nat → List Hold
  | 0 => []
  | n + 1 => seqH k n ++ [⟨k + n * 3, k + n * 3 + 1, k + n * 3 + 2⟩]
omit [Av.Start] in
theorem seqH_len (k : Int) : ∀ n, (seqH k n).length = n
  | 0 => rfl
  | n + 1 => by rw [seqH, List.length_append, seqH_len k n]; rfl
omit [Av.Start] in
theorem seqH_get (k : Int) : ∀ {n j : Nat}, j < n → (seqH k n).getD j default = ⟨k + j * 3, k + j * 3 + 1, k + j * 3 + 2⟩
  | n + 1, j, h => by
    rw [seqH]
    by_cases e : j < n
    · rw [getD_app_lt _ (by rw [seqH_len]; exact e), seqH_get k e]
    · obtain rfl : j = n := by omega
      rw [getD_app_at _ (by rw [seqH_len])]
omit [Av.Start] in
theorem seqH_flat (k : Int) : ∀ n, (seqI k (n * 3)).map (.int .i64) = (seqH k n).flatMap Hold.cs
  | 0 => rfl
  | n + 1 => by
    rw [show (n + 1) * 3 = n * 3 + 1 + 1 + 1 by omega, seqI, seqI, seqI, seqH, List.map_append, List.map_append, List.map_append, seqH_flat k n, List.flatMap_append, List.append_assoc, List.append_assoc]
    congr 1
    simp [Hold.cs]
    omega
theorem heldIntS_gives (k0 : Int) (n : Nat) (h : Hp) (h0 : 0 ≤ k0) (h1 : k0 + n ≤ 4000000000000000000) : Gives Try.prog 77 [.slice ((seqI k0 n).map (.int .i64)) .no, .int .i64 k0] h (.int .i64 (k0 + n)) := by
  refine meets_of [] mixed Try.func77 rfl (by kernel_rfl) (by kernel_rfl) (by rw [Try.ntmps77]; simp only [List.length_cons, List.length_nil]; omega) (fun hf => ?_)
  rw [Try.results77]
  clear hf
  have hl := seqI_len k0 n
  simp -implicitDefEqProofs only [push_cast, Nat.reduceEqDiff, Nat.reduceBEq, Nat.reduceBNe, Nat.reduceAdd, Nat.reduceMul, Nat.reduceLT, Nat.reduceLeDiff, Nat.reduceSub, reduceCtorEq, Int.reduceToNat, ↓reduceIte]
  refine ev_loop0 [] (fun j : Nat => [(0, .slice ((seqI k0 n).map (.int .i64)) .no), (1, .int .i64 (k0 + j)), (5, .int .i64 j)]) (fun j => j ≤ n) (fun j => n - j) 0 trivial (Nat.zero_le _) ?_ ?_
  · refine ⟨rfl, [], ?_⟩
    simp -implicitDefEqProofs only [Int.natCast_add, Int.cast_ofNat_Int, List.length_nil, Nat.le_refl, WeakTo, tokSts, tokOks, List.append_cancel_left_eq, exists_eq_left', exists_eq_left, List.append_cancel_left_eq, List.take_length, ObCl, and_true, true_and, push_cast, Nat.reduceEqDiff, Nat.reduceBEq, Nat.reduceBNe, Nat.reduceAdd, Nat.reduceMul, Nat.reduceLT, Nat.reduceLeDiff, Nat.reduceSub, reduceCtorEq, Int.reduceToNat, ↓reduceIte]
    omega
  · intro j hj
    have hw : IntKind.i64.wrap ((j : Int) + 1) = j + 1 := wrap_id (by omega) (by omega)
    have hw2 : IntKind.i64.wrap (k0 + (j : Int) + 1) = k0 + j + 1 := wrap_id (by omega) (by omega)
    by_cases hjn : j < n
    · have hg := seqI_get k0 hjn
      try simp -implicitDefEqProofs only [hw, hw2, hg, hl, push_cast, Nat.reduceEqDiff, Nat.reduceBEq, Nat.reduceBNe, Nat.reduceAdd, Nat.reduceMul, Nat.reduceLT, Nat.reduceLeDiff, Nat.reduceSub, reduceCtorEq, Int.reduceToNat, ↓reduceIte]
      repeat'
        (first
         | (refine uYes ?_; first | exact List.mem_cons_self | (simp only [List.mem_cons, List.not_mem_nil, or_false, true_or, or_true]; done))
         | (refine uNo (by kernel_rfl))
         | (refine flatMk ?_; kernel_rfl)
         | (refine And.intro ?_ ?_)
         | (intro hx)
         | ((first
             | (refine callGF ?_)
             | (refine callQGF ?_)
             | (refine skipG ?_)
             | (refine callS (in_gives ..) ?_)
             | (refine callQ (in_gives ..) ?_)
             | (refine callG (fun hc => (in_gives ..)) ?_)
             | (refine callQG (fun hc => (in_gives ..)) ?_)); simp -implicitDefEqProofs only [hw, hw2, hg, hl, push_cast, Nat.reduceEqDiff, Nat.reduceBEq, Nat.reduceBNe, Nat.reduceAdd, Nat.reduceMul, Nat.reduceLT, Nat.reduceLeDiff, Nat.reduceSub, reduceCtorEq, Int.reduceToNat, ↓reduceIte]))
      all_goals first
        | omega
        | (refine round_mk0 (j + 1) (by omega) (by omega) ⟨[], ?_⟩
           simp -implicitDefEqProofs only [Int.natCast_add, Int.cast_ofNat_Int, List.length_nil, Nat.le_refl, WeakTo, tokSts, tokOks, List.append_cancel_left_eq, exists_eq_left', exists_eq_left, List.append_cancel_left_eq, List.take_length, ObCl, and_true, true_and, push_cast, Nat.reduceEqDiff, Nat.reduceBEq, Nat.reduceBNe, Nat.reduceAdd, Nat.reduceMul, Nat.reduceLT, Nat.reduceLeDiff, Nat.reduceSub, reduceCtorEq, Int.reduceToNat, ↓reduceIte]
           omega)
        | trace_state
    · try simp -implicitDefEqProofs only [hw, hw2, hl, push_cast, Nat.reduceEqDiff, Nat.reduceBEq, Nat.reduceBNe, Nat.reduceAdd, Nat.reduceMul, Nat.reduceLT, Nat.reduceLeDiff, Nat.reduceSub, reduceCtorEq, Int.reduceToNat, ↓reduceIte]
      repeat'
        (first
         | (refine uYes ?_; first | exact List.mem_cons_self | (simp only [List.mem_cons, List.not_mem_nil, or_false, true_or, or_true]; done))
         | (refine uNo (by kernel_rfl))
         | (refine flatMk ?_; kernel_rfl)
         | (refine And.intro ?_ ?_)
         | (intro hx)
         | ((first
             | (refine callGF ?_)
             | (refine callQGF ?_)
             | (refine skipG ?_)
             | (refine callS (in_gives ..) ?_)
             | (refine callQ (in_gives ..) ?_)
             | (refine callG (fun hc => (in_gives ..)) ?_)
             | (refine callQG (fun hc => (in_gives ..)) ?_)); simp -implicitDefEqProofs only [hw, hw2, hl, push_cast, Nat.reduceEqDiff, Nat.reduceBEq, Nat.reduceBNe, Nat.reduceAdd, Nat.reduceMul, Nat.reduceLT, Nat.reduceLeDiff, Nat.reduceSub, reduceCtorEq, Int.reduceToNat, ↓reduceIte]))
      all_goals first
        | omega
        | trace_state
theorem heldHoldS_gives (k0 : Int) (n : Nat) (h : Hp) (h0 : 0 ≤ k0) (h1 : k0 + n * 3 ≤ 4000000000000000000) : Gives Try.prog 78 [.slice ((seqH k0 n).map Hold.d) .no, .int .i64 k0] h (.int .i64 (k0 + n * 3)) := by
  refine meets_of [] mixed Try.func78 rfl (by kernel_rfl) (by kernel_rfl) (by rw [Try.ntmps78]; simp only [List.length_cons, List.length_nil]; omega) (fun hf => ?_)
  rw [Try.results78]
  clear hf
  have hl := seqH_len k0 n
  simp -implicitDefEqProofs only [push_cast, Nat.reduceEqDiff, Nat.reduceBEq, Nat.reduceBNe, Nat.reduceAdd, Nat.reduceMul, Nat.reduceLT, Nat.reduceLeDiff, Nat.reduceSub, reduceCtorEq, Int.reduceToNat, ↓reduceIte]
  refine ev_loop0 [] (fun j : Nat => [(0, .slice ((seqH k0 n).map Hold.d) .no), (1, .int .i64 (k0 + j * 3)), (5, .int .i64 j)]) (fun j => j ≤ n) (fun j => n - j) 0 trivial (Nat.zero_le _) ?_ ?_
  · refine ⟨rfl, [], ?_⟩
    simp -implicitDefEqProofs only [Int.natCast_add, Int.cast_ofNat_Int, List.length_nil, Nat.le_refl, WeakTo, tokSts, tokOks, List.append_cancel_left_eq, exists_eq_left', exists_eq_left, List.append_cancel_left_eq, List.take_length, ObCl, and_true, true_and, push_cast, Nat.reduceEqDiff, Nat.reduceBEq, Nat.reduceBNe, Nat.reduceAdd, Nat.reduceMul, Nat.reduceLT, Nat.reduceLeDiff, Nat.reduceSub, reduceCtorEq, Int.reduceToNat, ↓reduceIte]
    omega
  · intro j hj
    have hw : IntKind.i64.wrap ((j : Int) + 1) = j + 1 := wrap_id (by omega) (by omega)
    have hw2 : IntKind.i64.wrap (k0 + (j : Int) * 3 + 1) = k0 + j * 3 + 1 := wrap_id (by omega) (by omega)
    have hw3 : IntKind.i64.wrap (k0 + (j : Int) * 3 + 1 + 1) = k0 + j * 3 + 2 := by rw [wrap_id (by omega) (by omega)]; omega
    have hw4 : IntKind.i64.wrap (k0 + (j : Int) * 3 + 2 + 1) = k0 + j * 3 + 3 := by rw [wrap_id (by omega) (by omega)]; omega
    by_cases hjn : j < n
    · have hg := seqH_get k0 hjn
      try simp -implicitDefEqProofs only [hw, hw2, hw3, hw4, hg, hl, push_cast, Nat.reduceEqDiff, Nat.reduceBEq, Nat.reduceBNe, Nat.reduceAdd, Nat.reduceMul, Nat.reduceLT, Nat.reduceLeDiff, Nat.reduceSub, reduceCtorEq, Int.reduceToNat, ↓reduceIte]
      repeat'
        (first
         | (refine uYes ?_; first | exact List.mem_cons_self | (simp only [List.mem_cons, List.not_mem_nil, or_false, true_or, or_true]; done))
         | (refine uNo (by kernel_rfl))
         | (refine flatMk ?_; kernel_rfl)
         | (refine And.intro ?_ ?_)
         | (intro hx)
         | ((first
             | (refine callGF ?_)
             | (refine callQGF ?_)
             | (refine skipG ?_)
             | (refine callS (in_gives ..) ?_)
             | (refine callQ (in_gives ..) ?_)
             | (refine callG (fun hc => (in_gives ..)) ?_)
             | (refine callQG (fun hc => (in_gives ..)) ?_)); simp -implicitDefEqProofs only [hw, hw2, hw3, hw4, hg, hl, push_cast, Nat.reduceEqDiff, Nat.reduceBEq, Nat.reduceBNe, Nat.reduceAdd, Nat.reduceMul, Nat.reduceLT, Nat.reduceLeDiff, Nat.reduceSub, reduceCtorEq, Int.reduceToNat, ↓reduceIte]))
      all_goals first
        | omega
        | (refine round_mk0 (j + 1) (by omega) (by omega) ⟨[], ?_⟩
           simp -implicitDefEqProofs only [Int.natCast_add, Int.cast_ofNat_Int, List.length_nil, Nat.le_refl, WeakTo, tokSts, tokOks, List.append_cancel_left_eq, exists_eq_left', exists_eq_left, List.append_cancel_left_eq, List.take_length, ObCl, and_true, true_and, push_cast, Nat.reduceEqDiff, Nat.reduceBEq, Nat.reduceBNe, Nat.reduceAdd, Nat.reduceMul, Nat.reduceLT, Nat.reduceLeDiff, Nat.reduceSub, reduceCtorEq, Int.reduceToNat, ↓reduceIte]
           omega)
        | trace_state
    · try simp -implicitDefEqProofs only [hw, hw2, hl, push_cast, Nat.reduceEqDiff, Nat.reduceBEq, Nat.reduceBNe, Nat.reduceAdd, Nat.reduceMul, Nat.reduceLT, Nat.reduceLeDiff, Nat.reduceSub, reduceCtorEq, Int.reduceToNat, ↓reduceIte]
      repeat'
        (first
         | (refine uYes ?_; first | exact List.mem_cons_self | (simp only [List.mem_cons, List.not_mem_nil, or_false, true_or, or_true]; done))
         | (refine uNo (by kernel_rfl))
         | (refine flatMk ?_; kernel_rfl)
         | (refine And.intro ?_ ?_)
         | (intro hx)
         | ((first
             | (refine callGF ?_)
             | (refine callQGF ?_)
             | (refine skipG ?_)
             | (refine callS (in_gives ..) ?_)
             | (refine callQ (in_gives ..) ?_)
             | (refine callG (fun hc => (in_gives ..)) ?_)
             | (refine callQG (fun hc => (in_gives ..)) ?_)); simp -implicitDefEqProofs only [hw, hw2, hl, push_cast, Nat.reduceEqDiff, Nat.reduceBEq, Nat.reduceBNe, Nat.reduceAdd, Nat.reduceMul, Nat.reduceLT, Nat.reduceLeDiff, Nat.reduceSub, reduceCtorEq, Int.reduceToNat, ↓reduceIte]))
      all_goals first
        | omega
        | trace_state
end Go.Proofs.Ytcmpcpigchlhpaa

namespace Go.Proofs.Ytcmpcpigchlhpaa
set_option linter.unusedSectionVars false
open Go.Av
variable [Av.Start]
set_option maxRecDepth 10000
set_option linter.unusedSimpArgs false
set_option linter.unusedVariables false

omit [Av.Start] in
theorem fill_ints (a : List Int) : a.flatMap (fun x : Int => [D.int .i64 x]) = a.map (.int .i64) := (List.map_eq_flatMap ..).symm
theorem toIntSR (a : List Int) (h : Hp) : Meets Try.prog 68 [.slice (a.map (.int .i64)) .no] h fun d' h' => d' = .vec h.length false 1 0 a.length a.length ∧ h' = h ++ [.row (a.map (.int .i64))] := by
  refine meets_of [] mixed Try.func68 rfl (by kernel_rfl) (by kernel_rfl) (by rw [Try.ntmps68]; simp only [List.length_cons, List.length_nil]; omega) (fun hf => ?_)
  rw [Try.results68]
  have hl : a.length ≤ 1073741824 := by simpa [fitsD, flen, lenMax] using hf
  clear hf
  try simp -implicitDefEqProofs only [push_cast, Nat.reduceEqDiff, Nat.reduceBEq, Nat.reduceBNe, Nat.reduceAdd, Nat.reduceMul, Nat.reduceLT, Nat.reduceLeDiff, Nat.reduceSub, reduceCtorEq, Int.reduceToNat, ↓reduceIte]
  repeat'
    (first
     | (refine uYes ?_; first | exact List.mem_cons_self | (simp only [List.mem_cons, List.not_mem_nil, or_false, true_or, or_true]; done))
     | (refine uNo (by kernel_rfl))
     | (refine flatMk ?_; kernel_rfl)
     | (refine And.intro ?_ ?_)
     | (intro hx)
     | ((first
         | (refine callGF ?_)
         | (refine callQGF ?_)
         | (refine skipG ?_)
         | (refine callS (l1In_gives _ _ _ _) ?_)
         | (refine callQ (l1In_gives _ _ _ _) ?_)
         | (refine callG (fun hc => (l1In_gives _ _ _ _)) ?_)
         | (refine callQG (fun hc => (l1In_gives _ _ _ _)) ?_)); simp -implicitDefEqProofs only [push_cast, Nat.reduceEqDiff, Nat.reduceBEq, Nat.reduceBNe, Nat.reduceAdd, Nat.reduceMul, Nat.reduceLT, Nat.reduceLeDiff, Nat.reduceSub, reduceCtorEq, Int.reduceToNat, ↓reduceIte]))
  · omega
  · simp only [lenMax]; omega
  · omega
  refine ev_loop [] (fun k : Nat => [(0, .slice (a.map (.int .i64)) .no), (3, .vec h.length false 1 0 a.length a.length), (4, .int .i64 k)])
    (fun k => [.row (fillRow (fun x : Int => [.int .i64 x]) [.int .i64 0] a k)]) (fun k => k ≤ a.length) (fun k => a.length - k) 0 trivial (Nat.zero_le _) ?_ ?_
  · refine ⟨1, by simp, by simp [tokSts], ?_⟩
    simp -implicitDefEqProofs only [Int.natCast_add, Int.cast_ofNat_Int, List.length_nil, Nat.le_refl, WeakTo, tokSts, tokOks, List.append_cancel_left_eq, exists_eq_left', exists_eq_left, List.append_cancel_left_eq, List.take_length, ObCl, and_true, true_and, push_cast, Nat.reduceEqDiff, Nat.reduceBEq, Nat.reduceBNe, Nat.reduceAdd, Nat.reduceMul, Nat.reduceLT, Nat.reduceLeDiff, Nat.reduceSub, reduceCtorEq, Int.reduceToNat, ↓reduceIte, fillRow_zero]
    intro d hd
    rcases List.mem_singleton.1 (mem_zeros hd) with rfl
    simp only [cl_int]
  · intro k hk
    have hw : IntKind.i64.wrap ((k : Int) + 1) = k + 1 := wrap_id (by omega) (by omega)
    have hf := fillRow_length (f := fun x : Int => [.int .i64 x]) (z := [.int .i64 0]) (m := 1) (fun _ => rfl) rfl a hk
    have ht := take_flat (f := fun x : Int => [D.int .i64 x]) (m := 1) (fun _ => rfl) a
    rw [Nat.mul_one] at ht
    try simp -implicitDefEqProofs only [hw, hf, push_cast, Nat.reduceEqDiff, Nat.reduceBEq, Nat.reduceBNe, Nat.reduceAdd, Nat.reduceMul, Nat.reduceLT, Nat.reduceLeDiff, Nat.reduceSub, reduceCtorEq, Int.reduceToNat, ↓reduceIte]
    repeat'
      (first
       | (refine uYes ?_; first | exact List.mem_cons_self | (simp only [List.mem_cons, List.not_mem_nil, or_false, true_or, or_true]; done))
       | (refine uNo (by kernel_rfl))
       | (refine flatMk ?_; kernel_rfl)
       | (refine And.intro ?_ ?_)
       | (intro hx)
       | ((first
           | (refine callGF ?_)
           | (refine callQGF ?_)
           | (refine skipG ?_)
           | (refine callS (l1In_gives _ _ _ _) ?_)
           | (refine callQ (l1In_gives _ _ _ _) ?_)
           | (refine callG (fun hc => (l1In_gives _ _ _ _)) ?_)
           | (refine callQG (fun hc => (l1In_gives _ _ _ _)) ?_)); simp -implicitDefEqProofs only [hw, hf, push_cast, Nat.reduceEqDiff, Nat.reduceBEq, Nat.reduceBNe, Nat.reduceAdd, Nat.reduceMul, Nat.reduceLT, Nat.reduceLeDiff, Nat.reduceSub, reduceCtorEq, Int.reduceToNat, ↓reduceIte]))
    all_goals try omega
    · refine round_mk (k + 1) (by omega) (by omega) ?_
      have hs := fillRow_splice (f := fun x : Int => [.int .i64 x]) (z := [.int .i64 0]) (m := 1) (fun _ => rfl) rfl a 0 (k := k) (by omega)
      simp -implicitDefEqProofs only [push_cast, Nat.reduceEqDiff, Nat.reduceBEq, Nat.reduceBNe, Nat.reduceAdd, Nat.reduceMul, Nat.reduceLT, Nat.reduceLeDiff, Nat.reduceSub, reduceCtorEq, Int.reduceToNat, ↓reduceIte] at hs
      simp -implicitDefEqProofs only [hw, hs, Int.natCast_add, Int.cast_ofNat_Int, List.length_nil, Nat.le_refl, WeakTo, tokSts, tokOks, List.append_cancel_left_eq, exists_eq_left', exists_eq_left, List.append_cancel_left_eq, List.take_length, ObCl, and_true, true_and, push_cast, Nat.reduceEqDiff, Nat.reduceBEq, Nat.reduceBNe, Nat.reduceAdd, Nat.reduceMul, Nat.reduceLT, Nat.reduceLeDiff, Nat.reduceSub, reduceCtorEq, Int.reduceToNat, ↓reduceIte]
      intro d hd
      rcases mem_fillRow hd with hd | ⟨x, _, hd⟩ <;> (rcases List.mem_singleton.1 hd with rfl; simp only [cl_int])
    all_goals (obtain rfl : k = a.length := by omega)
    · rw [fillRow_full, fill_ints]
    · rename_i hq
      exact ints_cl _ _ _ hq
theorem toHoldSR (a : List Hold) (h : Hp) : Meets Try.prog 69 [.slice (a.map Hold.d) .no] h fun d' h' => d' = .vec h.length true 3 0 a.length a.length ∧ h' = h ++ [.row (a.flatMap Hold.cs)] := by
  refine meets_of [] mixed Try.func69 rfl (by kernel_rfl) (by kernel_rfl) (by rw [Try.ntmps69]; simp only [List.length_cons, List.length_nil]; omega) (fun hf => ?_)
  rw [Try.results69]
  have hl : a.length ≤ 1073741824 := by simpa [fitsD, flen, lenMax] using hf
  clear hf
  try simp -implicitDefEqProofs only [push_cast, Nat.reduceEqDiff, Nat.reduceBEq, Nat.reduceBNe, Nat.reduceAdd, Nat.reduceMul, Nat.reduceLT, Nat.reduceLeDiff, Nat.reduceSub, reduceCtorEq, Int.reduceToNat, ↓reduceIte]
  repeat'
    (first
     | (refine uYes ?_; first | exact List.mem_cons_self | (simp only [List.mem_cons, List.not_mem_nil, or_false, true_or, or_true]; done))
     | (refine uNo (by kernel_rfl))
     | (refine flatMk ?_; kernel_rfl)
     | (refine And.intro ?_ ?_)
     | (intro hx)
     | ((first
         | (refine callGF ?_)
         | (refine callQGF ?_)
         | (refine skipG ?_)
         | (refine callS (l1In_gives _ _ _ _) ?_)
         | (refine callQ (l1In_gives _ _ _ _) ?_)
         | (refine callG (fun hc => (l1In_gives _ _ _ _)) ?_)
         | (refine callQG (fun hc => (l1In_gives _ _ _ _)) ?_)); simp -implicitDefEqProofs only [push_cast, Nat.reduceEqDiff, Nat.reduceBEq, Nat.reduceBNe, Nat.reduceAdd, Nat.reduceMul, Nat.reduceLT, Nat.reduceLeDiff, Nat.reduceSub, reduceCtorEq, Int.reduceToNat, ↓reduceIte]))
  · omega
  · simp only [lenMax]; omega
  · omega
  refine ev_loop [] (fun k : Nat => [(0, .slice (a.map Hold.d) .no), (3, .vec h.length true 3 0 a.length a.length), (4, .int .i64 k)])
    (fun k => [.row (fillRow Hold.cs [.int .i64 0, .int .i64 0, .int .i64 0] a k)]) (fun k => k ≤ a.length) (fun k => a.length - k) 0 trivial (Nat.zero_le _) ?_ ?_
  · refine ⟨1, by simp, by simp [tokSts], ?_⟩
    simp -implicitDefEqProofs only [Int.natCast_add, Int.cast_ofNat_Int, List.length_nil, Nat.le_refl, WeakTo, tokSts, tokOks, List.append_cancel_left_eq, exists_eq_left', exists_eq_left, List.append_cancel_left_eq, List.take_length, ObCl, and_true, true_and, push_cast, Nat.reduceEqDiff, Nat.reduceBEq, Nat.reduceBNe, Nat.reduceAdd, Nat.reduceMul, Nat.reduceLT, Nat.reduceLeDiff, Nat.reduceSub, reduceCtorEq, Int.reduceToNat, ↓reduceIte, fillRow_zero]
    intro d hd
    have := mem_zeros hd
    simp only [List.mem_cons, List.not_mem_nil, or_false] at this
    rcases this with rfl | rfl | rfl <;> simp only [cl_int]
  · intro k hk
    have hw : IntKind.i64.wrap ((k : Int) + 1) = k + 1 := wrap_id (by omega) (by omega)
    have hf := fillRow_length (f := Hold.cs) (z := [.int .i64 0, .int .i64 0, .int .i64 0]) (m := 3) (fun _ => rfl) rfl a hk
    have ht := take_flat (f := Hold.cs) (m := 3) (fun _ => rfl) a
    try simp -implicitDefEqProofs only [hw, hf, push_cast, Nat.reduceEqDiff, Nat.reduceBEq, Nat.reduceBNe, Nat.reduceAdd, Nat.reduceMul, Nat.reduceLT, Nat.reduceLeDiff, Nat.reduceSub, reduceCtorEq, Int.reduceToNat, ↓reduceIte]
    repeat'
      (first
       | (refine uYes ?_; first | exact List.mem_cons_self | (simp only [List.mem_cons, List.not_mem_nil, or_false, true_or, or_true]; done))
       | (refine uNo (by kernel_rfl))
       | (refine flatMk ?_; kernel_rfl)
       | (refine And.intro ?_ ?_)
       | (intro hx)
       | ((first
           | (refine callGF ?_)
           | (refine callQGF ?_)
           | (refine skipG ?_)
           | (refine callS (toHold_gives (a.getD k default) _) ?_)
           | (refine callQ (toHold_gives (a.getD k default) _) ?_)
           | (refine callG (fun hc => (toHold_gives (a.getD k default) _)) ?_)
           | (refine callQG (fun hc => (toHold_gives (a.getD k default) _)) ?_)); simp -implicitDefEqProofs only [hw, hf, push_cast, Nat.reduceEqDiff, Nat.reduceBEq, Nat.reduceBNe, Nat.reduceAdd, Nat.reduceMul, Nat.reduceLT, Nat.reduceLeDiff, Nat.reduceSub, reduceCtorEq, Int.reduceToNat, ↓reduceIte]))
    all_goals try omega
    · refine round_mk (k + 1) (by omega) (by omega) ?_
      have hs := fillRow_splice (f := Hold.cs) (z := [.int .i64 0, .int .i64 0, .int .i64 0]) (m := 3) (fun _ => rfl) rfl a default (k := k) (by omega)
      simp -implicitDefEqProofs only [push_cast, Nat.reduceEqDiff, Nat.reduceBEq, Nat.reduceBNe, Nat.reduceAdd, Nat.reduceMul, Nat.reduceLT, Nat.reduceLeDiff, Nat.reduceSub, reduceCtorEq, Int.reduceToNat, ↓reduceIte] at hs
      simp -implicitDefEqProofs only [hw, hs, Int.natCast_add, Int.cast_ofNat_Int, List.length_nil, Nat.le_refl, WeakTo, tokSts, tokOks, List.append_cancel_left_eq, exists_eq_left', exists_eq_left, List.append_cancel_left_eq, List.take_length, ObCl, and_true, true_and, push_cast, Nat.reduceEqDiff, Nat.reduceBEq, Nat.reduceBNe, Nat.reduceAdd, Nat.reduceMul, Nat.reduceLT, Nat.reduceLeDiff, Nat.reduceSub, reduceCtorEq, Int.reduceToNat, ↓reduceIte]
      intro d hd
      rcases mem_fillRow hd with hd | ⟨x, _, hd⟩ <;> (simp only [Hold.cs, List.mem_cons, List.not_mem_nil, or_false] at hd; rcases hd with rfl | rfl | rfl <;> simp only [cl_int])
    all_goals (obtain rfl : k = a.length := by omega)
    · rw [fillRow_full]
    · rename_i hq
      exact holds_cl _ _ _ hq
theorem toLegR (l : Leg) (h : Hp) : Meets Try.prog 33 [l.d] h fun d' h' => d' = l.dv h.length ∧ h' = h ++ l.rows := by
  refine Meets.compact (hb := h) (junk := [.row l.cs, .row (l.dvc (h.length + 3)), .row (l.dvc (h.length + 3))]) (rows1 := l.rows) rfl (old_ob h) (l.dv_ren (Nat.le_refl _)) rfl (l.rows_ren _ _) ?_
  refine meets_of [] mixed Try.func33 rfl (by kernel_rfl) (by kernel_rfl) (by rw [Try.ntmps33]; simp only [List.length_cons, List.length_nil]; omega) (fun hf => ?_)
  rw [Try.results33]
  clear hf
  try simp -implicitDefEqProofs only [Leg.dv, Leg.dvc, Leg.rows, push_cast, Nat.reduceEqDiff, Nat.reduceBEq, Nat.reduceBNe, Nat.reduceAdd, Nat.reduceMul, Nat.reduceLT, Nat.reduceLeDiff, Nat.reduceSub, reduceCtorEq, Int.reduceToNat, ↓reduceIte]
  repeat'
    (first
     | (refine uYes ?_; first | exact List.mem_cons_self | (simp only [List.mem_cons, List.not_mem_nil, or_false, true_or, or_true]; done))
     | (refine uNo (by kernel_rfl))
     | (refine flatMk ?_; kernel_rfl)
     | (refine And.intro ?_ ?_)
     | (intro hx)
     | ((first
         | (refine callGF ?_)
         | (refine callQGF ?_)
         | (refine skipG ?_)
         | (refine callM (toIntSR _ _) ?_)
         | (refine callM (toHoldSR _ _) ?_)); simp -implicitDefEqProofs only [Leg.dv, Leg.dvc, Leg.rows, push_cast, Nat.reduceEqDiff, Nat.reduceBEq, Nat.reduceBNe, Nat.reduceAdd, Nat.reduceMul, Nat.reduceLT, Nat.reduceLeDiff, Nat.reduceSub, reduceCtorEq, Int.reduceToNat, ↓reduceIte]))
  all_goals first
    | omega
    | rfl
    | exact ints_cl _ _ _ hx
    | exact holds_cl _ _ _ hx
    | trace_state
end Go.Proofs.Ytcmpcpigchlhpaa

namespace Go.Proofs.Ytcmpcpigchlhpaa
set_option linter.unusedSectionVars false
open Go.Av
variable [Av.Start]
set_option maxRecDepth 10000
set_option linter.unusedSimpArgs false
set_option linter.unusedVariables false

omit [Av.Start] in
theorem back_pre {h hb junk : Hp} (hl : hb.length = h.length) (H : ∀ (k : Nat) y, hb[k]? = some y → h[k]? = some y ∨ ObCl h.length y) : Back h (hb ++ junk) hb := by
  refine ⟨by omega, by simp, by simp, fun k x hx => ?_⟩
  rw [hl]
  exact H k x hx
/-- the marks of a leg whose slices are this long -/
def markE (l : Leg) (k : Int) : Int := k + l.limits.length + l.sold.length + l.bids.length + l.holds.length * 3
def markH (l : Leg) (q : Nat) (k : Int) (h : Hp) : Hp :=
  (((h.set q (.row ((seqI k l.limits.length).map (.int .i64)))).set (q + 1) (.row ((seqI (k + l.limits.length) l.sold.length).map (.int .i64)))).set (q + 2) (.row ((seqI (k + l.limits.length + l.sold.length) l.bids.length).map (.int .i64)))).set (q + 3) (.row ((seqI (k + l.limits.length + l.sold.length + l.bids.length) (l.holds.length * 3)).map (.int .i64)))
/-- a leg whose slices are marked from k on -/
def markL (l : Leg) (k : Int) : Leg := { l with limits := seqI k l.limits.length, sold := seqI (k + l.limits.length) l.sold.length, bids := seqI (k + l.limits.length + l.sold.length) l.bids.length, holds := seqH (k + l.limits.length + l.sold.length + l.bids.length) l.holds.length }
omit [Av.Start] in
theorem markL_dv (l : Leg) (k : Int) (q : Nat) : (markL l k).dv q = l.dv q := by
  simp only [markL, Leg.dv, Leg.dvc, seqI_len, seqH_len]
omit [Av.Start] in
theorem LegAt.mark {h : Hp} {q : Nat} {l : Leg} (H : LegAt h q l) (k : Int) : LegAt (markH l q k h) q (markL l k) := by
  have hl := H.lt
  have hh := seqH_flat (k + l.limits.length + l.sold.length + l.bids.length) l.holds.length
  refine ⟨?_, ?_, ?_, ?_, by simp [markH]; exact hl⟩
  · rw [markH, ob_set_ne (by omega), ob_set_ne (by omega), ob_set_ne (by omega), ob_set_eq (by omega)]; rfl
  · rw [markH, ob_set_ne (by omega), ob_set_ne (by omega), ob_set_eq (by simp; omega)]; rfl
  · rw [markH, ob_set_ne (by omega), ob_set_eq (by simp; omega)]; rfl
  · rw [markH, ob_set_eq (by simp; omega), hh]; rfl
omit [Av.Start] in
/-- the marks leave a leg in other rows alone -/
theorem LegAt.other {h : Hp} {q r : Nat} {l l' : Leg} (H : LegAt h r l') (k : Int) (hq : q + 3 < r ∨ r + 3 < q) : LegAt (markH l q k h) r l' := by
  refine ⟨?_, ?_, ?_, ?_, by simp [markH]; exact H.lt⟩
  · rw [markH, ob_set_ne (by omega), ob_set_ne (by omega), ob_set_ne (by omega), ob_set_ne (by omega)]; exact H.limits
  · rw [markH, ob_set_ne (by omega), ob_set_ne (by omega), ob_set_ne (by omega), ob_set_ne (by omega)]; exact H.sold
  · rw [markH, ob_set_ne (by omega), ob_set_ne (by omega), ob_set_ne (by omega), ob_set_ne (by omega)]; exact H.bids
  · rw [markH, ob_set_ne (by omega), ob_set_ne (by omega), ob_set_ne (by omega), ob_set_ne (by omega)]; exact H.holds
end Go.Proofs.Ytcmpcpigchlhpaa

namespace Go.Proofs.Ytcmpcpigchlhpaa
set_option linter.unusedSectionVars false
open Go.Av
variable [Av.Start]
set_option maxRecDepth 10000
set_option linter.unusedSimpArgs false
set_option linter.unusedVariables false

omit [Av.Start] in
theorem FzL2 {h : Hp} {q : Nat} {l : Leg} {n : Int} (H : LegAt h q l) : FzL h [l.dv q, .int .i64 n] [l.d, .int .i64 n] := ⟨H.fw, l.cl0 0, fw_refl _ _ _, .int _ _, trivial⟩
omit [Av.Start] in
theorem Leg.dv_nm (l : Leg) {n r : Nat} (h : n ≤ r) : NM n (l.dv r) := .agg _ (l.dvc_nm h)
omit [Av.Start] in
theorem FzLd {h : Hp} {q : Nat} {l l' : Leg} (H : LegAt h q l) : FzL h [l.dv q, l'.d] [l.d, l'.d] := ⟨H.fw, l.cl0 0, fw_refl _ _ _, l'.cl0 0, trivial⟩
omit [Av.Start] in
theorem legAt_of {h g : Hp} {q : Nat} {l : Leg} (k : Nat) (e : q = h.length + k) (e0 : ob g k = .row (l.limits.map (.int .i64))) (e1 : ob g (k + 1) = .row (l.sold.map (.int .i64))) (e2 : ob g (k + 2) = .row (l.bids.map (.int .i64))) (e3 : ob g (k + 3) = .row (l.holds.flatMap Hold.cs)) (hl : k + 3 < g.length) : LegAt (h ++ g) q l := by
  subst e
  exact ⟨by rw [ob_app]; exact e0, by rw [Nat.add_assoc, ob_app]; exact e1, by rw [Nat.add_assoc, ob_app]; exact e2, by rw [Nat.add_assoc, ob_app]; exact e3, by rw [List.length_append]; omega⟩

theorem markIntS_nil (k : Int) (h : Hp) : Gives Try.prog 40 [.slice [] .no, .int .i64 k] h (.int .i64 k) := by
  refine meets_of [] mixed Try.func40 rfl (by kernel_rfl) (by kernel_rfl) (by rw [Try.ntmps40]; simp only [List.length_cons, List.length_nil]; omega) (fun hf => ?_)
  rw [Try.results40]
  clear hf
  simp -implicitDefEqProofs only [push_cast, Nat.reduceEqDiff, Nat.reduceBEq, Nat.reduceBNe, Nat.reduceAdd, Nat.reduceMul, Nat.reduceLT, Nat.reduceLeDiff, Nat.reduceSub, reduceCtorEq, Int.reduceToNat, ↓reduceIte]
  refine ev_loop0 [] (fun j : Unit => [(0, .slice [] .no), (1, .int .i64 k), (5, .int .i64 0)]) (fun _ => True) (fun _ => 0) () trivial trivial ?_ ?_
  · refine ⟨rfl, [], ?_⟩
    simp -implicitDefEqProofs only [Int.natCast_add, Int.cast_ofNat_Int, List.length_nil, Nat.le_refl, WeakTo, tokSts, tokOks, List.append_cancel_left_eq, exists_eq_left', exists_eq_left, List.append_cancel_left_eq, List.take_length, ObCl, and_true, true_and, push_cast, Nat.reduceEqDiff, Nat.reduceBEq, Nat.reduceBNe, Nat.reduceAdd, Nat.reduceMul, Nat.reduceLT, Nat.reduceLeDiff, Nat.reduceSub, reduceCtorEq, Int.reduceToNat, ↓reduceIte]
  · intro j hj
    try simp -implicitDefEqProofs only [push_cast, Nat.reduceEqDiff, Nat.reduceBEq, Nat.reduceBNe, Nat.reduceAdd, Nat.reduceMul, Nat.reduceLT, Nat.reduceLeDiff, Nat.reduceSub, reduceCtorEq, Int.reduceToNat, ↓reduceIte]
    repeat'
      (first
       | (refine uYes ?_; first | exact List.mem_cons_self | (simp only [List.mem_cons, List.not_mem_nil, or_false, true_or, or_true]; done))
       | (refine uNo (by kernel_rfl))
       | (refine flatMk ?_; kernel_rfl)
       | (refine And.intro ?_ ?_)
       | (intro hx)
       | ((first
           | (refine callGF ?_)
           | (refine callQGF ?_)
           | (refine skipG ?_)
           | (refine callS (in_gives ..) ?_)
           | (refine callQ (in_gives ..) ?_)
           | (refine callG (fun hc => (in_gives ..)) ?_)
           | (refine callQG (fun hc => (in_gives ..)) ?_)); simp -implicitDefEqProofs only [push_cast, Nat.reduceEqDiff, Nat.reduceBEq, Nat.reduceBNe, Nat.reduceAdd, Nat.reduceMul, Nat.reduceLT, Nat.reduceLeDiff, Nat.reduceSub, reduceCtorEq, Int.reduceToNat, ↓reduceIte]))
    all_goals first
      | omega
      | trace_state
theorem markHoldS_nil (k : Int) (h : Hp) : Gives Try.prog 41 [.slice [] .no, .int .i64 k] h (.int .i64 k) := by
  refine meets_of [] mixed Try.func41 rfl (by kernel_rfl) (by kernel_rfl) (by rw [Try.ntmps41]; simp only [List.length_cons, List.length_nil]; omega) (fun hf => ?_)
  rw [Try.results41]
  clear hf
  simp -implicitDefEqProofs only [push_cast, Nat.reduceEqDiff, Nat.reduceBEq, Nat.reduceBNe, Nat.reduceAdd, Nat.reduceMul, Nat.reduceLT, Nat.reduceLeDiff, Nat.reduceSub, reduceCtorEq, Int.reduceToNat, ↓reduceIte]
  refine ev_loop0 [] (fun j : Unit => [(0, .slice [] .no), (1, .int .i64 k), (5, .int .i64 0)]) (fun _ => True) (fun _ => 0) () trivial trivial ?_ ?_
  · refine ⟨rfl, [], ?_⟩
    simp -implicitDefEqProofs only [Int.natCast_add, Int.cast_ofNat_Int, List.length_nil, Nat.le_refl, WeakTo, tokSts, tokOks, List.append_cancel_left_eq, exists_eq_left', exists_eq_left, List.append_cancel_left_eq, List.take_length, ObCl, and_true, true_and, push_cast, Nat.reduceEqDiff, Nat.reduceBEq, Nat.reduceBNe, Nat.reduceAdd, Nat.reduceMul, Nat.reduceLT, Nat.reduceLeDiff, Nat.reduceSub, reduceCtorEq, Int.reduceToNat, ↓reduceIte]
  · intro j hj
    try simp -implicitDefEqProofs only [push_cast, Nat.reduceEqDiff, Nat.reduceBEq, Nat.reduceBNe, Nat.reduceAdd, Nat.reduceMul, Nat.reduceLT, Nat.reduceLeDiff, Nat.reduceSub, reduceCtorEq, Int.reduceToNat, ↓reduceIte]
    repeat'
      (first
       | (refine uYes ?_; first | exact List.mem_cons_self | (simp only [List.mem_cons, List.not_mem_nil, or_false, true_or, or_true]; done))
       | (refine uNo (by kernel_rfl))
       | (refine flatMk ?_; kernel_rfl)
       | (refine And.intro ?_ ?_)
       | (intro hx)
       | ((first
           | (refine callGF ?_)
           | (refine callQGF ?_)
           | (refine skipG ?_)
           | (refine callS (in_gives ..) ?_)
           | (refine callQ (in_gives ..) ?_)
           | (refine callG (fun hc => (in_gives ..)) ?_)
           | (refine callQG (fun hc => (in_gives ..)) ?_)); simp -implicitDefEqProofs only [push_cast, Nat.reduceEqDiff, Nat.reduceBEq, Nat.reduceBNe, Nat.reduceAdd, Nat.reduceMul, Nat.reduceLT, Nat.reduceLeDiff, Nat.reduceSub, reduceCtorEq, Int.reduceToNat, ↓reduceIte]))
    all_goals first
      | omega
      | trace_state
omit [Av.Start] in
theorem Leg.nm0 {n : Nat} : NM n (Leg.d default) := by
  refine .agg _ fun c hc => ?_
  simp only [Leg.cs, List.mem_cons, List.not_mem_nil, or_false] at hc
  rcases hc with rfl | rfl | rfl | rfl | rfl | rfl | rfl | rfl | rfl | rfl
  · exact .str _
  · exact .str _
  · exact .str _
  · exact .int _ _
  · exact .int _ _
  · exact .int _ _
  all_goals exact .snil _ (fun _ _ e => nomatch e)
omit [Av.Start] in
theorem markH_app (l : Leg) (k : Nat) (m : Int) (h g : Hp) : markH l (h.length + k) m (h ++ g) = h ++ markH l k m g := by
  simp only [markH, Nat.add_assoc, set_app]
omit [Av.Start] in
theorem FzLm {h : Hp} {q : Nat} {l : Leg} {k n : Int} (H : LegAt h q (markL l k)) : FzL h [l.dv q, .int .i64 n] [(markL l k).d, .int .i64 n] := by
  rw [← markL_dv l k q]
  exact FzL2 H

end Go.Proofs.Ytcmpcpigchlhpaa
