/- Contracts of functions of the program (M3). -/
import Derived.Test.YtmehbbepppjikaaM2

namespace Go.Proofs.Ytmehbbepppjikaa
open Go.Av
set_option maxRecDepth 10000
set_option linter.unusedSimpArgs false
set_option linter.unusedVariables false

theorem fill_ints (a : List Int) : a.flatMap (fun x : Int => [D.int .i64 x]) = a.map (.int .i64) := (List.map_eq_flatMap ..).symm
theorem toIntSR (a : List Int) (h : Hp) : Meets Try.prog 73 [.slice (a.map (.int .i64)) .no] h fun d' h' => d' = .vec h.length false 1 0 a.length a.length ∧ h' = h ++ [.row (a.map (.int .i64))] := by
  refine meets_of [] mixed Try.func73 rfl (by kernel_rfl) (by kernel_rfl) (by rw [Try.ntmps73]; simp only [List.length_cons, List.length_nil]; omega) (fun hf => ?_)
  rw [Try.results73]
  have hl : a.length ≤ 1073741824 := by simpa [fitsD, flen, lenMax] using hf
  clear hf
  try simp -implicitDefEqProofs only [push_cast, Nat.reduceEqDiff, Nat.reduceBEq, Nat.reduceBNe, Nat.reduceAdd, Nat.reduceMul, Nat.reduceLT, Nat.reduceLeDiff, Nat.reduceSub, reduceCtorEq, Int.reduceToNat, ↓reduceIte]
  repeat'
    (first
     | (refine uYes ?_; first | exact List.mem_cons_self | (simp only [List.mem_cons, List.not_mem_nil, or_false, true_or, or_true]; done))
     | (refine uNo (by kernel_rfl))
     | (refine flatMk ?_; kernel_rfl)
     | (refine And.intro ?_ ?_)
     | (intro hx)
     | ((first
         | (refine callGF ?_)
         | (refine callQGF ?_)
         | (refine skipG ?_)
         | (refine callS (l1In_gives _ _ _ _) ?_)
         | (refine callQ (l1In_gives _ _ _ _) ?_)
         | (refine callG (fun hc => (l1In_gives _ _ _ _)) ?_)
         | (refine callQG (fun hc => (l1In_gives _ _ _ _)) ?_)); simp -implicitDefEqProofs only [push_cast, Nat.reduceEqDiff, Nat.reduceBEq, Nat.reduceBNe, Nat.reduceAdd, Nat.reduceMul, Nat.reduceLT, Nat.reduceLeDiff, Nat.reduceSub, reduceCtorEq, Int.reduceToNat, ↓reduceIte]))
  · omega
  · simp only [lenMax]; omega
  · omega
  refine ev_loop [] (fun k : Nat => [(0, .slice (a.map (.int .i64)) .no), (3, .vec h.length false 1 0 a.length a.length), (4, .int .i64 k)])
    (fun k => [.row (fillRow (fun x : Int => [.int .i64 x]) [.int .i64 0] a k)]) (fun k => k ≤ a.length) (fun k => a.length - k) 0 trivial (Nat.zero_le _) ?_ ?_
  · refine ⟨1, by simp, by simp [tokSts], ?_⟩
    simp -implicitDefEqProofs only [Int.natCast_add, Int.cast_ofNat_Int, List.length_nil, Nat.le_refl, WeakTo, tokSts, tokOks, List.append_cancel_left_eq, exists_eq_left', exists_eq_left, List.append_cancel_left_eq, List.take_length, ObCl, and_true, true_and, push_cast, Nat.reduceEqDiff, Nat.reduceBEq, Nat.reduceBNe, Nat.reduceAdd, Nat.reduceMul, Nat.reduceLT, Nat.reduceLeDiff, Nat.reduceSub, reduceCtorEq, Int.reduceToNat, ↓reduceIte, fillRow_zero]
    intro d hd
    rcases List.mem_singleton.1 (mem_zeros hd) with rfl
    simp only [cl_int]
  · intro k hk
    have hw : IntKind.i64.wrap ((k : Int) + 1) = k + 1 := wrap_id (by omega) (by omega)
    have hf := fillRow_length (f := fun x : Int => [.int .i64 x]) (z := [.int .i64 0]) (m := 1) (fun _ => rfl) rfl a hk
    have ht := take_flat (f := fun x : Int => [D.int .i64 x]) (m := 1) (fun _ => rfl) a
    rw [Nat.mul_one] at ht
    try simp -implicitDefEqProofs only [hw, hf, push_cast, Nat.reduceEqDiff, Nat.reduceBEq, Nat.reduceBNe, Nat.reduceAdd, Nat.reduceMul, Nat.reduceLT, Nat.reduceLeDiff, Nat.reduceSub, reduceCtorEq, Int.reduceToNat, ↓reduceIte]
    repeat'
      (first
       | (refine uYes ?_; first | exact List.mem_cons_self | (simp only [List.mem_cons, List.not_mem_nil, or_false, true_or, or_true]; done))
       | (refine uNo (by kernel_rfl))
       | (refine flatMk ?_; kernel_rfl)
       | (refine And.intro ?_ ?_)
       | (intro hx)
       | ((first
           | (refine callGF ?_)
           | (refine callQGF ?_)
           | (refine skipG ?_)
           | (refine callS (l1In_gives _ _ _ _) ?_)
           | (refine callQ (l1In_gives _ _ _ _) ?_)
           | (refine callG (fun hc => (l1In_gives _ _ _ _)) ?_)
           | (refine callQG (fun hc => (l1In_gives _ _ _ _)) ?_)); simp -implicitDefEqProofs only [hw, hf, push_cast, Nat.reduceEqDiff, Nat.reduceBEq, Nat.reduceBNe, Nat.reduceAdd, Nat.reduceMul, Nat.reduceLT, Nat.reduceLeDiff, Nat.reduceSub, reduceCtorEq, Int.reduceToNat, ↓reduceIte]))
    all_goals try omega
    · refine round_mk (k + 1) (by omega) (by omega) ?_
      have hs := fillRow_splice (f := fun x : Int => [.int .i64 x]) (z := [.int .i64 0]) (m := 1) (fun _ => rfl) rfl a 0 (k := k) (by omega)
      simp -implicitDefEqProofs only [push_cast, Nat.reduceEqDiff, Nat.reduceBEq, Nat.reduceBNe, Nat.reduceAdd, Nat.reduceMul, Nat.reduceLT, Nat.reduceLeDiff, Nat.reduceSub, reduceCtorEq, Int.reduceToNat, ↓reduceIte] at hs
      simp -implicitDefEqProofs only [hw, hs, Int.natCast_add, Int.cast_ofNat_Int, List.length_nil, Nat.le_refl, WeakTo, tokSts, tokOks, List.append_cancel_left_eq, exists_eq_left', exists_eq_left, List.append_cancel_left_eq, List.take_length, ObCl, and_true, true_and, push_cast, Nat.reduceEqDiff, Nat.reduceBEq, Nat.reduceBNe, Nat.reduceAdd, Nat.reduceMul, Nat.reduceLT, Nat.reduceLeDiff, Nat.reduceSub, reduceCtorEq, Int.reduceToNat, ↓reduceIte]
      intro d hd
      rcases mem_fillRow hd with hd | ⟨x, _, hd⟩ <;> (rcases List.mem_singleton.1 hd with rfl; simp only [cl_int])
    all_goals (obtain rfl : k = a.length := by omega)
    · rw [fillRow_full, fill_ints]
    · rename_i hq
      exact ints_cl _ _ _ hq
theorem toHoldSR (a : List Hold) (h : Hp) : Meets Try.prog 74 [.slice (a.map Hold.d) .no] h fun d' h' => d' = .vec h.length true 3 0 a.length a.length ∧ h' = h ++ [.row (a.flatMap Hold.cs)] := by
  refine meets_of [] mixed Try.func74 rfl (by kernel_rfl) (by kernel_rfl) (by rw [Try.ntmps74]; simp only [List.length_cons, List.length_nil]; omega) (fun hf => ?_)
  rw [Try.results74]
  have hl : a.length ≤ 1073741824 := by simpa [fitsD, flen, lenMax] using hf
  clear hf
  try simp -implicitDefEqProofs only [push_cast, Nat.reduceEqDiff, Nat.reduceBEq, Nat.reduceBNe, Nat.reduceAdd, Nat.reduceMul, Nat.reduceLT, Nat.reduceLeDiff, Nat.reduceSub, reduceCtorEq, Int.reduceToNat, ↓reduceIte]
  repeat'
    (first
     | (refine uYes ?_; first | exact List.mem_cons_self | (simp only [List.mem_cons, List.not_mem_nil, or_false, true_or, or_true]; done))
     | (refine uNo (by kernel_rfl))
     | (refine flatMk ?_; kernel_rfl)
     | (refine And.intro ?_ ?_)
     | (intro hx)
     | ((first
         | (refine callGF ?_)
         | (refine callQGF ?_)
         | (refine skipG ?_)
         | (refine callS (l1In_gives _ _ _ _) ?_)
         | (refine callQ (l1In_gives _ _ _ _) ?_)
         | (refine callG (fun hc => (l1In_gives _ _ _ _)) ?_)
         | (refine callQG (fun hc => (l1In_gives _ _ _ _)) ?_)); simp -implicitDefEqProofs only [push_cast, Nat.reduceEqDiff, Nat.reduceBEq, Nat.reduceBNe, Nat.reduceAdd, Nat.reduceMul, Nat.reduceLT, Nat.reduceLeDiff, Nat.reduceSub, reduceCtorEq, Int.reduceToNat, ↓reduceIte]))
  · omega
  · simp only [lenMax]; omega
  · omega
  refine ev_loop [] (fun k : Nat => [(0, .slice (a.map Hold.d) .no), (3, .vec h.length true 3 0 a.length a.length), (4, .int .i64 k)])
    (fun k => [.row (fillRow Hold.cs [.int .i64 0, .int .i64 0, .int .i64 0] a k)]) (fun k => k ≤ a.length) (fun k => a.length - k) 0 trivial (Nat.zero_le _) ?_ ?_
  · refine ⟨1, by simp, by simp [tokSts], ?_⟩
    simp -implicitDefEqProofs only [Int.natCast_add, Int.cast_ofNat_Int, List.length_nil, Nat.le_refl, WeakTo, tokSts, tokOks, List.append_cancel_left_eq, exists_eq_left', exists_eq_left, List.append_cancel_left_eq, List.take_length, ObCl, and_true, true_and, push_cast, Nat.reduceEqDiff, Nat.reduceBEq, Nat.reduceBNe, Nat.reduceAdd, Nat.reduceMul, Nat.reduceLT, Nat.reduceLeDiff, Nat.reduceSub, reduceCtorEq, Int.reduceToNat, ↓reduceIte, fillRow_zero]
    intro d hd
    have := mem_zeros hd
    simp only [List.mem_cons, List.not_mem_nil, or_false] at this
    rcases this with rfl | rfl | rfl <;> simp only [cl_int]
  · intro k hk
    have hw : IntKind.i64.wrap ((k : Int) + 1) = k + 1 := wrap_id (by omega) (by omega)
    have hf := fillRow_length (f := Hold.cs) (z := [.int .i64 0, .int .i64 0, .int .i64 0]) (m := 3) (fun _ => rfl) rfl a hk
    have ht := take_flat (f := Hold.cs) (m := 3) (fun _ => rfl) a
    try simp -implicitDefEqProofs only [hw, hf, push_cast, Nat.reduceEqDiff, Nat.reduceBEq, Nat.reduceBNe, Nat.reduceAdd, Nat.reduceMul, Nat.reduceLT, Nat.reduceLeDiff, Nat.reduceSub, reduceCtorEq, Int.reduceToNat, ↓reduceIte]
    repeat'
      (first
       | (refine uYes ?_; first | exact List.mem_cons_self | (simp only [List.mem_cons, List.not_mem_nil, or_false, true_or, or_true]; done))
       | (refine uNo (by kernel_rfl))
       | (refine flatMk ?_; kernel_rfl)
       | (refine And.intro ?_ ?_)
       | (intro hx)
       | ((first
           | (refine callGF ?_)
           | (refine callQGF ?_)
           | (refine skipG ?_)
           | (refine callS (toHold_gives (a.getD k default) _) ?_)
           | (refine callQ (toHold_gives (a.getD k default) _) ?_)
           | (refine callG (fun hc => (toHold_gives (a.getD k default) _)) ?_)
           | (refine callQG (fun hc => (toHold_gives (a.getD k default) _)) ?_)); simp -implicitDefEqProofs only [hw, hf, push_cast, Nat.reduceEqDiff, Nat.reduceBEq, Nat.reduceBNe, Nat.reduceAdd, Nat.reduceMul, Nat.reduceLT, Nat.reduceLeDiff, Nat.reduceSub, reduceCtorEq, Int.reduceToNat, ↓reduceIte]))
    all_goals try omega
    · refine round_mk (k + 1) (by omega) (by omega) ?_
      have hs := fillRow_splice (f := Hold.cs) (z := [.int .i64 0, .int .i64 0, .int .i64 0]) (m := 3) (fun _ => rfl) rfl a default (k := k) (by omega)
      simp -implicitDefEqProofs only [push_cast, Nat.reduceEqDiff, Nat.reduceBEq, Nat.reduceBNe, Nat.reduceAdd, Nat.reduceMul, Nat.reduceLT, Nat.reduceLeDiff, Nat.reduceSub, reduceCtorEq, Int.reduceToNat, ↓reduceIte] at hs
      simp -implicitDefEqProofs only [hw, hs, Int.natCast_add, Int.cast_ofNat_Int, List.length_nil, Nat.le_refl, WeakTo, tokSts, tokOks, List.append_cancel_left_eq, exists_eq_left', exists_eq_left, List.append_cancel_left_eq, List.take_length, ObCl, and_true, true_and, push_cast, Nat.reduceEqDiff, Nat.reduceBEq, Nat.reduceBNe, Nat.reduceAdd, Nat.reduceMul, Nat.reduceLT, Nat.reduceLeDiff, Nat.reduceSub, reduceCtorEq, Int.reduceToNat, ↓reduceIte]
      intro d hd
      rcases mem_fillRow hd with hd | ⟨x, _, hd⟩ <;> (simp only [Hold.cs, List.mem_cons, List.not_mem_nil, or_false] at hd; rcases hd with rfl | rfl | rfl <;> simp only [cl_int])
    all_goals (obtain rfl : k = a.length := by omega)
    · rw [fillRow_full]
    · rename_i hq
      exact holds_cl _ _ _ hq
theorem toLegR (l : Leg) (h : Hp) : Meets Try.prog 23 [l.d] h fun d' h' => d' = l.dv h.length ∧ h' = h ++ l.rows := by
  refine Meets.compact (hb := h) (junk := [.row l.cs, .row (l.dvc (h.length + 3)), .row (l.dvc (h.length + 3))]) (rows1 := l.rows) rfl (old_ob h) (l.dv_ren (Nat.le_refl _)) rfl (l.rows_ren _ _) ?_
  refine meets_of [] mixed Try.func23 rfl (by kernel_rfl) (by kernel_rfl) (by rw [Try.ntmps23]; simp only [List.length_cons, List.length_nil]; omega) (fun hf => ?_)
  rw [Try.results23]
  clear hf
  try simp -implicitDefEqProofs only [Leg.dv, Leg.dvc, Leg.rows, push_cast, Nat.reduceEqDiff, Nat.reduceBEq, Nat.reduceBNe, Nat.reduceAdd, Nat.reduceMul, Nat.reduceLT, Nat.reduceLeDiff, Nat.reduceSub, reduceCtorEq, Int.reduceToNat, ↓reduceIte]
  repeat'
    (first
     | (refine uYes ?_; first | exact List.mem_cons_self | (simp only [List.mem_cons, List.not_mem_nil, or_false, true_or, or_true]; done))
     | (refine uNo (by kernel_rfl))
     | (refine flatMk ?_; kernel_rfl)
     | (refine And.intro ?_ ?_)
     | (intro hx)
     | ((first
         | (refine callGF ?_)
         | (refine callQGF ?_)
         | (refine skipG ?_)
         | (refine callM (toIntSR _ _) ?_)
         | (refine callM (toHoldSR _ _) ?_)); simp -implicitDefEqProofs only [Leg.dv, Leg.dvc, Leg.rows, push_cast, Nat.reduceEqDiff, Nat.reduceBEq, Nat.reduceBNe, Nat.reduceAdd, Nat.reduceMul, Nat.reduceLT, Nat.reduceLeDiff, Nat.reduceSub, reduceCtorEq, Int.reduceToNat, ↓reduceIte]))
  all_goals first
    | omega
    | rfl
    | exact ints_cl _ _ _ hx
    | exact holds_cl _ _ _ hx
    | trace_state
end Go.Proofs.Ytmehbbepppjikaa
