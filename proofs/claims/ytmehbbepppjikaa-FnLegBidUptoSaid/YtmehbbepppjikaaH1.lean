/- Contracts of functions of the program (H1). -/
import Derived.Test.YtmehbbepppjikaaW5

namespace Go.Proofs.Ytmehbbepppjikaa
open Go.Av
set_option maxRecDepth 10000
set_option maxHeartbeats 1000000
set_option linter.unusedSimpArgs false
set_option linter.unusedVariables false

theorem zeros3 (a b c : D) : ∀ n, zeros [a, b, c] (n + 1) = a :: b :: c :: zeros [a, b, c] n := fun n => rfl
theorem zeros3_len (a b c : D) : ∀ n, (zeros [a, b, c] n).length = n * 3
  | 0 => rfl
  | n + 1 => by rw [zeros3]; simp only [List.length_cons, zeros3_len a b c n]; omega
/-- slices.Insert of one hold into a full slice -/
theorem insert_gives (xs : List Hold) (o : Hold) (k : Nat) (h : Hp) (hk : k ≤ xs.length) (hl : xs.length ≤ 100) : Gives Try.prog 133 [.slice (xs.map Hold.d) .full, .int .i64 k, .slice [o.d] .full] h (.slice ((xs.take k ++ o :: xs.drop k).map Hold.d) .no) := by
  by_cases hkk : k = xs.length
  · refine meets_of [] mixed Try.func133 rfl (by kernel_rfl) (by kernel_rfl) (by rw [Try.ntmps133]; simp only [List.length_cons, List.length_nil]; omega) (fun hf => ?_)
    rw [Try.results133]
    clear hf
    try simp -implicitDefEqProofs only [lenMax, hkk, push_cast, Nat.reduceEqDiff, Nat.reduceBEq, Nat.reduceBNe, Nat.reduceAdd, Nat.reduceMul, Nat.reduceLT, Nat.reduceLeDiff, Nat.reduceSub, reduceCtorEq, Int.reduceToNat, ↓reduceIte]
    repeat'
      (first
       | (refine uYes ?_; first | exact List.mem_cons_self | (simp only [List.mem_cons, List.not_mem_nil, or_false, true_or, or_true]; done))
       | (refine uNo (by kernel_rfl))
       | (refine flatMk ?_; kernel_rfl)
       | (refine And.intro ?_ ?_)
       | (intro hx)
       | ((first
           | (refine callGF ?_)
           | (refine callQGF ?_)
           | (refine skipG ?_)
           | (refine callS (in_gives _ _ _ _) ?_)
           | (refine callQ (in_gives _ _ _ _) ?_)
           | (refine callG (fun hc => (in_gives _ _ _ _)) ?_)
           | (refine callQG (fun hc => (in_gives _ _ _ _)) ?_)); simp -implicitDefEqProofs only [lenMax, hkk, push_cast, Nat.reduceEqDiff, Nat.reduceBEq, Nat.reduceBNe, Nat.reduceAdd, Nat.reduceMul, Nat.reduceLT, Nat.reduceLeDiff, Nat.reduceSub, reduceCtorEq, Int.reduceToNat, ↓reduceIte]))
    all_goals first
      | omega
      | exact holds_cl _ _ _ hx
      | exact holds_c1 _ _ hx
      | (rw [List.drop_length, List.map_append]; rfl)
      | (rw [holds_len, hlen]; exact Nat.le_refl _)
      | (simp only [List.mem_cons, List.not_mem_nil, or_false] at hx; rcases hx with rfl | rfl | rfl <;> trivial)
      | trace_state
  · refine meets_of [40, 9] mixed Try.func133 rfl (by kernel_rfl) (by kernel_rfl) (by rw [Try.ntmps133]; simp only [List.length_cons, List.length_nil]; omega) (fun hf => ?_)
    rw [Try.results133]
    clear hf
    have hw : IntKind.i64.wrap ((xs.length : Int) + 1) = xs.length + 1 := wrap_id (by omega) (by omega)
    have hw1 : IntKind.i64.wrap ((xs.length : Int) + 1 - k) = xs.length + 1 - k := wrap_id (by omega) (by omega)
    have hw2 : IntKind.i64.wrap ((k : Int) + 1) = k + 1 := wrap_id (by omega) (by omega)
    have hmin : min k xs.length = k := by omega
    have htn : ((xs.length : Int) + 1 - k).toNat = xs.length + 1 - k := by omega
    have hm1 : min (min 1 (xs.length + 1 - k) * 3) 3 = 3 := by omega
    have hlk : ((xs.take k).flatMap Hold.cs).length = k * 3 := by rw [holds_len, List.length_take]; omega
    have hmin1 : min 1 (xs.length + 1 - k) = 1 := by omega
    have ht3 : List.take 3 [D.int .i64 o.txn, D.int .i64 o.cls, D.int .i64 o.seats] = [D.int .i64 o.txn, D.int .i64 o.cls, D.int .i64 o.seats] := rfl
    have ht1 : ((k : Int) + 1).toNat = k + 1 := by omega
    have hm2 : min (xs.length - k) (xs.length + 1 - (k + 1)) = xs.length - k := by omega
    have hlb : ((xs.drop k).flatMap Hold.cs).length = (xs.length - k) * 3 := by rw [holds_len, List.length_drop]
    have hA1 : ((xs.take k).flatMap Hold.cs ++ zeros [D.int .i64 0, D.int .i64 0, D.int .i64 0] (xs.length + 1 - k)).take (k * 3) = (xs.take k).flatMap Hold.cs := by
      rw [List.take_append_of_le_length (by omega), List.take_of_length_le (by omega)]
    have hA2 : ((xs.take k).flatMap Hold.cs ++ zeros [D.int .i64 0, D.int .i64 0, D.int .i64 0] (xs.length + 1 - k)).drop (k * 3 + 3) = zeros [D.int .i64 0, D.int .i64 0, D.int .i64 0] (xs.length - k) := by
      rw [show xs.length + 1 - k = (xs.length - k) + 1 by omega, zeros3, List.drop_append, List.drop_eq_nil_of_le (by omega), hlk, show k * 3 + 3 - k * 3 = 3 by omega]
      rfl
    have hB1 : ((xs.take k).flatMap Hold.cs ++ (D.int .i64 o.txn :: D.int .i64 o.cls :: D.int .i64 o.seats :: zeros [D.int .i64 0, D.int .i64 0, D.int .i64 0] (xs.length - k))).take ((k + 1) * 3) = (xs.take k).flatMap Hold.cs ++ [D.int .i64 o.txn, D.int .i64 o.cls, D.int .i64 o.seats] := by
      rw [List.take_append, List.take_of_length_le (by omega), hlk, show (k + 1) * 3 - k * 3 = 3 by omega]
      rfl
    have hB2 : ((xs.take k).flatMap Hold.cs ++ (D.int .i64 o.txn :: D.int .i64 o.cls :: D.int .i64 o.seats :: zeros [D.int .i64 0, D.int .i64 0, D.int .i64 0] (xs.length - k))).drop ((k + 1) * 3 + (xs.length - k) * 3) = [] :=
      List.drop_eq_nil_of_le (by simp only [List.length_append, List.length_cons, zeros3_len, hlk]; omega)
    have hB3 : ((xs.drop k).flatMap Hold.cs).take ((xs.length - k) * 3) = (xs.drop k).flatMap Hold.cs := List.take_of_length_le (by omega)
    have hR : (xs.take k).flatMap Hold.cs ++ (D.int .i64 o.txn :: D.int .i64 o.cls :: D.int .i64 o.seats :: (xs.drop k).flatMap Hold.cs) = (xs.take k ++ o :: xs.drop k).flatMap Hold.cs := by
      rw [List.flatMap_append, List.flatMap_cons]
      rfl
    have hlen : (xs.take k ++ o :: xs.drop k).length = xs.length + 1 := by simp only [List.length_append, List.length_cons, List.length_take, List.length_drop]; omega
    have hrp : rowPart (h ++ [.row ((xs.take k ++ o :: xs.drop k).flatMap Hold.cs)]) h.length 3 0 (xs.length + 1) = (xs.take k ++ o :: xs.drop k).flatMap Hold.cs := rp_holds (k := 0) rfl hlen.symm
    have hch : chunk true 3 (xs.length + 1) ((xs.take k ++ o :: xs.drop k).flatMap Hold.cs) = (xs.take k ++ o :: xs.drop k).map Hold.d := chunk_holds _ _ hlen.symm
    have hadd : k + (xs.length + 1 - k) = xs.length + 1 := by omega
    try simp -implicitDefEqProofs only [lenMax, Int.zero_add, Nat.zero_add, hw, hw1, hw2, hmin, htn, hadd, hm1, hlk, zeros3_len, hmin1, ht3, ht1, hm2, hlb, hA1, hA2, hB1, hB2, hB3, hR, hrp, hch, Nat.min_self, List.append_nil, push_cast, Nat.reduceEqDiff, Nat.reduceBEq, Nat.reduceBNe, Nat.reduceAdd, Nat.reduceMul, Nat.reduceLT, Nat.reduceLeDiff, Nat.reduceSub, reduceCtorEq, Int.reduceToNat, ↓reduceIte]
    repeat'
      (first
       | (refine uYes ?_; first | exact List.mem_cons_self | (simp only [List.mem_cons, List.not_mem_nil, or_false, true_or, or_true]; done))
       | (refine uNo (by kernel_rfl))
       | (refine flatMk ?_; kernel_rfl)
       | (refine And.intro ?_ ?_)
       | (intro hx)
       | ((first
           | (refine callGF ?_)
           | (refine callQGF ?_)
           | (refine skipG ?_)
           | (refine inX_mk [h.length] (by kernel_rfl) (by simp) ?_)); simp -implicitDefEqProofs only [lenMax, Int.zero_add, Nat.zero_add, hw, hw1, hw2, hmin, htn, hadd, hm1, hlk, zeros3_len, hmin1, ht3, ht1, hm2, hlb, hA1, hA2, hB1, hB2, hB3, hR, hrp, hch, Nat.min_self, List.append_nil, push_cast, Nat.reduceEqDiff, Nat.reduceBEq, Nat.reduceBNe, Nat.reduceAdd, Nat.reduceMul, Nat.reduceLT, Nat.reduceLeDiff, Nat.reduceSub, reduceCtorEq, Int.reduceToNat, ↓reduceIte]))
    all_goals first
      | omega
      | exact holds_cl _ _ _ hx
      | exact holds_c1 _ _ hx
      | (rw [List.drop_length, List.map_append]; rfl)
      | (rw [holds_len, hlen]; exact Nat.le_refl _)
      | (simp only [List.mem_cons, List.not_mem_nil, or_false] at hx; rcases hx with rfl | rfl | rfl <;> trivial)
      | trace_state
end Go.Proofs.Ytmehbbepppjikaa
