/- Contracts of functions of the program (W5). -/
import Derived.Test.YtmehbbepppjikaaW4

namespace Go.Proofs.Ytmehbbepppjikaa
open Go.Av
set_option maxRecDepth 10000
set_option maxHeartbeats 1000000
set_option linter.unusedSimpArgs false
set_option linter.unusedVariables false

theorem holds_len (xs : List Hold) : (xs.flatMap Hold.cs).length = xs.length * 3 := flatMap_length (f := Hold.cs) (m := 3) (fun _ => rfl) xs
theorem rp_holds {h rows : Hp} {k n : Nat} {xs : List Hold} (hr : ob rows k = .row (xs.flatMap Hold.cs)) (hn : n = xs.length) : rowPart (h ++ rows) (h.length + k) 3 0 n = xs.flatMap Hold.cs := by
  subst hn
  rw [rowPart, ob_app, hr]
  show ((xs.flatMap Hold.cs).drop (0 * 3)).take (xs.length * 3) = _
  rw [Nat.zero_mul, List.drop_zero, List.take_of_length_le (by rw [holds_len]; exact Nat.le_refl _)]
theorem chunk_holds (xs : List Hold) (n : Nat) (hn : n = xs.length) : chunk true 3 n (xs.flatMap Hold.cs) = xs.map Hold.d :=
  chunk_map (g := Hold.d) (ag := true) (m := 3) (by omega) (fun _ => rfl) (fun _ => rfl) xs n hn
theorem implLegDrop_gives (l : Leg) (n : Int) (h : Hp) : Gives Try.prog 47 [l.d, .int .i64 n] h (if legB l then dropL l n else default).d := by
  cases hb : legB l with
  | false => exact implLegDrop_bad l n h hb
  | true =>
    show Gives _ _ _ _ (dropL l n).d
    rw [← settleL_drop]
    generalize e : settleL l n false = l'
    refine meets_of [] mixed Try.func47 rfl (by kernel_rfl) (by kernel_rfl) (by rw [Try.ntmps47]; simp only [List.length_cons, List.length_nil]; omega) (fun hf => ?_)
    rw [Try.results47]
    clear hf
    have q2 : ∀ a b, rowPart (h ++ [a, b, .row (l'.limits.map (.int .i64)), .row (l'.sold.map (.int .i64)), .row (l'.bids.map (.int .i64)), .row (l'.holds.flatMap Hold.cs)]) (h.length + 2) 1 0 l'.limits.length = l'.limits.map (.int .i64) := fun _ _ => rp_ints rfl rfl
    have q3 : ∀ a b, rowPart (h ++ [a, b, .row (l'.limits.map (.int .i64)), .row (l'.sold.map (.int .i64)), .row (l'.bids.map (.int .i64)), .row (l'.holds.flatMap Hold.cs)]) (h.length + 3) 1 0 l'.sold.length = l'.sold.map (.int .i64) := fun _ _ => rp_ints rfl rfl
    have q4 : ∀ a b, rowPart (h ++ [a, b, .row (l'.limits.map (.int .i64)), .row (l'.sold.map (.int .i64)), .row (l'.bids.map (.int .i64)), .row (l'.holds.flatMap Hold.cs)]) (h.length + 4) 1 0 l'.bids.length = l'.bids.map (.int .i64) := fun _ _ => rp_ints rfl rfl
    have q5 : ∀ a b, rowPart (h ++ [a, b, .row (l'.limits.map (.int .i64)), .row (l'.sold.map (.int .i64)), .row (l'.bids.map (.int .i64)), .row (l'.holds.flatMap Hold.cs)]) (h.length + 5) 3 0 l'.holds.length = l'.holds.flatMap Hold.cs := fun _ _ => rp_holds rfl rfl
    try simp -implicitDefEqProofs only [Leg.dv, Leg.dvc, Leg.rows, Nat.add_assoc, lenMax, q2, q3, q4, q5, chunk_ints _ _ rfl, chunk_holds _ _ rfl, holds_len, push_cast, Nat.reduceEqDiff, Nat.reduceBEq, Nat.reduceBNe, Nat.reduceAdd, Nat.reduceMul, Nat.reduceLT, Nat.reduceLeDiff, Nat.reduceSub, reduceCtorEq, Int.reduceToNat, ↓reduceIte]
    repeat'
      (first
       | (refine uYes ?_; first | exact List.mem_cons_self | (simp only [List.mem_cons, List.not_mem_nil, or_false, true_or, or_true]; done))
       | (refine uNo (by kernel_rfl))
       | (refine flatMk ?_; kernel_rfl)
       | (refine And.intro ?_ ?_)
       | (intro hx)
       | ((first
           | (refine callGF ?_)
           | (refine callQGF ?_)
           | (refine skipG ?_)
           | (refine callM (e ▸ settledR l n false _ hb) ?_)); simp -implicitDefEqProofs only [Leg.dv, Leg.dvc, Leg.rows, Nat.add_assoc, lenMax, q2, q3, q4, q5, chunk_ints _ _ rfl, chunk_holds _ _ rfl, holds_len, push_cast, Nat.reduceEqDiff, Nat.reduceBEq, Nat.reduceBNe, Nat.reduceAdd, Nat.reduceMul, Nat.reduceLT, Nat.reduceLeDiff, Nat.reduceSub, reduceCtorEq, Int.reduceToNat, ↓reduceIte]))
    all_goals first
      | omega
      | rfl
      | exact ints_cl _ _ _ hx
      | exact holds_cl _ _ _ hx
      | exact ints_c1 _ _ hx
      | exact holds_c1 _ _ hx
      | exact chunk_ints _ _ (by simp)
      | exact flat_holds _ _ hx
      | (obtain ⟨y, _, rfl⟩ := List.mem_map.1 hx; rfl)
      | trace_state
theorem implLegKeep_gives (l : Leg) (n : Int) (h : Hp) : Gives Try.prog 43 [l.d, .int .i64 n] h (if legB l then keepL l n else default).d := by
  cases hb : legB l with
  | false => exact implLegKeep_bad l n h hb
  | true =>
    show Gives _ _ _ _ (keepL l n).d
    rw [← settleL_keep]
    generalize e : settleL l n true = l'
    refine meets_of [] mixed Try.func43 rfl (by kernel_rfl) (by kernel_rfl) (by rw [Try.ntmps43]; simp only [List.length_cons, List.length_nil]; omega) (fun hf => ?_)
    rw [Try.results43]
    clear hf
    have q2 : ∀ a b, rowPart (h ++ [a, b, .row (l'.limits.map (.int .i64)), .row (l'.sold.map (.int .i64)), .row (l'.bids.map (.int .i64)), .row (l'.holds.flatMap Hold.cs)]) (h.length + 2) 1 0 l'.limits.length = l'.limits.map (.int .i64) := fun _ _ => rp_ints rfl rfl
    have q3 : ∀ a b, rowPart (h ++ [a, b, .row (l'.limits.map (.int .i64)), .row (l'.sold.map (.int .i64)), .row (l'.bids.map (.int .i64)), .row (l'.holds.flatMap Hold.cs)]) (h.length + 3) 1 0 l'.sold.length = l'.sold.map (.int .i64) := fun _ _ => rp_ints rfl rfl
    have q4 : ∀ a b, rowPart (h ++ [a, b, .row (l'.limits.map (.int .i64)), .row (l'.sold.map (.int .i64)), .row (l'.bids.map (.int .i64)), .row (l'.holds.flatMap Hold.cs)]) (h.length + 4) 1 0 l'.bids.length = l'.bids.map (.int .i64) := fun _ _ => rp_ints rfl rfl
    have q5 : ∀ a b, rowPart (h ++ [a, b, .row (l'.limits.map (.int .i64)), .row (l'.sold.map (.int .i64)), .row (l'.bids.map (.int .i64)), .row (l'.holds.flatMap Hold.cs)]) (h.length + 5) 3 0 l'.holds.length = l'.holds.flatMap Hold.cs := fun _ _ => rp_holds rfl rfl
    try simp -implicitDefEqProofs only [Leg.dv, Leg.dvc, Leg.rows, Nat.add_assoc, lenMax, q2, q3, q4, q5, chunk_ints _ _ rfl, chunk_holds _ _ rfl, holds_len, push_cast, Nat.reduceEqDiff, Nat.reduceBEq, Nat.reduceBNe, Nat.reduceAdd, Nat.reduceMul, Nat.reduceLT, Nat.reduceLeDiff, Nat.reduceSub, reduceCtorEq, Int.reduceToNat, ↓reduceIte]
    repeat'
      (first
       | (refine uYes ?_; first | exact List.mem_cons_self | (simp only [List.mem_cons, List.not_mem_nil, or_false, true_or, or_true]; done))
       | (refine uNo (by kernel_rfl))
       | (refine flatMk ?_; kernel_rfl)
       | (refine And.intro ?_ ?_)
       | (intro hx)
       | ((first
           | (refine callGF ?_)
           | (refine callQGF ?_)
           | (refine skipG ?_)
           | (refine callM (e ▸ settledR l n true _ hb) ?_)); simp -implicitDefEqProofs only [Leg.dv, Leg.dvc, Leg.rows, Nat.add_assoc, lenMax, q2, q3, q4, q5, chunk_ints _ _ rfl, chunk_holds _ _ rfl, holds_len, push_cast, Nat.reduceEqDiff, Nat.reduceBEq, Nat.reduceBNe, Nat.reduceAdd, Nat.reduceMul, Nat.reduceLT, Nat.reduceLeDiff, Nat.reduceSub, reduceCtorEq, Int.reduceToNat, ↓reduceIte]))
    all_goals first
      | omega
      | rfl
      | exact ints_cl _ _ _ hx
      | exact holds_cl _ _ _ hx
      | exact ints_c1 _ _ hx
      | exact holds_c1 _ _ hx
      | exact chunk_ints _ _ (by simp)
      | exact flat_holds _ _ hx
      | (obtain ⟨y, _, rfl⟩ := List.mem_map.1 hx; rfl)
      | trace_state
end Go.Proofs.Ytmehbbepppjikaa
