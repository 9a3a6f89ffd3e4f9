/- Contracts of functions of the program (W8). -/
import Derived.Test.YtmehbbepppjikaaW6

namespace Go.Proofs.Ytmehbbepppjikaa
open Go.Av
set_option maxRecDepth 10000
set_option maxHeartbeats 1000000
set_option linter.unusedSimpArgs false
set_option linter.unusedVariables false

theorem fnLegKeep_bad (bs : List Int) (l : Leg) (n : Int) (h : Hp) (hD : ∀ g, Gives Try.prog 42 [.slice (bs.map (.int .u8)) .no] g (.tup [l.d, .int .i64 n])) (hl : legB l = false) : Gives Try.prog 9 [.slice (bs.map (.int .u8)) .no] h (.bool true) := by
  have hI := fun g => implLegKeep_gives l n g
  have hS := fun g => specLegKeep_gives l n g (fun e => by rw [hl] at e; cases e)
  rw [hl] at hI hS
  replace hI : ∀ g, Gives Try.prog 43 [l.d, .int .i64 n] g (Leg.d default) := hI
  replace hS : ∀ g, Gives Try.prog 45 [l.d, .int .i64 n] g (Leg.d default) := hS
  refine meets_of [] mixed Try.func9 rfl (by kernel_rfl) (by kernel_rfl) (by rw [Try.ntmps9]; simp only [List.length_cons, List.length_nil]; omega) (fun hf => ?_)
  rw [Try.results9]
  clear hf
  try simp -implicitDefEqProofs only [← legB_spec, hl, push_cast, Nat.reduceEqDiff, Nat.reduceBEq, Nat.reduceBNe, Nat.reduceAdd, Nat.reduceMul, Nat.reduceLT, Nat.reduceLeDiff, Nat.reduceSub, reduceCtorEq, Int.reduceToNat, ↓reduceIte]
  repeat'
    (first
     | (refine uYes ?_; first | exact List.mem_cons_self | (simp only [List.mem_cons, List.not_mem_nil, or_false, true_or, or_true]; done))
     | (refine uNo (by kernel_rfl))
     | (refine flatMk ?_; kernel_rfl)
     | (refine And.intro ?_ ?_)
     | (intro hx)
     | ((first
         | (refine callGF ?_)
         | (refine callQGF ?_)
         | (refine skipG ?_)
         | (refine callS (hD _) ?_)
         | (refine callQ (hD _) ?_)
         | (refine callG (fun hc => (hD _)) ?_)
         | (refine callQG (fun hc => (hD _)) ?_)
         | (refine callS (hI _) ?_)
         | (refine callQ (hI _) ?_)
         | (refine callG (fun hc => (hI _)) ?_)
         | (refine callQG (fun hc => (hI _)) ?_)
         | (refine callS (hS _) ?_)
         | (refine callQ (hS _) ?_)
         | (refine callG (fun hc => (hS _)) ?_)
         | (refine callQG (fun hc => (hS _)) ?_)
         | (refine callS (wsLeg_gives default _) ?_)
         | (refine callQ (wsLeg_gives default _) ?_)
         | (refine callG (fun hc => (wsLeg_gives default _)) ?_)
         | (refine callQG (fun hc => (wsLeg_gives default _)) ?_)
         | (refine callS (implLegOk_gives l _) ?_)
         | (refine callQ (implLegOk_gives l _) ?_)
         | (refine callG (fun hc => (implLegOk_gives l _)) ?_)
         | (refine callQG (fun hc => (implLegOk_gives l _)) ?_)
         | (refine callS (specLegOk_gives l _) ?_)
         | (refine callQ (specLegOk_gives l _) ?_)
         | (refine callG (fun hc => (specLegOk_gives l _)) ?_)
         | (refine callQG (fun hc => (specLegOk_gives l _)) ?_)); simp -implicitDefEqProofs only [← legB_spec, hl, push_cast, Nat.reduceEqDiff, Nat.reduceBEq, Nat.reduceBNe, Nat.reduceAdd, Nat.reduceMul, Nat.reduceLT, Nat.reduceLeDiff, Nat.reduceSub, reduceCtorEq, Int.reduceToNat, ↓reduceIte]))
  all_goals first
    | omega
    | rfl
    | (cases hx; done)
    | trace_state
theorem fnLegKeep_ok (bs : List Int) (l : Leg) (n : Int) (h : Hp) (hD : ∀ g, Gives Try.prog 42 [.slice (bs.map (.int .u8)) .no] g (.tup [l.d, .int .i64 n])) (hl : legB l = true) : Gives Try.prog 9 [.slice (bs.map (.int .u8)) .no] h (.bool true) := by
  have hp := legP_of hl
  have hI := fun g => implLegKeep_gives l n g
  have hS := fun g => specLegKeep_gives l n g (fun _ ht => hp.cls (thereB_t ht))
  rw [hl] at hI hS
  replace hI : ∀ g, Gives Try.prog 43 [l.d, .int .i64 n] g (keepL l n).d := hI
  replace hS : ∀ g, Gives Try.prog 45 [l.d, .int .i64 n] g (keepL l n).d := hS
  obtain ⟨x1, x2, x3, x4⟩ := keepL_facts hl n
  generalize keepL l n = x at hI hS x1 x2 x3 x4
  have hpx := legP_of x1
  have hn := hp.holds
  have hnx := hpx.holds
  have hls := hp.sold
  have hr := sumK_range (sold_range hpx) (sold_range hp)
  have ra := sold_range hpx
  have rb := sold_range hp
  refine meets_of [] mixed Try.func9 rfl (by kernel_rfl) (by kernel_rfl) (by rw [Try.ntmps9]; simp only [List.length_cons, List.length_nil]; omega) (fun hf => ?_)
  rw [Try.results9]
  clear hf
  try simp -implicitDefEqProofs only [← legB_spec, hl, x1, push_cast, Nat.reduceEqDiff, Nat.reduceBEq, Nat.reduceBNe, Nat.reduceAdd, Nat.reduceMul, Nat.reduceLT, Nat.reduceLeDiff, Nat.reduceSub, reduceCtorEq, Int.reduceToNat, ↓reduceIte]
  repeat'
    (first
     | (refine uYes ?_; first | exact List.mem_cons_self | (simp only [List.mem_cons, List.not_mem_nil, or_false, true_or, or_true]; done))
     | (refine uNo (by kernel_rfl))
     | (refine flatMk ?_; kernel_rfl)
     | (refine And.intro ?_ ?_)
     | (intro hx)
     | ((first
         | (refine callGF ?_)
         | (refine callQGF ?_)
         | (refine skipG ?_)
         | (refine callS (hD _) ?_)
         | (refine callQ (hD _) ?_)
         | (refine callG (fun hc => (hD _)) ?_)
         | (refine callQG (fun hc => (hD _)) ?_)
         | (refine callS (hI _) ?_)
         | (refine callQ (hI _) ?_)
         | (refine callG (fun hc => (hI _)) ?_)
         | (refine callQG (fun hc => (hI _)) ?_)
         | (refine callS (hS _) ?_)
         | (refine callQ (hS _) ?_)
         | (refine callG (fun hc => (hS _)) ?_)
         | (refine callQG (fun hc => (hS _)) ?_)
         | (refine callS (wsLeg_gives x _) ?_)
         | (refine callQ (wsLeg_gives x _) ?_)
         | (refine callG (fun hc => (wsLeg_gives x _)) ?_)
         | (refine callQG (fun hc => (wsLeg_gives x _)) ?_)
         | (refine callS (implLegOk_gives l _) ?_)
         | (refine callQ (implLegOk_gives l _) ?_)
         | (refine callG (fun hc => (implLegOk_gives l _)) ?_)
         | (refine callQG (fun hc => (implLegOk_gives l _)) ?_)
         | (refine callS (specLegOk_gives l _) ?_)
         | (refine callQ (specLegOk_gives l _) ?_)
         | (refine callG (fun hc => (specLegOk_gives l _)) ?_)
         | (refine callQG (fun hc => (specLegOk_gives l _)) ?_)
         | (refine callS (implLegOk_gives x _) ?_)
         | (refine callQ (implLegOk_gives x _) ?_)
         | (refine callG (fun hc => (implLegOk_gives x _)) ?_)
         | (refine callQG (fun hc => (implLegOk_gives x _)) ?_)); simp -implicitDefEqProofs only [← legB_spec, hl, x1, push_cast, Nat.reduceEqDiff, Nat.reduceBEq, Nat.reduceBNe, Nat.reduceAdd, Nat.reduceMul, Nat.reduceLT, Nat.reduceLeDiff, Nat.reduceSub, reduceCtorEq, Int.reduceToNat, ↓reduceIte]))
  all_goals try first
    | omega
    | rfl
    | (cases hx; done)
  refine ev_loop [] (fun k : Nat => [(3, .ptr h.length 0), (4, .int .i64 n), (5, .ptr (h.length + 1) 0), (6, .int .i64 (sumK x.sold l.sold k)), (7, .int .i64 k)])
    (fun _ => [.row l.cs, .row x.cs]) (fun k => k ≤ 3) (fun k => 3 - k) 0 trivial (Nat.zero_le _) ?_ ?_
  · refine ⟨2, by simp, by simp [tokSts], ?_⟩
    simp -implicitDefEqProofs only [sumK, Int.natCast_add, Int.cast_ofNat_Int, List.length_nil, Nat.le_refl, WeakTo, tokSts, tokOks, List.append_cancel_left_eq, exists_eq_left', exists_eq_left, List.append_cancel_left_eq, List.take_length, ObCl, and_true, true_and, push_cast, Nat.reduceEqDiff, Nat.reduceBEq, Nat.reduceBNe, Nat.reduceAdd, Nat.reduceMul, Nat.reduceLT, Nat.reduceLeDiff, Nat.reduceSub, reduceCtorEq, Int.reduceToNat, ↓reduceIte]
    omega
  · intro k hk
    have hw : IntKind.i64.wrap ((k : Int) + 1) = k + 1 := wrap_id (by omega) (by omega)
    have r1 := hr k
    have r2 := ra k
    have r3 := rb k
    have hw1 : IntKind.i64.wrap (sumK x.sold l.sold k + x.sold.getD k 0) = sumK x.sold l.sold k + x.sold.getD k 0 := wrap_id (by omega) (by omega)
    have hw2 : IntKind.i64.wrap (sumK x.sold l.sold k + x.sold.getD k 0 - l.sold.getD k 0) = sumK x.sold l.sold (k + 1) := wrap_id (by omega) (by omega)
    try simp -implicitDefEqProofs only [hw, hw1, hw2, push_cast, Nat.reduceEqDiff, Nat.reduceBEq, Nat.reduceBNe, Nat.reduceAdd, Nat.reduceMul, Nat.reduceLT, Nat.reduceLeDiff, Nat.reduceSub, reduceCtorEq, Int.reduceToNat, ↓reduceIte]
    repeat'
      (first
       | (refine uYes ?_; first | exact List.mem_cons_self | (simp only [List.mem_cons, List.not_mem_nil, or_false, true_or, or_true]; done))
       | (refine uNo (by kernel_rfl))
       | (refine flatMk ?_; kernel_rfl)
       | (refine And.intro ?_ ?_)
       | (intro hx)
       | ((first
           | (refine callGF ?_)
           | (refine callQGF ?_)
           | (refine skipG ?_)
           | (refine callS (in_gives ..) ?_)
           | (refine callQ (in_gives ..) ?_)
           | (refine callG (fun hc => (in_gives ..)) ?_)
           | (refine callQG (fun hc => (in_gives ..)) ?_)); simp -implicitDefEqProofs only [hw, hw1, hw2, push_cast, Nat.reduceEqDiff, Nat.reduceBEq, Nat.reduceBNe, Nat.reduceAdd, Nat.reduceMul, Nat.reduceLT, Nat.reduceLeDiff, Nat.reduceSub, reduceCtorEq, Int.reduceToNat, ↓reduceIte]))
    all_goals try first
      | omega
      | (refine round_mk (k + 1) (by omega) (by omega) ?_
         simp -implicitDefEqProofs only [hw, hw1, hw2, Int.natCast_add, Int.cast_ofNat_Int, List.length_nil, Nat.le_refl, WeakTo, tokSts, tokOks, List.append_cancel_left_eq, exists_eq_left', exists_eq_left, List.append_cancel_left_eq, List.take_length, ObCl, and_true, true_and, push_cast, Nat.reduceEqDiff, Nat.reduceBEq, Nat.reduceBNe, Nat.reduceAdd, Nat.reduceMul, Nat.reduceLT, Nat.reduceLeDiff, Nat.reduceSub, reduceCtorEq, Int.reduceToNat, ↓reduceIte]
         omega)
    obtain rfl : k = 3 := by omega
    refine ev_loop [] (fun j : Nat => [(3, .ptr h.length 0), (4, .int .i64 n), (5, .ptr (h.length + 1) 0), (6, .int .i64 (sumK x.sold l.sold 3)), (8, .int .i64 (heldK l n j)), (9, .int .i64 j)])
      (fun _ => [.row l.cs, .row x.cs]) (fun j => j ≤ l.holds.length) (fun j => l.holds.length - j) 0 trivial (Nat.zero_le _) ?_ ?_
    · refine ⟨2, by simp, by simp [tokSts], ?_⟩
      simp -implicitDefEqProofs only [heldK, Int.natCast_add, Int.cast_ofNat_Int, List.length_nil, Nat.le_refl, WeakTo, tokSts, tokOks, List.append_cancel_left_eq, exists_eq_left', exists_eq_left, List.append_cancel_left_eq, List.take_length, ObCl, and_true, true_and, push_cast, Nat.reduceEqDiff, Nat.reduceBEq, Nat.reduceBNe, Nat.reduceAdd, Nat.reduceMul, Nat.reduceLT, Nat.reduceLeDiff, Nat.reduceSub, reduceCtorEq, Int.reduceToNat, ↓reduceIte]
      omega
    · intro j hj
      have hv : IntKind.i64.wrap ((j : Int) + 1) = j + 1 := wrap_id (by omega) (by omega)
      try simp -implicitDefEqProofs only [hv, push_cast, Nat.reduceEqDiff, Nat.reduceBEq, Nat.reduceBNe, Nat.reduceAdd, Nat.reduceMul, Nat.reduceLT, Nat.reduceLeDiff, Nat.reduceSub, reduceCtorEq, Int.reduceToNat, ↓reduceIte]
      repeat'
        (first
         | (refine uYes ?_; first | exact List.mem_cons_self | (simp only [List.mem_cons, List.not_mem_nil, or_false, true_or, or_true]; done))
         | (refine uNo (by kernel_rfl))
         | (refine flatMk ?_; kernel_rfl)
         | (refine And.intro ?_ ?_)
         | (intro hx)
         | ((first
             | (refine callGF ?_)
             | (refine callQGF ?_)
             | (refine skipG ?_)
             | (refine callS (in_gives ..) ?_)
             | (refine callQ (in_gives ..) ?_)
             | (refine callG (fun hc => (in_gives ..)) ?_)
             | (refine callQG (fun hc => (in_gives ..)) ?_)); simp -implicitDefEqProofs only [hv, push_cast, Nat.reduceEqDiff, Nat.reduceBEq, Nat.reduceBNe, Nat.reduceAdd, Nat.reduceMul, Nat.reduceLT, Nat.reduceLeDiff, Nat.reduceSub, reduceCtorEq, Int.reduceToNat, ↓reduceIte]))
      all_goals try first
        | omega
        | (refine round_mk (j + 1) (by omega) (by omega) ?_
           simp -implicitDefEqProofs only [hv, heldK, hx, if_true, if_false, Int.natCast_add, Int.cast_ofNat_Int, List.length_nil, Nat.le_refl, WeakTo, tokSts, tokOks, List.append_cancel_left_eq, exists_eq_left', exists_eq_left, List.append_cancel_left_eq, List.take_length, ObCl, and_true, true_and, push_cast, Nat.reduceEqDiff, Nat.reduceBEq, Nat.reduceBNe, Nat.reduceAdd, Nat.reduceMul, Nat.reduceLT, Nat.reduceLeDiff, Nat.reduceSub, reduceCtorEq, Int.reduceToNat, ↓reduceIte]
           omega)
      obtain rfl : j = l.holds.length := by omega
      refine ev_loop [] (fun m : Nat => [(3, .ptr h.length 0), (4, .int .i64 n), (5, .ptr (h.length + 1) 0), (6, .int .i64 (sumK x.sold l.sold 3)), (8, .int .i64 (heldK l n l.holds.length)), (10, .int .i64 m)])
        (fun _ => [.row l.cs, .row x.cs]) (fun m => m ≤ x.holds.length) (fun m => x.holds.length - m) 0 trivial (Nat.zero_le _) ?_ ?_
      · refine ⟨2, by simp, by simp [tokSts], ?_⟩
        simp -implicitDefEqProofs only [Int.natCast_add, Int.cast_ofNat_Int, List.length_nil, Nat.le_refl, WeakTo, tokSts, tokOks, List.append_cancel_left_eq, exists_eq_left', exists_eq_left, List.append_cancel_left_eq, List.take_length, ObCl, and_true, true_and, push_cast, Nat.reduceEqDiff, Nat.reduceBEq, Nat.reduceBNe, Nat.reduceAdd, Nat.reduceMul, Nat.reduceLT, Nat.reduceLeDiff, Nat.reduceSub, reduceCtorEq, Int.reduceToNat, ↓reduceIte]
        omega
      · intro m hm
        have hu : IntKind.i64.wrap ((m : Int) + 1) = m + 1 := wrap_id (by omega) (by omega)
        try simp -implicitDefEqProofs only [hu, x1, x3, push_cast, Nat.reduceEqDiff, Nat.reduceBEq, Nat.reduceBNe, Nat.reduceAdd, Nat.reduceMul, Nat.reduceLT, Nat.reduceLeDiff, Nat.reduceSub, reduceCtorEq, Int.reduceToNat, ↓reduceIte]
        repeat'
          (first
           | (refine uYes ?_; first | exact List.mem_cons_self | (simp only [List.mem_cons, List.not_mem_nil, or_false, true_or, or_true]; done))
           | (refine uNo (by kernel_rfl))
           | (refine flatMk ?_; kernel_rfl)
           | (refine And.intro ?_ ?_)
           | (intro hx)
           | ((first
               | (refine callGF ?_)
               | (refine callQGF ?_)
               | (refine skipG ?_)
               | (refine callS (implLegOk_gives x _) ?_)
               | (refine callQ (implLegOk_gives x _) ?_)
               | (refine callG (fun hc => (implLegOk_gives x _)) ?_)
               | (refine callQG (fun hc => (implLegOk_gives x _)) ?_)); simp -implicitDefEqProofs only [hu, x1, x3, push_cast, Nat.reduceEqDiff, Nat.reduceBEq, Nat.reduceBNe, Nat.reduceAdd, Nat.reduceMul, Nat.reduceLT, Nat.reduceLeDiff, Nat.reduceSub, reduceCtorEq, Int.reduceToNat, ↓reduceIte]))
        all_goals first
          | omega
          | (refine round_mk (m + 1) (by omega) (by omega) ?_
             simp -implicitDefEqProofs only [hu, Int.natCast_add, Int.cast_ofNat_Int, List.length_nil, Nat.le_refl, WeakTo, tokSts, tokOks, List.append_cancel_left_eq, exists_eq_left', exists_eq_left, List.append_cancel_left_eq, List.take_length, ObCl, and_true, true_and, push_cast, Nat.reduceEqDiff, Nat.reduceBEq, Nat.reduceBNe, Nat.reduceAdd, Nat.reduceMul, Nat.reduceLT, Nat.reduceLeDiff, Nat.reduceSub, reduceCtorEq, Int.reduceToNat, ↓reduceIte]
             omega)
          | exact absurd hx (x4 m (by omega))
          | trace_state
theorem fnLegKeep_gives (bs : List Int) (h : Hp) (hb : ∀ x, x ∈ bs → 0 ≤ x ∧ x ≤ 255) : Gives Try.prog 9 [.slice (bs.map (.int .u8)) .no] h (.bool true) := by
  have hD := fun g => drawLegKeep_gives bs g hb
  cases hl : legB (keepD bs).1 with
  | false => exact fnLegKeep_bad bs _ _ h hD hl
  | true => exact fnLegKeep_ok bs _ _ h hD hl
end Go.Proofs.Ytmehbbepppjikaa
