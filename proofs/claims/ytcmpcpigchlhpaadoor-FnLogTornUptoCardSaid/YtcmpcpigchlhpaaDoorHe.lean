/- SHA-256: the reference's words and constants. -/
import Derived.Test.YtcmpcpigchlhpaaDoorHd

namespace Go.Proofs.YtcmpcpigchlhpaaDoor
set_option linter.unusedSectionVars false
open Go.Av
variable [Av.Start] [TabSha]
set_option maxRecDepth 10000
set_option maxHeartbeats 2000000
set_option linter.unusedSimpArgs false
set_option linter.unusedVariables false

set_option maxRecDepth 100000 in
set_option maxHeartbeats 8000000 in
theorem specConsts_gives (h : Hp) : Gives Tryd.prog 88 [] h (.slice (wdD cubesL) .full) := by
  refine meets_of [] mixed Tryd.func88 rfl (by kernel_rfl) (by kernel_rfl) (by rw [Tryd.ntmps88]; simp only [List.length_cons, List.length_nil]; omega) (fun hf => ?_)
  rw [Tryd.results88]
  clear hf
  try simp -implicitDefEqProofs only [push_cast, Nat.reduceEqDiff, Nat.reduceBEq, Nat.reduceBNe, Nat.reduceAdd, Nat.reduceMul, Nat.reduceLT, Nat.reduceLeDiff, Nat.reduceSub, reduceCtorEq, Int.reduceToNat, ↓reduceIte]
  repeat'
    (first
     | (refine uYes ?_; first | exact List.mem_cons_self | (simp only [List.mem_cons, List.not_mem_nil, or_false, true_or, or_true]; done))
     | (refine uNo (by kernel_rfl))
     | (refine flatMk ?_; kernel_rfl)
     | (refine And.intro ?_ ?_)
     | (intro hx)
     | ((first
         | (refine callGF ?_)
         | (refine callQGF ?_)
         | (refine skipG ?_)
         | (refine callS (in_gives _ _ _ _) ?_)
         | (refine callQ (in_gives _ _ _ _) ?_)
         | (refine callG (fun hc => (in_gives _ _ _ _)) ?_)
         | (refine callQG (fun hc => (in_gives _ _ _ _)) ?_)); simp -implicitDefEqProofs only [push_cast, Nat.reduceEqDiff, Nat.reduceBEq, Nat.reduceBNe, Nat.reduceAdd, Nat.reduceMul, Nat.reduceLT, Nat.reduceLeDiff, Nat.reduceSub, reduceCtorEq, Int.reduceToNat, ↓reduceIte]))
  all_goals first
    | omega
    | (simp only [lenMax]; omega)
    | rfl
    | trace_state
end Go.Proofs.YtcmpcpigchlhpaaDoor

/- SHA-256: the reference's block. -/
namespace Go.Proofs.YtcmpcpigchlhpaaDoor
set_option linter.unusedSectionVars false
open Go.Av
variable [Av.Start] [TabSha]
set_option maxRecDepth 10000
set_option maxHeartbeats 1000000
set_option linter.unusedSimpArgs false
set_option linter.unusedVariables false

theorem u32_assoc (a b c : Int) : u32 (u32 (a + b) + c) = u32 (a + u32 (b + c)) := by
  show ((a + b) % 4294967296 + c) % 4294967296 = (a + (b + c) % 4294967296) % 4294967296
  omega
/-- a sum of which all behind place n have moved on by one -/
def shL (v : S8) (n : Nat) : List Int := v.l.take (n + 1) ++ (v.l.take 7).drop n
theorem shL_len (v : S8) {n : Nat} (hn : n ≤ 7) : (shL v n).length = 8 := by
  have : n = 0 ∨ n = 1 ∨ n = 2 ∨ n = 3 ∨ n = 4 ∨ n = 5 ∨ n = 6 ∨ n = 7 := by omega
  rcases this with rfl | rfl | rfl | rfl | rfl | rfl | rfl | rfl <;> rfl
theorem shL_get (v : S8) {n : Nat} (hn : 1 ≤ n ∧ n ≤ 7) : (shL v n).getD (n - 1) 0 = v.l.getD (n - 1) 0 := by
  have : n = 1 ∨ n = 2 ∨ n = 3 ∨ n = 4 ∨ n = 5 ∨ n = 6 ∨ n = 7 := by omega
  rcases this with rfl | rfl | rfl | rfl | rfl | rfl | rfl <;> rfl
theorem shL_step (v : S8) {n : Nat} (hn : 1 ≤ n ∧ n ≤ 7) : (shL v n).take n ++ v.l.getD (n - 1) 0 :: (shL v n).drop (n + 1) = shL v (n - 1) := by
  have : n = 1 ∨ n = 2 ∨ n = 3 ∨ n = 4 ∨ n = 5 ∨ n = 6 ∨ n = 7 := by omega
  rcases this with rfl | rfl | rfl | rfl | rfl | rfl | rfl <;> rfl
theorem add8_step (s v : S8) {i : Nat} (hi : i < 8) : (add8 s v).l.take (i + 1) = (add8 s v).l.take i ++ [u32 (s.l.getD i 0 + v.l.getD i 0)] := by
  have : i = 0 ∨ i = 1 ∨ i = 2 ∨ i = 3 ∨ i = 4 ∨ i = 5 ∨ i = 6 ∨ i = 7 := by omega
  rcases this with rfl | rfl | rfl | rfl | rfl | rfl | rfl | rfl <;> rfl
theorem l_at (v : S8) : wdD v.l = [.int .u32 v.a, .int .u32 v.b, .int .u32 v.c, .int .u32 v.d, .int .u32 v.e, .int .u32 v.f, .int .u32 v.g, .int .u32 v.h] := rfl
theorem wdD_cl (A : List Int) (m : Nat) : ∀ d, d ∈ wdD A → Cl m d := ints32_cl A m
theorem wdD_c1 (A : List Int) : ∀ d, d ∈ wdD A → cell1 d := fun d hd => by
  obtain ⟨x, _, rfl⟩ := List.mem_map.1 hd
  trivial
theorem specBlock_gives (s : S8) (bs : List UInt8) (h : Hp) (hb : bs.length = 64) : Gives Tryd.prog 72 [.slice (wdD s.l) .no, .slice (byD bs) .no] h (.slice (wdD (blockV s bs).l) .no) := by
  have hWg := fun g => specWords_gives bs g hb
  have hW := schedV_len (wordsV bs 16) 48
  rw [wordsV_len] at hW
  rw [blockV]
  generalize schedV (wordsV bs 16) 48 = W at hWg hW
  have hWz := wdD_sz W
  have hCz := wdD_sz cubesL
  have hWl := wdD_len W
  have hCl : (wdD cubesL).length = 64 := rfl
  have hsz := wdD_sz s.l
  have hsf := wdD_flat s.l
  have hsl : (wdD s.l).length = 8 := rfl
  refine meets_of [22] mixed Tryd.func72 rfl (by kernel_rfl) (by kernel_rfl) (by rw [Tryd.ntmps72]; simp only [List.length_cons, List.length_nil]; omega) (fun hf => ?_)
  rw [Tryd.results72]
  clear hf
  try simp -implicitDefEqProofs only [hsz, hsf, hsl, push_cast, Nat.reduceEqDiff, Nat.reduceBEq, Nat.reduceBNe, Nat.reduceAdd, Nat.reduceMul, Nat.reduceLT, Nat.reduceLeDiff, Nat.reduceSub, reduceCtorEq, Int.reduceToNat, ↓reduceIte]
  repeat'
    (first
     | (refine uYes ?_; first | exact List.mem_cons_self | (simp only [List.mem_cons, List.not_mem_nil, or_false, true_or, or_true]; done))
     | (refine uNo (by kernel_rfl))
     | (refine flatMk ?_; kernel_rfl)
     | (refine And.intro ?_ ?_)
     | (intro hx)
     | ((first
         | (refine callGF ?_)
         | (refine callQGF ?_)
         | (refine skipG ?_)
         | (refine callS (hWg _) ?_)
         | (refine callQ (hWg _) ?_)
         | (refine callG (fun hc => (hWg _)) ?_)
         | (refine callQG (fun hc => (hWg _)) ?_)
         | (refine callS (specConsts_gives _) ?_)
         | (refine callQ (specConsts_gives _) ?_)
         | (refine callG (fun hc => (specConsts_gives _)) ?_)
         | (refine callQG (fun hc => (specConsts_gives _)) ?_)); simp -implicitDefEqProofs only [hsz, hsf, hsl, push_cast, Nat.reduceEqDiff, Nat.reduceBEq, Nat.reduceBNe, Nat.reduceAdd, Nat.reduceMul, Nat.reduceLT, Nat.reduceLeDiff, Nat.reduceSub, reduceCtorEq, Int.reduceToNat, ↓reduceIte]))
  all_goals try first
    | omega
    | (simp only [lenMax]; omega)
    | exact wdD_c1 _ _ hx
  refine ev_loop [] (fun i : Nat => [(0, .slice (wdD s.l) .no), (5, .slice (wdD W) .no), (6, .slice (wdD cubesL) .full), (7, .vec h.length false 1 0 8 8), (8, .int .i64 i)])
    (fun i => [.row (wdD (rndsV s W i).l)]) (fun i => i ≤ 64) (fun i => 64 - i) 0 trivial (Nat.zero_le _) ?_ ?_
  · refine ⟨1, by simp, by simp [tokSts], ?_⟩
    simp -implicitDefEqProofs only [Int.natCast_add, Int.cast_ofNat_Int, List.length_nil, Nat.le_refl, WeakTo, tokSts, tokOks, List.append_cancel_left_eq, exists_eq_left', exists_eq_left, List.append_cancel_left_eq, List.take_length, ObCl, and_true, true_and, push_cast, Nat.reduceEqDiff, Nat.reduceBEq, Nat.reduceBNe, Nat.reduceAdd, Nat.reduceMul, Nat.reduceLT, Nat.reduceLeDiff, Nat.reduceSub, reduceCtorEq, Int.reduceToNat, ↓reduceIte]
    repeat' apply And.intro
    all_goals first
      | omega
      | exact wdD_cl _ _
      | rfl
      | trace_state
  · intro i hi
    have w4 : IntKind.i64.wrap ((i : Int) + 1) = i + 1 := wrap_id (by omega) (by omega)
    by_cases hlt : i < 64
    · have hv1 : rndsV s W (i + 1) = rnd (rndsV s W i) (cubesL.getD i 0) (W.getD i 0) := rfl
      generalize rndsV s W i = v at hv1
      have hwg := wdD_get (ws := W) (k := i) (by omega)
      have hcg := wdD_get (ws := cubesL) (k := i) hlt
      have hmx : IntKind.u32.max = 4294967295 := rfl
      try simp -implicitDefEqProofs only [l_at, hwg, hcg, hCl, hWl, hW, hWz, hCz, hmx, w4, IntKind.signed, IntKind.bits, push_cast, Nat.reduceEqDiff, Nat.reduceBEq, Nat.reduceBNe, Nat.reduceAdd, Nat.reduceMul, Nat.reduceLT, Nat.reduceLeDiff, Nat.reduceSub, reduceCtorEq, Int.reduceToNat, ↓reduceIte]
      repeat'
        (first
         | (refine uYes ?_; first | exact List.mem_cons_self | (simp only [List.mem_cons, List.not_mem_nil, or_false, true_or, or_true]; done))
         | (refine uNo (by kernel_rfl))
         | (refine flatMk ?_; kernel_rfl)
         | (refine And.intro ?_ ?_)
         | (intro hx)
         | ((first
             | (refine callGF ?_)
             | (refine callQGF ?_)
             | (refine skipG ?_)
             | (refine callS (specTurn_gives v.e 6 _ (by omega)) ?_)
             | (refine callQ (specTurn_gives v.e 6 _ (by omega)) ?_)
             | (refine callG (fun hc => (specTurn_gives v.e 6 _ (by omega))) ?_)
             | (refine callQG (fun hc => (specTurn_gives v.e 6 _ (by omega))) ?_)
             | (refine callS (specTurn_gives v.e 11 _ (by omega)) ?_)
             | (refine callQ (specTurn_gives v.e 11 _ (by omega)) ?_)
             | (refine callG (fun hc => (specTurn_gives v.e 11 _ (by omega))) ?_)
             | (refine callQG (fun hc => (specTurn_gives v.e 11 _ (by omega))) ?_)
             | (refine callS (specTurn_gives v.e 25 _ (by omega)) ?_)
             | (refine callQ (specTurn_gives v.e 25 _ (by omega)) ?_)
             | (refine callG (fun hc => (specTurn_gives v.e 25 _ (by omega))) ?_)
             | (refine callQG (fun hc => (specTurn_gives v.e 25 _ (by omega))) ?_)
             | (refine callS (specTurn_gives v.a 2 _ (by omega)) ?_)
             | (refine callQ (specTurn_gives v.a 2 _ (by omega)) ?_)
             | (refine callG (fun hc => (specTurn_gives v.a 2 _ (by omega))) ?_)
             | (refine callQG (fun hc => (specTurn_gives v.a 2 _ (by omega))) ?_)
             | (refine callS (specTurn_gives v.a 13 _ (by omega)) ?_)
             | (refine callQ (specTurn_gives v.a 13 _ (by omega)) ?_)
             | (refine callG (fun hc => (specTurn_gives v.a 13 _ (by omega))) ?_)
             | (refine callQG (fun hc => (specTurn_gives v.a 13 _ (by omega))) ?_)
             | (refine callS (specTurn_gives v.a 22 _ (by omega)) ?_)
             | (refine callQ (specTurn_gives v.a 22 _ (by omega)) ?_)
             | (refine callG (fun hc => (specTurn_gives v.a 22 _ (by omega))) ?_)
             | (refine callQG (fun hc => (specTurn_gives v.a 22 _ (by omega))) ?_)); simp -implicitDefEqProofs only [l_at, hwg, hcg, hCl, hWl, hW, hWz, hCz, hmx, w4, IntKind.signed, IntKind.bits, push_cast, Nat.reduceEqDiff, Nat.reduceBEq, Nat.reduceBNe, Nat.reduceAdd, Nat.reduceMul, Nat.reduceLT, Nat.reduceLeDiff, Nat.reduceSub, reduceCtorEq, Int.reduceToNat, ↓reduceIte]))
      all_goals try first
        | omega
        | (simp only [lenMax]; omega)
      generalize hT : oneV v (cubesL.getD i 0) (W.getD i 0) = t at hv1
      refine ev_loop [] (fun n : Nat => [(0, .slice (wdD s.l) .no), (5, .slice (wdD W) .no), (6, .slice (wdD cubesL) .full), (7, .vec h.length false 1 0 8 8), (8, .int .i64 i), (11, .int .u32 t), (12, .int .u32 (bigA v.a)), (13, .int .u32 (majV v.a v.b v.c)), (14, .int .i64 n)])
        (fun n => [.row (wdD (shL v n))]) (fun n => n ≤ 7) (fun n => n) 7 trivial (Nat.le_refl _) ?_ ?_
      · refine ⟨1, by simp, by simp [tokSts], ?_⟩
        simp -implicitDefEqProofs only [Int.natCast_add, Int.cast_ofNat_Int, List.length_nil, Nat.le_refl, WeakTo, tokSts, tokOks, List.append_cancel_left_eq, exists_eq_left', exists_eq_left, List.append_cancel_left_eq, List.take_length, ObCl, and_true, true_and, push_cast, Nat.reduceEqDiff, Nat.reduceBEq, Nat.reduceBNe, Nat.reduceAdd, Nat.reduceMul, Nat.reduceLT, Nat.reduceLeDiff, Nat.reduceSub, reduceCtorEq, Int.reduceToNat, ↓reduceIte]
        repeat' apply And.intro
        all_goals first
          | omega
          | exact wdD_cl _ _
          | rfl
          | (rw [← hT]; rfl)
          | trace_state
      · intro n hn
        have w5 : IntKind.i64.wrap ((n : Int) - 1) = n - 1 := wrap_id (by omega) (by omega)
        by_cases hn0 : 0 < n
        · have hsl := shL_len v hn
          have hsd : (wdD (shL v n)).length = 8 := by rw [wdD_len, hsl]
          have h1 : ((wdD (shL v n)).drop (n - 1)).headD .junk = .int .u32 (v.l.getD (n - 1) 0) := by rw [wdD, ← List.map_drop, ints32_head (by omega), shL_get v ⟨hn0, hn⟩]
          have h3 : (wdD (shL v n)).take n ++ D.int .u32 (v.l.getD (n - 1) 0) :: (wdD (shL v n)).drop (n + 1) = wdD (shL v (n - 1)) := by
            rw [← shL_step v ⟨hn0, hn⟩, wdD, wdD, List.map_append, List.map_cons, List.map_take, List.map_drop]
          have t5 : ((n : Int) - 1).toNat = n - 1 := by omega
          have c5 : ((n - 1 : Nat) : Int) = n - 1 := by omega
          try simp -implicitDefEqProofs only [hsd, h1, h3, w5, t5, IntKind.signed, IntKind.bits, push_cast, Nat.reduceEqDiff, Nat.reduceBEq, Nat.reduceBNe, Nat.reduceAdd, Nat.reduceMul, Nat.reduceLT, Nat.reduceLeDiff, Nat.reduceSub, reduceCtorEq, Int.reduceToNat, ↓reduceIte]
          repeat'
            (first
             | (refine uYes ?_; first | exact List.mem_cons_self | (simp only [List.mem_cons, List.not_mem_nil, or_false, true_or, or_true]; done))
             | (refine uNo (by kernel_rfl))
             | (refine flatMk ?_; kernel_rfl)
             | (refine And.intro ?_ ?_)
             | (intro hx)
             | ((first
                 | (refine callGF ?_)
                 | (refine callQGF ?_)
                 | (refine skipG ?_)
                 | (refine callS (in_gives _ _ _ _) ?_)
                 | (refine callQ (in_gives _ _ _ _) ?_)
                 | (refine callG (fun hc => (in_gives _ _ _ _)) ?_)
                 | (refine callQG (fun hc => (in_gives _ _ _ _)) ?_)); simp -implicitDefEqProofs only [hsd, h1, h3, w5, t5, IntKind.signed, IntKind.bits, push_cast, Nat.reduceEqDiff, Nat.reduceBEq, Nat.reduceBNe, Nat.reduceAdd, Nat.reduceMul, Nat.reduceLT, Nat.reduceLeDiff, Nat.reduceSub, reduceCtorEq, Int.reduceToNat, ↓reduceIte]))
          all_goals first
            | omega
            | (refine round_mk (n - 1) (by omega) (by omega) ?_
               simp -implicitDefEqProofs only [w5, h3, c5, Int.natCast_add, Int.cast_ofNat_Int, List.length_nil, Nat.le_refl, WeakTo, tokSts, tokOks, List.append_cancel_left_eq, exists_eq_left', exists_eq_left, List.append_cancel_left_eq, List.take_length, ObCl, and_true, true_and, push_cast, Nat.reduceEqDiff, Nat.reduceBEq, Nat.reduceBNe, Nat.reduceAdd, Nat.reduceMul, Nat.reduceLT, Nat.reduceLeDiff, Nat.reduceSub, reduceCtorEq, Int.reduceToNat, ↓reduceIte]
               repeat' apply And.intro
               all_goals first
                 | omega
                 | exact wdD_cl _ _
                 | rfl
                 | trace_state)
            | trace_state
        · obtain rfl : n = 0 := by omega
          have e0 : wdD (shL v 0) = [.int .u32 v.a, .int .u32 v.a, .int .u32 v.b, .int .u32 v.c, .int .u32 v.d, .int .u32 v.e, .int .u32 v.f, .int .u32 v.g] := rfl
          try simp -implicitDefEqProofs only [e0, w4, w5, IntKind.signed, IntKind.bits, push_cast, Nat.reduceEqDiff, Nat.reduceBEq, Nat.reduceBNe, Nat.reduceAdd, Nat.reduceMul, Nat.reduceLT, Nat.reduceLeDiff, Nat.reduceSub, reduceCtorEq, Int.reduceToNat, ↓reduceIte]
          repeat'
            (first
             | (refine uYes ?_; first | exact List.mem_cons_self | (simp only [List.mem_cons, List.not_mem_nil, or_false, true_or, or_true]; done))
             | (refine uNo (by kernel_rfl))
             | (refine flatMk ?_; kernel_rfl)
             | (refine And.intro ?_ ?_)
             | (intro hx)
             | ((first
                 | (refine callGF ?_)
                 | (refine callQGF ?_)
                 | (refine skipG ?_)
                 | (refine callS (in_gives _ _ _ _) ?_)
                 | (refine callQ (in_gives _ _ _ _) ?_)
                 | (refine callG (fun hc => (in_gives _ _ _ _)) ?_)
                 | (refine callQG (fun hc => (in_gives _ _ _ _)) ?_)); simp -implicitDefEqProofs only [e0, w4, w5, IntKind.signed, IntKind.bits, push_cast, Nat.reduceEqDiff, Nat.reduceBEq, Nat.reduceBNe, Nat.reduceAdd, Nat.reduceMul, Nat.reduceLT, Nat.reduceLeDiff, Nat.reduceSub, reduceCtorEq, Int.reduceToNat, ↓reduceIte]))
          all_goals first
            | omega
            | skip
          refine round_mk (i + 1) (by omega) (by omega) ?_
          have hl1 : (rnd v (cubesL.getD i 0) (W.getD i 0)).l = [u32 (u32 (t + bigA v.a) + majV v.a v.b v.c), v.a, v.b, v.c, u32 (v.d + t), v.e, v.f, v.g] := by
            rw [u32_assoc, ← hT]
            rfl
          simp -implicitDefEqProofs only [w4, hv1, hl1, Int.natCast_add, Int.cast_ofNat_Int, List.length_nil, Nat.le_refl, WeakTo, tokSts, tokOks, List.append_cancel_left_eq, exists_eq_left', exists_eq_left, List.append_cancel_left_eq, List.take_length, ObCl, and_true, true_and, push_cast, Nat.reduceEqDiff, Nat.reduceBEq, Nat.reduceBNe, Nat.reduceAdd, Nat.reduceMul, Nat.reduceLT, Nat.reduceLeDiff, Nat.reduceSub, reduceCtorEq, Int.reduceToNat, ↓reduceIte]
          repeat' apply And.intro
          all_goals first
            | omega
            | exact congrArg (fun l => [Ob.row (wdD l)]) hl1.symm
            | exact wdD_cl _ _
            | rfl
            | trace_state
    · obtain rfl : i = 64 := by omega
      generalize rndsV s W 64 = v
      try simp -implicitDefEqProofs only [push_cast, Nat.reduceEqDiff, Nat.reduceBEq, Nat.reduceBNe, Nat.reduceAdd, Nat.reduceMul, Nat.reduceLT, Nat.reduceLeDiff, Nat.reduceSub, reduceCtorEq, Int.reduceToNat, ↓reduceIte]
      repeat'
        (first
         | (refine uYes ?_; first | exact List.mem_cons_self | (simp only [List.mem_cons, List.not_mem_nil, or_false, true_or, or_true]; done))
         | (refine uNo (by kernel_rfl))
         | (refine flatMk ?_; kernel_rfl)
         | (refine And.intro ?_ ?_)
         | (intro hx)
         | ((first
             | (refine callGF ?_)
             | (refine callQGF ?_)
             | (refine skipG ?_)
             | (refine callS (in_gives _ _ _ _) ?_)
             | (refine callQ (in_gives _ _ _ _) ?_)
             | (refine callG (fun hc => (in_gives _ _ _ _)) ?_)
             | (refine callQG (fun hc => (in_gives _ _ _ _)) ?_)); simp -implicitDefEqProofs only [push_cast, Nat.reduceEqDiff, Nat.reduceBEq, Nat.reduceBNe, Nat.reduceAdd, Nat.reduceMul, Nat.reduceLT, Nat.reduceLeDiff, Nat.reduceSub, reduceCtorEq, Int.reduceToNat, ↓reduceIte]))
      all_goals try omega
      refine ev_loop [(15, 1)] (fun i : Nat => [(0, .slice (wdD s.l) .no), (7, .vec h.length false 1 0 8 8), (15, .slice (wdD ((add8 s v).l.take i)) (.buf (h.length + 1) 1)), (16, .int .i64 i)])
        (fun i => [.row (wdD v.l), .buf i]) (fun i => i ≤ 8) (fun i => 8 - i) 0 ?_ (Nat.zero_le _) ?_ ?_
      · simp -implicitDefEqProofs only [tokOk, Int.natCast_add, Int.cast_ofNat_Int, List.length_nil, Nat.le_refl, WeakTo, tokSts, tokOks, List.append_cancel_left_eq, exists_eq_left', exists_eq_left, List.append_cancel_left_eq, List.take_length, ObCl, and_true, true_and, push_cast, Nat.reduceEqDiff, Nat.reduceBEq, Nat.reduceBNe, Nat.reduceAdd, Nat.reduceMul, Nat.reduceLT, Nat.reduceLeDiff, Nat.reduceSub, reduceCtorEq, Int.reduceToNat, ↓reduceIte]
      · refine ⟨2, by simp, by simp -implicitDefEqProofs only [tokSts, tokSt, Int.natCast_add, Int.cast_ofNat_Int, List.length_nil, Nat.le_refl, WeakTo, tokSts, tokOks, List.append_cancel_left_eq, exists_eq_left', exists_eq_left, List.append_cancel_left_eq, List.take_length, ObCl, and_true, true_and, push_cast, Nat.reduceEqDiff, Nat.reduceBEq, Nat.reduceBNe, Nat.reduceAdd, Nat.reduceMul, Nat.reduceLT, Nat.reduceLeDiff, Nat.reduceSub, reduceCtorEq, Int.reduceToNat, ↓reduceIte], ?_⟩
        simp -implicitDefEqProofs only [tokSt, Int.natCast_add, Int.cast_ofNat_Int, List.length_nil, Nat.le_refl, WeakTo, tokSts, tokOks, List.append_cancel_left_eq, exists_eq_left', exists_eq_left, List.append_cancel_left_eq, List.take_length, ObCl, and_true, true_and, push_cast, Nat.reduceEqDiff, Nat.reduceBEq, Nat.reduceBNe, Nat.reduceAdd, Nat.reduceMul, Nat.reduceLT, Nat.reduceLeDiff, Nat.reduceSub, reduceCtorEq, Int.reduceToNat, ↓reduceIte]
        repeat' apply And.intro
        all_goals first
          | omega
          | exact wdD_cl _ _
          | rfl
          | trace_state
      · intro i hi
        have w4 : IntKind.i64.wrap ((i : Int) + 1) = i + 1 := wrap_id (by omega) (by omega)
        have hol : ((add8 s v).l.take i).length = i := by rw [List.length_take]; have : (add8 s v).l.length = 8 := rfl; omega
        have hod : (wdD ((add8 s v).l.take i)).length = i := by rw [wdD_len, hol]
        have hoz := wdD_sz ((add8 s v).l.take i)
        have hof := wdD_flat ((add8 s v).l.take i)
        by_cases hlt : i < 8
        · have hvl : (wdD v.l).length = 8 := rfl
          have hg1 := wdD_get (ws := s.l) (k := i) (show i < 8 from hlt)
          have h2 : ((wdD v.l).drop i).headD .junk = .int .u32 (v.l.getD i 0) := by rw [wdD, ← List.map_drop]; exact ints32_head (show i < 8 from hlt)
          have h3 : wdD ((add8 s v).l.take (i + 1)) = wdD ((add8 s v).l.take i) ++ [D.int .u32 (IntKind.u32.wrap (s.l.getD i 0 + v.l.getD i 0))] := by
            rw [add8_step s v hlt, ← wdD_snoc]
          try simp -implicitDefEqProofs only [hod, hoz, hof, hvl, hg1, h2, hsz, hsl, w4, IntKind.signed, IntKind.bits, push_cast, Nat.reduceEqDiff, Nat.reduceBEq, Nat.reduceBNe, Nat.reduceAdd, Nat.reduceMul, Nat.reduceLT, Nat.reduceLeDiff, Nat.reduceSub, reduceCtorEq, Int.reduceToNat, ↓reduceIte]
          repeat'
            (first
             | (refine uYes ?_; first | exact List.mem_cons_self | (simp only [List.mem_cons, List.not_mem_nil, or_false, true_or, or_true]; done))
             | (refine uNo (by kernel_rfl))
             | (refine flatMk ?_; kernel_rfl)
             | (refine And.intro ?_ ?_)
             | (intro hx)
             | ((first
                 | (refine callGF ?_)
                 | (refine callQGF ?_)
                 | (refine skipG ?_)
                 | (refine inX_mk [h.length + 1] (by kernel_rfl) (by simp) ?_)); simp -implicitDefEqProofs only [hod, hoz, hof, hvl, hg1, h2, hsz, hsl, w4, IntKind.signed, IntKind.bits, push_cast, Nat.reduceEqDiff, Nat.reduceBEq, Nat.reduceBNe, Nat.reduceAdd, Nat.reduceMul, Nat.reduceLT, Nat.reduceLeDiff, Nat.reduceSub, reduceCtorEq, Int.reduceToNat, ↓reduceIte]))
          all_goals first
            | omega
            | (simp only [lenMax]; omega)
            | (refine round_mk (i + 1) (by omega) (by omega) ?_
               simp -implicitDefEqProofs only [w4, h3, hod, Int.natCast_add, Int.cast_ofNat_Int, List.length_nil, Nat.le_refl, WeakTo, tokSts, tokOks, List.append_cancel_left_eq, exists_eq_left', exists_eq_left, List.append_cancel_left_eq, List.take_length, ObCl, and_true, true_and, push_cast, Nat.reduceEqDiff, Nat.reduceBEq, Nat.reduceBNe, Nat.reduceAdd, Nat.reduceMul, Nat.reduceLT, Nat.reduceLeDiff, Nat.reduceSub, reduceCtorEq, Int.reduceToNat, ↓reduceIte]
               repeat' apply And.intro
               all_goals first
                 | omega
                 | exact wdD_cl _ _
                 | rfl
                 | trace_state)
            | trace_state
        · obtain rfl : i = 8 := by omega
          have e8 : (add8 s v).l.take 8 = (add8 s v).l := rfl
          simp only [e8]
          try simp -implicitDefEqProofs only [push_cast, Nat.reduceEqDiff, Nat.reduceBEq, Nat.reduceBNe, Nat.reduceAdd, Nat.reduceMul, Nat.reduceLT, Nat.reduceLeDiff, Nat.reduceSub, reduceCtorEq, Int.reduceToNat, ↓reduceIte]
          repeat'
            (first
             | (refine uYes ?_; first | exact List.mem_cons_self | (simp only [List.mem_cons, List.not_mem_nil, or_false, true_or, or_true]; done))
             | (refine uNo (by kernel_rfl))
             | (refine flatMk ?_; kernel_rfl)
             | (refine And.intro ?_ ?_)
             | (intro hx)
             | ((first
                 | (refine callGF ?_)
                 | (refine callQGF ?_)
                 | (refine skipG ?_)
                 | (refine callS (in_gives _ _ _ _) ?_)
                 | (refine callQ (in_gives _ _ _ _) ?_)
                 | (refine callG (fun hc => (in_gives _ _ _ _)) ?_)
                 | (refine callQG (fun hc => (in_gives _ _ _ _)) ?_)); simp -implicitDefEqProofs only [push_cast, Nat.reduceEqDiff, Nat.reduceBEq, Nat.reduceBNe, Nat.reduceAdd, Nat.reduceMul, Nat.reduceLT, Nat.reduceLeDiff, Nat.reduceSub, reduceCtorEq, Int.reduceToNat, ↓reduceIte]))
          all_goals first
            | omega
            | trace_state
end Go.Proofs.YtcmpcpigchlhpaaDoor

/- SHA-256: padding, the sum as bytes, its figures; the reference's. -/
namespace Go.Proofs.YtcmpcpigchlhpaaDoor
set_option linter.unusedSectionVars false
open Go.Av
variable [Av.Start] [TabSha]
set_option maxRecDepth 10000
set_option maxHeartbeats 1000000
set_option linter.unusedSimpArgs false
set_option linter.unusedVariables false

def padN (n : Nat) : Nat := (119 - n % 64) % 64
def sizeB (n : Nat) (i : Nat) : UInt8 := UInt8.ofNat (n * 8 / 2 ^ (8 * (7 - i)))
def headP (tx : List UInt8) (k : Nat) : List UInt8 := tx ++ 128 :: List.replicate k 0
def padP (tx : List UInt8) (i : Nat) : List UInt8 := headP tx (padN tx.length) ++ (List.range i).map (sizeB tx.length)
def padV (tx : List UInt8) : List UInt8 := padP tx 8
theorem headP_len (tx : List UInt8) (k : Nat) : (headP tx k).length = tx.length + 1 + k := by simp [headP]; omega
theorem headP_succ (tx : List UInt8) (k : Nat) : headP tx (k + 1) = headP tx k ++ [0] := by
  simp [headP, List.replicate_succ']
theorem padP_len (tx : List UInt8) (i : Nat) : (padP tx i).length = tx.length + 1 + padN tx.length + i := by
  rw [padP, List.length_append, headP_len]; simp
theorem padP_succ (tx : List UInt8) (i : Nat) : padP tx (i + 1) = padP tx i ++ [sizeB tx.length i] := by
  simp [padP, List.range_succ]
theorem padN_is (n : Nat) : (n + 1 + padN n) % 64 = 56 ∧ padN n < 64 ∧ ∀ k, k < padN n → (n + 1 + k) % 64 ≠ 56 := by
  rw [padN]
  refine ⟨by omega, by omega, fun k hk => by omega⟩
theorem byD_snoc (bs : List UInt8) (b : UInt8) : byD bs ++ [D.int .u8 (b.toNat : Int)] = byD (bs ++ [b]) := by simp [byD]
theorem byD_flat (bs : List UInt8) : flat (byD bs) = byD bs := by
  rw [flat, byD, List.flatMap_map]
  induction bs with
  | nil => rfl
  | cons x xs ih => rw [List.flatMap_cons, ih]; rfl
theorem u8_of_nat (n : Nat) : ((UInt8.ofNat n).toNat : Int) = IntKind.u8.wrap n := by
  show ((UInt8.ofNat n).toNat : Int) = (n : Int) % 256
  rw [UInt8.toNat_ofNat']
  omega
theorem sizeB_is (n i : Nat) (hi : i < 8) : IntKind.u8.wrap (((n * 8 : Nat) : Int).fdiv (2 ^ min (8 * (7 - i)) 64)) = ((sizeB n i).toNat : Int) := by
  rw [sizeB, u8_of_nat, show min (8 * (7 - i)) 64 = 8 * (7 - i) by omega]
  congr 1
  rw [Int.fdiv_eq_ediv_of_nonneg _ (Int.le_of_lt (Int.pow_pos (by omega))), Int.natCast_ediv, Int.natCast_pow]
  rfl
theorem specPadded_gives (tx : List UInt8) (h : Hp) (hl : tx.length ≤ 10000000) : Gives Tryd.prog 71 [.str tx] h (.slice (byD (padV tx)) .no) := by
  obtain ⟨p1, p2, p3⟩ := padN_is tx.length
  have hb : (tx.map fun b => D.int .u8 (b.toNat : Int)) = byD tx := rfl
  have hbl := byD_len tx
  have hbz := byD_sz tx
  have hbf := byD_flat tx
  refine meets_of [7] mixed Tryd.func71 rfl (by kernel_rfl) (by kernel_rfl) (by rw [Tryd.ntmps71]; simp only [List.length_cons, List.length_nil]; omega) (fun hf => ?_)
  rw [Tryd.results71]
  clear hf
  try simp -implicitDefEqProofs only [hb, hbl, hbz, hbf, push_cast, Nat.reduceEqDiff, Nat.reduceBEq, Nat.reduceBNe, Nat.reduceAdd, Nat.reduceMul, Nat.reduceLT, Nat.reduceLeDiff, Nat.reduceSub, reduceCtorEq, Int.reduceToNat, ↓reduceIte]
  repeat'
    (first
     | (refine uYes ?_; first | exact List.mem_cons_self | (simp only [List.mem_cons, List.not_mem_nil, or_false, true_or, or_true]; done))
     | (refine uNo (by kernel_rfl))
     | (refine flatMk ?_; kernel_rfl)
     | (refine And.intro ?_ ?_)
     | (intro hx)
     | ((first
         | (refine callGF ?_)
         | (refine callQGF ?_)
         | (refine skipG ?_)
         | (refine callS (in_gives _ _ _ _) ?_)
         | (refine callQ (in_gives _ _ _ _) ?_)
         | (refine callG (fun hc => (in_gives _ _ _ _)) ?_)
         | (refine callQG (fun hc => (in_gives _ _ _ _)) ?_)); simp -implicitDefEqProofs only [hb, hbl, hbz, hbf, push_cast, Nat.reduceEqDiff, Nat.reduceBEq, Nat.reduceBNe, Nat.reduceAdd, Nat.reduceMul, Nat.reduceLT, Nat.reduceLeDiff, Nat.reduceSub, reduceCtorEq, Int.reduceToNat, ↓reduceIte]))
  all_goals try first
    | omega
    | (simp only [lenMax]; omega)
  refine ev_loop [] (fun k : Nat => [(0, .str tx), (3, .slice (byD (headP tx k)) (.buf h.length 1))])
    (fun k => [.buf (tx.length + 1 + k)]) (fun k => k ≤ padN tx.length) (fun k => padN tx.length - k) 0 trivial (Nat.zero_le _) ?_ ?_
  · refine ⟨1, by simp, by simp [tokSts], ?_⟩
    simp -implicitDefEqProofs only [Int.natCast_add, Int.cast_ofNat_Int, List.length_nil, Nat.le_refl, WeakTo, tokSts, tokOks, List.append_cancel_left_eq, exists_eq_left', exists_eq_left, List.append_cancel_left_eq, List.take_length, ObCl, and_true, true_and, push_cast, Nat.reduceEqDiff, Nat.reduceBEq, Nat.reduceBNe, Nat.reduceAdd, Nat.reduceMul, Nat.reduceLT, Nat.reduceLeDiff, Nat.reduceSub, reduceCtorEq, Int.reduceToNat, ↓reduceIte]
    simp [byD, headP]
  · intro k hk
    have hkl := headP_len tx k
    have hkd := byD_len (headP tx k)
    have hkz := byD_sz (headP tx k)
    have hkf := byD_flat (headP tx k)
    rw [hkl] at hkd
    have hm : ((tx.length : Int) + 1 + k).tmod 64 = ((tx.length + 1 + k) % 64 : Nat) := by
      rw [Int.tmod_eq_emod_of_nonneg (by omega)]
      omega
    by_cases hlt : k < padN tx.length
    · have hne := p3 k hlt
      have hd : decide (((tx.length + 1 + k) % 64 : Nat) = (56 : Int)) = false := decide_eq_false (by omega)
      try simp -implicitDefEqProofs only [hkd, hkz, hkf, hm, hd, push_cast, Nat.reduceEqDiff, Nat.reduceBEq, Nat.reduceBNe, Nat.reduceAdd, Nat.reduceMul, Nat.reduceLT, Nat.reduceLeDiff, Nat.reduceSub, reduceCtorEq, Int.reduceToNat, ↓reduceIte]
      repeat'
        (first
         | (refine uYes ?_; first | exact List.mem_cons_self | (simp only [List.mem_cons, List.not_mem_nil, or_false, true_or, or_true]; done))
         | (refine uNo (by kernel_rfl))
         | (refine flatMk ?_; kernel_rfl)
         | (refine And.intro ?_ ?_)
         | (intro hx)
         | ((first
             | (refine callGF ?_)
             | (refine callQGF ?_)
             | (refine skipG ?_)
             | (refine callS (in_gives _ _ _ _) ?_)
             | (refine callQ (in_gives _ _ _ _) ?_)
             | (refine callG (fun hc => (in_gives _ _ _ _)) ?_)
             | (refine callQG (fun hc => (in_gives _ _ _ _)) ?_)); simp -implicitDefEqProofs only [hkd, hkz, hkf, hm, hd, push_cast, Nat.reduceEqDiff, Nat.reduceBEq, Nat.reduceBNe, Nat.reduceAdd, Nat.reduceMul, Nat.reduceLT, Nat.reduceLeDiff, Nat.reduceSub, reduceCtorEq, Int.reduceToNat, ↓reduceIte]))
      all_goals first
        | omega
        | (simp only [lenMax]; omega)
        | skip
      have hk1 : byD (headP tx (k + 1)) = byD (headP tx k) ++ [D.int .u8 0] := by
        rw [headP_succ, ← byD_snoc]
        rfl
      have ha : tx.length + 1 + (k + 1) = tx.length + 1 + k + 1 := by omega
      refine round_mk (k + 1) (by omega) (by omega) ?_
      simp -implicitDefEqProofs only [hk1, hkd, ha, Int.natCast_add, Int.cast_ofNat_Int, List.length_nil, Nat.le_refl, WeakTo, tokSts, tokOks, List.append_cancel_left_eq, exists_eq_left', exists_eq_left, List.append_cancel_left_eq, List.take_length, ObCl, and_true, true_and, push_cast, Nat.reduceEqDiff, Nat.reduceBEq, Nat.reduceBNe, Nat.reduceAdd, Nat.reduceMul, Nat.reduceLT, Nat.reduceLeDiff, Nat.reduceSub, reduceCtorEq, Int.reduceToNat, ↓reduceIte]
    · obtain rfl : k = padN tx.length := by omega
      have hd : decide (((tx.length + 1 + padN tx.length) % 64 : Nat) = (56 : Int)) = true := decide_eq_true (by omega)
      have w8 : IntKind.i64.wrap ((tx.length : Int) * 8) = (tx.length : Int) * 8 := wrap_id (by omega) (by omega)
      try simp -implicitDefEqProofs only [hkd, hkz, hkf, hm, hd, w8, push_cast, Nat.reduceEqDiff, Nat.reduceBEq, Nat.reduceBNe, Nat.reduceAdd, Nat.reduceMul, Nat.reduceLT, Nat.reduceLeDiff, Nat.reduceSub, reduceCtorEq, Int.reduceToNat, ↓reduceIte]
      repeat'
        (first
         | (refine uYes ?_; first | exact List.mem_cons_self | (simp only [List.mem_cons, List.not_mem_nil, or_false, true_or, or_true]; done))
         | (refine uNo (by kernel_rfl))
         | (refine flatMk ?_; kernel_rfl)
         | (refine And.intro ?_ ?_)
         | (intro hx)
         | ((first
             | (refine callGF ?_)
             | (refine callQGF ?_)
             | (refine skipG ?_)
             | (refine callS (in_gives _ _ _ _) ?_)
             | (refine callQ (in_gives _ _ _ _) ?_)
             | (refine callG (fun hc => (in_gives _ _ _ _)) ?_)
             | (refine callQG (fun hc => (in_gives _ _ _ _)) ?_)); simp -implicitDefEqProofs only [hkd, hkz, hkf, hm, hd, w8, push_cast, Nat.reduceEqDiff, Nat.reduceBEq, Nat.reduceBNe, Nat.reduceAdd, Nat.reduceMul, Nat.reduceLT, Nat.reduceLeDiff, Nat.reduceSub, reduceCtorEq, Int.reduceToNat, ↓reduceIte]))
      all_goals try first
        | omega
        | (simp only [lenMax]; omega)
      refine ev_loop [] (fun j : Nat => [(3, .slice (byD (padP tx j)) (.buf h.length 1)), (4, .int .i64 ((tx.length : Int) * 8)), (5, .int .i64 (7 - (j : Int)))])
        (fun j => [.buf (tx.length + 1 + padN tx.length + j)]) (fun j => j ≤ 8) (fun j => 8 - j) 0 trivial (Nat.zero_le _) ?_ ?_
      · refine ⟨1, by simp, by simp [tokSts], ?_⟩
        simp -implicitDefEqProofs only [Int.natCast_add, Int.cast_ofNat_Int, List.length_nil, Nat.le_refl, WeakTo, tokSts, tokOks, List.append_cancel_left_eq, exists_eq_left', exists_eq_left, List.append_cancel_left_eq, List.take_length, ObCl, and_true, true_and, push_cast, Nat.reduceEqDiff, Nat.reduceBEq, Nat.reduceBNe, Nat.reduceAdd, Nat.reduceMul, Nat.reduceLT, Nat.reduceLeDiff, Nat.reduceSub, reduceCtorEq, Int.reduceToNat, ↓reduceIte]
        simp [padP]
      · intro j hj
        have hjl := padP_len tx j
        have hjd := byD_len (padP tx j)
        have hjz := byD_sz (padP tx j)
        have hjf := byD_flat (padP tx j)
        rw [hjl] at hjd
        by_cases hlj : j < 8
        · have w9 : IntKind.i64.wrap (8 * (7 - (j : Int))) = 8 * (7 - (j : Int)) := wrap_id (by omega) (by omega)
          have t9 : (8 * (7 - (j : Int))).toNat = 8 * (7 - j) := by omega
          have w7 : IntKind.i64.wrap (7 - (j : Int) - 1) = 7 - ((j : Int) + 1) := by rw [wrap_id (by omega) (by omega)]; omega
          have hs : IntKind.u8.wrap (((tx.length : Int) * 8).fdiv (2 ^ min (8 * (7 - j)) 64)) = ((sizeB tx.length j).toNat : Int) := by
            have := sizeB_is tx.length j hlj
            rw [Int.natCast_mul] at this
            exact this
          have hc7 : decide ((0 : Int) ≤ 7 - j) = true := decide_eq_true (by omega)
          try simp -implicitDefEqProofs only [hjd, hjz, hjf, w9, t9, w7, hs, hc7, IntKind.bits, push_cast, Nat.reduceEqDiff, Nat.reduceBEq, Nat.reduceBNe, Nat.reduceAdd, Nat.reduceMul, Nat.reduceLT, Nat.reduceLeDiff, Nat.reduceSub, reduceCtorEq, Int.reduceToNat, ↓reduceIte]
          repeat'
            (first
             | (refine uYes ?_; first | exact List.mem_cons_self | (simp only [List.mem_cons, List.not_mem_nil, or_false, true_or, or_true]; done))
             | (refine uNo (by kernel_rfl))
             | (refine flatMk ?_; kernel_rfl)
             | (refine And.intro ?_ ?_)
             | (intro hx)
             | ((first
                 | (refine callGF ?_)
                 | (refine callQGF ?_)
                 | (refine skipG ?_)
                 | (refine callS (in_gives _ _ _ _) ?_)
                 | (refine callQ (in_gives _ _ _ _) ?_)
                 | (refine callG (fun hc => (in_gives _ _ _ _)) ?_)
                 | (refine callQG (fun hc => (in_gives _ _ _ _)) ?_)); simp -implicitDefEqProofs only [hjd, hjz, hjf, w9, t9, w7, hs, hc7, IntKind.bits, push_cast, Nat.reduceEqDiff, Nat.reduceBEq, Nat.reduceBNe, Nat.reduceAdd, Nat.reduceMul, Nat.reduceLT, Nat.reduceLeDiff, Nat.reduceSub, reduceCtorEq, Int.reduceToNat, ↓reduceIte]))
          all_goals first
            | omega
            | (simp only [lenMax]; omega)
            | skip
          have hk1 : byD (padP tx (j + 1)) = byD (padP tx j) ++ [D.int .u8 ((sizeB tx.length j).toNat : Int)] := by
            rw [padP_succ, ← byD_snoc]
          have ha : tx.length + 1 + padN tx.length + (j + 1) = tx.length + 1 + padN tx.length + j + 1 := by omega
          refine round_mk (j + 1) (by omega) (by omega) ?_
          simp -implicitDefEqProofs only [hk1, hjd, ha, w7, Int.natCast_add, Int.cast_ofNat_Int, List.length_nil, Nat.le_refl, WeakTo, tokSts, tokOks, List.append_cancel_left_eq, exists_eq_left', exists_eq_left, List.append_cancel_left_eq, List.take_length, ObCl, and_true, true_and, push_cast, Nat.reduceEqDiff, Nat.reduceBEq, Nat.reduceBNe, Nat.reduceAdd, Nat.reduceMul, Nat.reduceLT, Nat.reduceLeDiff, Nat.reduceSub, reduceCtorEq, Int.reduceToNat, ↓reduceIte]
        · obtain rfl : j = 8 := by omega
          have hp8 : padP tx 8 = padV tx := rfl
          simp only [hp8]
          try simp -implicitDefEqProofs only [hjd, hjz, hjf, push_cast, Nat.reduceEqDiff, Nat.reduceBEq, Nat.reduceBNe, Nat.reduceAdd, Nat.reduceMul, Nat.reduceLT, Nat.reduceLeDiff, Nat.reduceSub, reduceCtorEq, Int.reduceToNat, ↓reduceIte]
          repeat'
            (first
             | (refine uYes ?_; first | exact List.mem_cons_self | (simp only [List.mem_cons, List.not_mem_nil, or_false, true_or, or_true]; done))
             | (refine uNo (by kernel_rfl))
             | (refine flatMk ?_; kernel_rfl)
             | (refine And.intro ?_ ?_)
             | (intro hx)
             | ((first
                 | (refine callGF ?_)
                 | (refine callQGF ?_)
                 | (refine skipG ?_)
                 | (refine callS (in_gives _ _ _ _) ?_)
                 | (refine callQ (in_gives _ _ _ _) ?_)
                 | (refine callG (fun hc => (in_gives _ _ _ _)) ?_)
                 | (refine callQG (fun hc => (in_gives _ _ _ _)) ?_)); simp -implicitDefEqProofs only [hjd, hjz, hjf, push_cast, Nat.reduceEqDiff, Nat.reduceBEq, Nat.reduceBNe, Nat.reduceAdd, Nat.reduceMul, Nat.reduceLT, Nat.reduceLeDiff, Nat.reduceSub, reduceCtorEq, Int.reduceToNat, ↓reduceIte]))
          all_goals first
            | omega
            | trace_state
end Go.Proofs.YtcmpcpigchlhpaaDoor

/- SHA-256: the reference's sum, and its figures. -/
namespace Go.Proofs.YtcmpcpigchlhpaaDoor
set_option linter.unusedSectionVars false
open Go.Av
variable [Av.Start] [TabSha]
set_option maxRecDepth 10000
set_option maxHeartbeats 1000000
set_option linter.unusedSimpArgs false
set_option linter.unusedVariables false

def hexT : List UInt8 := [48, 49, 50, 51, 52, 53, 54, 55, 56, 57, 97, 98, 99, 100, 101, 102]
def hexd (n : Nat) : UInt8 := hexT.getD n 0
def hex2 (b : UInt8) : List UInt8 := [hexd (b.toNat / 16), hexd (b.toNat % 16)]
def hexOf (bs : List UInt8) : List UInt8 := bs.flatMap hex2
def byte4 (x : Int) : List UInt8 := [UInt8.ofNat (x.toNat / 16777216), UInt8.ofNat (x.toNat / 65536), UInt8.ofNat (x.toNat / 256), UInt8.ofNat x.toNat]
def rootsS : S8 := ⟨1779033703, 3144134277, 1013904242, 2773480762, 1359893119, 2600822924, 528734635, 1541459225⟩
def sumN (s : S8) (bs : List UInt8) : Nat → S8
  | 0 => s
  | n + 1 => blockV (sumN s bs n) ((bs.drop (64 * n)).take 64)
def sumV (tx : List UInt8) : S8 := sumN rootsS (padV tx) ((padV tx).length / 64)
def hashV (tx : List UInt8) : List UInt8 := hexOf ((sumV tx).l.flatMap byte4)
theorem roots_is : rootsS.l = rootsL := rfl
theorem hexOf_len (bs : List UInt8) : (hexOf bs).length = 2 * bs.length := by
  induction bs with
  | nil => rfl
  | cons x xs ih => rw [hexOf, List.flatMap_cons, List.length_append, List.length_cons]; rw [hexOf] at ih; rw [ih]; simp only [hex2, List.length_cons, List.length_nil]; omega
theorem hashV_len (tx : List UInt8) : (hashV tx).length = 64 := by
  rw [hashV, hexOf_len]
  rfl
theorem hexOf_snoc (bs : List UInt8) (b : UInt8) : hexOf (bs ++ [b]) = hexOf bs ++ hex2 b := by simp [hexOf]
theorem hex_at (n : Nat) (hn : n < 16) : (([48, 49, 50, 51, 52, 53, 54, 55, 56, 57, 97, 98, 99, 100, 101, 102] : List UInt8).getD n 0) = hexd n := rfl
theorem byD_back (bs : List UInt8) : (byD bs).map Go.Av.byteOf = bs := by
  rw [byD, List.map_map]
  refine (List.map_congr_left fun x _ => ?_).trans (List.map_id _)
  show UInt8.ofNat ((x.toNat : Int)).toNat = x
  rw [Int.toNat_natCast]
  exact UInt8.ofNat_toNat
theorem byD_bytes (bs : List UInt8) : ∀ d, d ∈ byD bs → isByte d := fun d hd => by
  obtain ⟨x, _, rfl⟩ := List.mem_map.1 hd
  trivial
theorem specHex_gives (s : List UInt8) (h : Hp) (hl : s.length ≤ 1000000) : Gives Tryd.prog 52 [.str s] h (.str (hexOf s)) := by
  refine meets_of [] mixed Tryd.func52 rfl (by kernel_rfl) (by kernel_rfl) (by rw [Tryd.ntmps52]; simp only [List.length_cons, List.length_nil]; omega) (fun hf => ?_)
  rw [Tryd.results52]
  clear hf
  try simp -implicitDefEqProofs only [push_cast, Nat.reduceEqDiff, Nat.reduceBEq, Nat.reduceBNe, Nat.reduceAdd, Nat.reduceMul, Nat.reduceLT, Nat.reduceLeDiff, Nat.reduceSub, reduceCtorEq, Int.reduceToNat, ↓reduceIte]
  repeat'
    (first
     | (refine uYes ?_; first | exact List.mem_cons_self | (simp only [List.mem_cons, List.not_mem_nil, or_false, true_or, or_true]; done))
     | (refine uNo (by kernel_rfl))
     | (refine flatMk ?_; kernel_rfl)
     | (refine And.intro ?_ ?_)
     | (intro hx)
     | ((first
         | (refine callGF ?_)
         | (refine callQGF ?_)
         | (refine skipG ?_)
         | (refine callS (in_gives _ _ _ _) ?_)
         | (refine callQ (in_gives _ _ _ _) ?_)
         | (refine callG (fun hc => (in_gives _ _ _ _)) ?_)
         | (refine callQG (fun hc => (in_gives _ _ _ _)) ?_)); simp -implicitDefEqProofs only [push_cast, Nat.reduceEqDiff, Nat.reduceBEq, Nat.reduceBNe, Nat.reduceAdd, Nat.reduceMul, Nat.reduceLT, Nat.reduceLeDiff, Nat.reduceSub, reduceCtorEq, Int.reduceToNat, ↓reduceIte]))
  all_goals try omega
  refine ev_loopB [(3, 1)] (fun k : Nat => [(0, .str s), (3, .slice (byD (hexOf (s.take k))) (.buf h.length 1)), (4, .int .i64 k)])
    (fun k => [.buf (2 * k)]) (fun k => k ≤ s.length) (fun k => s.length - k) 0 ?_ (Nat.zero_le _) ?_ ?_
  · simp -implicitDefEqProofs only [tokOk, Int.natCast_add, Int.cast_ofNat_Int, List.length_nil, Nat.le_refl, WeakTo, tokSts, tokOks, List.append_cancel_left_eq, exists_eq_left', exists_eq_left, List.append_cancel_left_eq, List.take_length, ObCl, and_true, true_and, push_cast, Nat.reduceEqDiff, Nat.reduceBEq, Nat.reduceBNe, Nat.reduceAdd, Nat.reduceMul, Nat.reduceLT, Nat.reduceLeDiff, Nat.reduceSub, reduceCtorEq, Int.reduceToNat, ↓reduceIte]
  · refine ⟨1, by simp, by simp -implicitDefEqProofs only [tokSt, Int.natCast_add, Int.cast_ofNat_Int, List.length_nil, Nat.le_refl, WeakTo, tokSts, tokOks, List.append_cancel_left_eq, exists_eq_left', exists_eq_left, List.append_cancel_left_eq, List.take_length, ObCl, and_true, true_and, push_cast, Nat.reduceEqDiff, Nat.reduceBEq, Nat.reduceBNe, Nat.reduceAdd, Nat.reduceMul, Nat.reduceLT, Nat.reduceLeDiff, Nat.reduceSub, reduceCtorEq, Int.reduceToNat, ↓reduceIte], ?_⟩
    simp -implicitDefEqProofs only [tokSt, Int.natCast_add, Int.cast_ofNat_Int, List.length_nil, Nat.le_refl, WeakTo, tokSts, tokOks, List.append_cancel_left_eq, exists_eq_left', exists_eq_left, List.append_cancel_left_eq, List.take_length, ObCl, and_true, true_and, push_cast, Nat.reduceEqDiff, Nat.reduceBEq, Nat.reduceBNe, Nat.reduceAdd, Nat.reduceMul, Nat.reduceLT, Nat.reduceLeDiff, Nat.reduceSub, reduceCtorEq, Int.reduceToNat, ↓reduceIte]
    rfl
  · intro k hk
    have w4 : IntKind.i64.wrap ((k : Int) + 1) = k + 1 := wrap_id (by omega) (by omega)
    have hkl : (hexOf (s.take k)).length = 2 * k := by rw [hexOf_len, List.length_take]; omega
    have hkd := byD_len (hexOf (s.take k))
    have hkz := byD_sz (hexOf (s.take k))
    have hkf := byD_flat (hexOf (s.take k))
    rw [hkl] at hkd
    by_cases hlt : k < s.length
    · have hsn : s.take (k + 1) = s.take k ++ [s.getD k 0] := take_succ_getD s 0 hlt
      have hb : (s.getD k 0).toNat < 256 := (s.getD k 0).toNat_lt
      obtain ⟨b, hbe⟩ : ∃ b, s.getD k 0 = b := ⟨_, rfl⟩
      rw [hbe] at hsn hb
      have h16 : 16 ≤ lenMax := by decide
      obtain ⟨q, hq0⟩ : ∃ q, b.toNat / 16 = q := ⟨_, rfl⟩
      obtain ⟨r, hr0⟩ : ∃ r, b.toNat % 16 = r := ⟨_, rfl⟩
      have hq : IntKind.u8.wrap ((b.toNat : Int).tdiv 16) = (q : Int) := by
        show (b.toNat : Int).tdiv 16 % 256 = _
        rw [Int.tdiv_eq_ediv_of_nonneg (by omega)]
        omega
      have hr : (b.toNat : Int).tmod 16 = (r : Int) := by
        rw [Int.tmod_eq_emod_of_nonneg (by omega)]
        omega
      have hnx : byD (hexOf (s.take (k + 1))) = byD (hexOf (s.take k)) ++ [D.int .u8 ((hexd q).toNat : Int), D.int .u8 ((hexd r).toNat : Int)] := by
        rw [hsn, hexOf_snoc, byD, byD, List.map_append, ← hq0, ← hr0]
        rfl
      have hx1 := hex_at q (by omega)
      have hx2 := hex_at r (by omega)
      have hq9 : q < 16 := by omega
      have hr9 : r < 16 := by omega
      try simp -implicitDefEqProofs only [h16, hbe, w4, hkd, hkz, hkf, hq, hr, hx1, hx2, push_cast, Nat.reduceEqDiff, Nat.reduceBEq, Nat.reduceBNe, Nat.reduceAdd, Nat.reduceMul, Nat.reduceLT, Nat.reduceLeDiff, Nat.reduceSub, reduceCtorEq, Int.reduceToNat, ↓reduceIte]
      repeat'
        (first
         | (refine uYes ?_; first | exact List.mem_cons_self | (simp only [List.mem_cons, List.not_mem_nil, or_false, true_or, or_true]; done))
         | (refine uNo (by kernel_rfl))
         | (refine flatMk ?_; kernel_rfl)
         | (refine And.intro ?_ ?_)
         | (intro hx)
         | ((first
             | (refine callGF ?_)
             | (refine callQGF ?_)
             | (refine skipG ?_)
             | (refine inX_mk [h.length] (by kernel_rfl) (by simp) ?_)); simp -implicitDefEqProofs only [h16, hbe, w4, hkd, hkz, hkf, hq, hr, hx1, hx2, push_cast, Nat.reduceEqDiff, Nat.reduceBEq, Nat.reduceBNe, Nat.reduceAdd, Nat.reduceMul, Nat.reduceLT, Nat.reduceLeDiff, Nat.reduceSub, reduceCtorEq, Int.reduceToNat, ↓reduceIte]))
      all_goals first
        | omega
        | (simp only [lenMax]; omega)
        | skip
      have h2 : 2 * (k + 1) = 2 * k + 2 := by omega
      refine round_mk (k + 1) (by omega) (by omega) ?_
      simp -implicitDefEqProofs only [w4, hnx, hkd, h2, Int.natCast_add, Int.cast_ofNat_Int, List.length_nil, Nat.le_refl, WeakTo, tokSts, tokOks, List.append_cancel_left_eq, exists_eq_left', exists_eq_left, List.append_cancel_left_eq, List.take_length, ObCl, and_true, true_and, push_cast, Nat.reduceEqDiff, Nat.reduceBEq, Nat.reduceBNe, Nat.reduceAdd, Nat.reduceMul, Nat.reduceLT, Nat.reduceLeDiff, Nat.reduceSub, reduceCtorEq, Int.reduceToNat, ↓reduceIte]
    · obtain rfl : k = s.length := by omega
      have hbk := byD_back (hexOf s)
      have hby := byD_bytes (hexOf s)
      try simp -implicitDefEqProofs only [hkd, hkz, hkf, hbk, List.take_length, push_cast, Nat.reduceEqDiff, Nat.reduceBEq, Nat.reduceBNe, Nat.reduceAdd, Nat.reduceMul, Nat.reduceLT, Nat.reduceLeDiff, Nat.reduceSub, reduceCtorEq, Int.reduceToNat, ↓reduceIte]
      repeat'
        (first
         | (refine uYes ?_; first | exact List.mem_cons_self | (simp only [List.mem_cons, List.not_mem_nil, or_false, true_or, or_true]; done))
         | (refine uNo (by kernel_rfl))
         | (refine flatMk ?_; kernel_rfl)
         | (refine And.intro ?_ ?_)
         | (intro hx)
         | ((first
             | (refine callGF ?_)
             | (refine callQGF ?_)
             | (refine skipG ?_)
             | (refine callS (in_gives _ _ _ _) ?_)
             | (refine callQ (in_gives _ _ _ _) ?_)
             | (refine callG (fun hc => (in_gives _ _ _ _)) ?_)
             | (refine callQG (fun hc => (in_gives _ _ _ _)) ?_)); simp -implicitDefEqProofs only [hkd, hkz, hkf, hbk, List.take_length, push_cast, Nat.reduceEqDiff, Nat.reduceBEq, Nat.reduceBNe, Nat.reduceAdd, Nat.reduceMul, Nat.reduceLT, Nat.reduceLeDiff, Nat.reduceSub, reduceCtorEq, Int.reduceToNat, ↓reduceIte]))
      all_goals first
        | omega
        | exact hby _ hx
        | exact hby
        | trace_state
theorem add_blk (n : Nat) : 64 * (n + 1) = 64 * n + 64 := by omega
theorem byD_blk (bs : List UInt8) (n : Nat) : ((byD bs).take (64 * n + 64)).drop (64 * n) = byD ((bs.drop (64 * n)).take 64) := by
  rw [byD, byD, ← List.map_take, ← List.map_drop, List.drop_take, show 64 * n + 64 - 64 * n = 64 by omega]
def sumBs (s : S8) (i : Nat) : List UInt8 := (s.l.take i).flatMap byte4
theorem sumBs_len (s : S8) {i : Nat} (hi : i ≤ 8) : (sumBs s i).length = 4 * i := by
  have : i = 0 ∨ i = 1 ∨ i = 2 ∨ i = 3 ∨ i = 4 ∨ i = 5 ∨ i = 6 ∨ i = 7 ∨ i = 8 := by omega
  rcases this with rfl | rfl | rfl | rfl | rfl | rfl | rfl | rfl | rfl <;> rfl
theorem sumBs_succ (s : S8) {i : Nat} (hi : i < 8) : sumBs s (i + 1) = sumBs s i ++ byte4 (s.l.getD i 0) := by
  have : i = 0 ∨ i = 1 ∨ i = 2 ∨ i = 3 ∨ i = 4 ∨ i = 5 ∨ i = 6 ∨ i = 7 := by omega
  rcases this with rfl | rfl | rfl | rfl | rfl | rfl | rfl | rfl <;> rfl
structure S8.W (s : S8) : Prop where
  all : ∀ x, x ∈ s.l → W32 x
theorem add8_w (s v : S8) : (add8 s v).W := ⟨fun x hx => by
  simp only [add8, S8.l, List.mem_cons, List.not_mem_nil, or_false] at hx
  rcases hx with rfl | rfl | rfl | rfl | rfl | rfl | rfl | rfl <;> exact u32_w _⟩
theorem sumN_w {s : S8} (h : s.W) (bs : List UInt8) : ∀ n, (sumN s bs n).W
  | 0 => h
  | n + 1 => add8_w _ _
theorem roots_w : rootsS.W := ⟨fun x hx => by
  simp only [rootsS, S8.l, List.mem_cons, List.not_mem_nil, or_false] at hx
  rcases hx with rfl | rfl | rfl | rfl | rfl | rfl | rfl | rfl <;> exact ⟨by decide, by decide⟩⟩
theorem byte_is {x : Int} (hx : W32 x) (k : Nat) : IntKind.u8.wrap (x.fdiv (2 ^ k)) = ((UInt8.ofNat (x.toNat / 2 ^ k)).toNat : Int) := by
  obtain ⟨n, rfl⟩ := Int.eq_ofNat_of_zero_le hx.1
  rw [u8_of_nat, Int.toNat_natCast, Int.fdiv_eq_ediv_of_nonneg _ (Int.le_of_lt (Int.pow_pos (by omega))), Int.natCast_ediv, Int.natCast_pow]
  rfl
theorem specSum_gives (tx : List UInt8) (h : Hp) (hl : tx.length ≤ 10000000) : Gives Tryd.prog 53 [.str tx] h (.str ((sumV tx).l.flatMap byte4)) := by
  have hP := fun g => specPadded_gives tx g hl
  have hpl := padP_len tx 8
  obtain ⟨p1, p2, _⟩ := padN_is tx.length
  have hpl : (padV tx).length = tx.length + 1 + padN tx.length + 8 := hpl
  rw [sumV]
  obtain ⟨m, hm⟩ : ∃ m, (padV tx).length = 64 * m := ⟨(padV tx).length / 64, by omega⟩
  have hm' : (padV tx).length / 64 = m := by omega
  have hml : 64 * m ≤ 10000100 := by omega
  rw [hm']
  generalize padV tx = bs at hP hm
  have hbl := byD_len bs
  have hbz := byD_sz bs
  rw [hm] at hbl
  refine meets_of [] mixed Tryd.func53 rfl (by kernel_rfl) (by kernel_rfl) (by rw [Tryd.ntmps53]; simp only [List.length_cons, List.length_nil]; omega) (fun hf => ?_)
  rw [Tryd.results53]
  clear hf
  try simp -implicitDefEqProofs only [hbl, push_cast, Nat.reduceEqDiff, Nat.reduceBEq, Nat.reduceBNe, Nat.reduceAdd, Nat.reduceMul, Nat.reduceLT, Nat.reduceLeDiff, Nat.reduceSub, reduceCtorEq, Int.reduceToNat, ↓reduceIte]
  repeat'
    (first
     | (refine uYes ?_; first | exact List.mem_cons_self | (simp only [List.mem_cons, List.not_mem_nil, or_false, true_or, or_true]; done))
     | (refine uNo (by kernel_rfl))
     | (refine flatMk ?_; kernel_rfl)
     | (refine And.intro ?_ ?_)
     | (intro hx)
     | ((first
         | (refine callGF ?_)
         | (refine callQGF ?_)
         | (refine skipG ?_)
         | (refine callS (hP _) ?_)
         | (refine callQ (hP _) ?_)
         | (refine callG (fun hc => (hP _)) ?_)
         | (refine callQG (fun hc => (hP _)) ?_)); simp -implicitDefEqProofs only [hbl, push_cast, Nat.reduceEqDiff, Nat.reduceBEq, Nat.reduceBNe, Nat.reduceAdd, Nat.reduceMul, Nat.reduceLT, Nat.reduceLeDiff, Nat.reduceSub, reduceCtorEq, Int.reduceToNat, ↓reduceIte]))
  all_goals try first
    | omega
    | (simp only [lenMax]; omega)
  refine ev_loop0 [] (fun k : Nat => [(3, .slice (wdD (sumN rootsS bs k).l) .no), (4, .slice (byD bs) .no), (5, .int .i64 (64 * (k : Int)))]) (fun k => k ≤ m) (fun k => m - k) 0 trivial (Nat.zero_le _) ?_ ?_
  · refine ⟨rfl, [], ?_⟩
    simp -implicitDefEqProofs only [Int.natCast_add, Int.cast_ofNat_Int, List.length_nil, Nat.le_refl, WeakTo, tokSts, tokOks, List.append_cancel_left_eq, exists_eq_left', exists_eq_left, List.append_cancel_left_eq, List.take_length, ObCl, and_true, true_and, push_cast, Nat.reduceEqDiff, Nat.reduceBEq, Nat.reduceBNe, Nat.reduceAdd, Nat.reduceMul, Nat.reduceLT, Nat.reduceLeDiff, Nat.reduceSub, reduceCtorEq, Int.reduceToNat, ↓reduceIte]
    exact ⟨rfl, by omega⟩
  · intro k hk
    have w4 : IntKind.i64.wrap (64 * (k : Int) + 64) = 64 * (k : Int) + 64 := wrap_id (by omega) (by omega)
    by_cases hlt : k < m
    · have t4 : (64 * (k : Int) + 64).toNat = 64 * k + 64 := by omega
      have t5 : (64 * (k : Int)).toNat = 64 * k := by omega
      have hbk := byD_blk bs k
      have hB := fun g => specBlock_gives (sumN rootsS bs k) ((bs.drop (64 * k)).take 64) g (by rw [List.length_take, List.length_drop]; omega)
      have hdc : decide (64 * (k : Int) < 64 * m) = true := decide_eq_true (by omega)
      try simp -implicitDefEqProofs only [hbl, hbz, w4, t4, t5, hbk, hdc, push_cast, Nat.reduceEqDiff, Nat.reduceBEq, Nat.reduceBNe, Nat.reduceAdd, Nat.reduceMul, Nat.reduceLT, Nat.reduceLeDiff, Nat.reduceSub, reduceCtorEq, Int.reduceToNat, ↓reduceIte]
      repeat'
        (first
         | (refine uYes ?_; first | exact List.mem_cons_self | (simp only [List.mem_cons, List.not_mem_nil, or_false, true_or, or_true]; done))
         | (refine uNo (by kernel_rfl))
         | (refine flatMk ?_; kernel_rfl)
         | (refine And.intro ?_ ?_)
         | (intro hx)
         | ((first
             | (refine callGF ?_)
             | (refine callQGF ?_)
             | (refine skipG ?_)
             | (refine callS (hB _) ?_)
             | (refine callQ (hB _) ?_)
             | (refine callG (fun hc => (hB _)) ?_)
             | (refine callQG (fun hc => (hB _)) ?_)); simp -implicitDefEqProofs only [hbl, hbz, w4, t4, t5, hbk, hdc, push_cast, Nat.reduceEqDiff, Nat.reduceBEq, Nat.reduceBNe, Nat.reduceAdd, Nat.reduceMul, Nat.reduceLT, Nat.reduceLeDiff, Nat.reduceSub, reduceCtorEq, Int.reduceToNat, ↓reduceIte]))
      all_goals first
        | omega
        | (simp only [lenMax]; omega)
        | (refine round_mk0 (k + 1) (by omega) (by omega) ⟨[], ?_⟩
           simp -implicitDefEqProofs only [w4, Int.natCast_add, Int.cast_ofNat_Int, List.length_nil, Nat.le_refl, WeakTo, tokSts, tokOks, List.append_cancel_left_eq, exists_eq_left', exists_eq_left, List.append_cancel_left_eq, List.take_length, ObCl, and_true, true_and, push_cast, Nat.reduceEqDiff, Nat.reduceBEq, Nat.reduceBNe, Nat.reduceAdd, Nat.reduceMul, Nat.reduceLT, Nat.reduceLeDiff, Nat.reduceSub, reduceCtorEq, Int.reduceToNat, ↓reduceIte]
           exact ⟨rfl, by omega⟩)
        | trace_state
    · obtain rfl : k = m := by omega
      have hS := sumN_w roots_w bs k
      generalize sumN rootsS bs k = S at hS
      have hdc : decide (64 * (k : Int) < 64 * k) = false := decide_eq_false (by omega)
      try simp -implicitDefEqProofs only [hbl, hbz, hdc, push_cast, Nat.reduceEqDiff, Nat.reduceBEq, Nat.reduceBNe, Nat.reduceAdd, Nat.reduceMul, Nat.reduceLT, Nat.reduceLeDiff, Nat.reduceSub, reduceCtorEq, Int.reduceToNat, ↓reduceIte]
      repeat'
        (first
         | (refine uYes ?_; first | exact List.mem_cons_self | (simp only [List.mem_cons, List.not_mem_nil, or_false, true_or, or_true]; done))
         | (refine uNo (by kernel_rfl))
         | (refine flatMk ?_; kernel_rfl)
         | (refine And.intro ?_ ?_)
         | (intro hx)
         | ((first
             | (refine callGF ?_)
             | (refine callQGF ?_)
             | (refine skipG ?_)
             | (refine callS (in_gives _ _ _ _) ?_)
             | (refine callQ (in_gives _ _ _ _) ?_)
             | (refine callG (fun hc => (in_gives _ _ _ _)) ?_)
             | (refine callQG (fun hc => (in_gives _ _ _ _)) ?_)); simp -implicitDefEqProofs only [hbl, hbz, hdc, push_cast, Nat.reduceEqDiff, Nat.reduceBEq, Nat.reduceBNe, Nat.reduceAdd, Nat.reduceMul, Nat.reduceLT, Nat.reduceLeDiff, Nat.reduceSub, reduceCtorEq, Int.reduceToNat, ↓reduceIte]))
      all_goals try first
        | omega
        | (simp only [lenMax]; omega)
      refine ev_loopB [(6, 1)] (fun i : Nat => [(3, .slice (wdD S.l) .no), (6, .slice (byD (sumBs S i)) (.buf h.length 1)), (7, .int .i64 i)])
        (fun i => [.buf (4 * i)]) (fun i => i ≤ 8) (fun i => 8 - i) 0 ?_ (Nat.zero_le _) ?_ ?_
      · simp -implicitDefEqProofs only [tokOk, Int.natCast_add, Int.cast_ofNat_Int, List.length_nil, Nat.le_refl, WeakTo, tokSts, tokOks, List.append_cancel_left_eq, exists_eq_left', exists_eq_left, List.append_cancel_left_eq, List.take_length, ObCl, and_true, true_and, push_cast, Nat.reduceEqDiff, Nat.reduceBEq, Nat.reduceBNe, Nat.reduceAdd, Nat.reduceMul, Nat.reduceLT, Nat.reduceLeDiff, Nat.reduceSub, reduceCtorEq, Int.reduceToNat, ↓reduceIte]
      · refine ⟨1, by simp, by simp -implicitDefEqProofs only [tokSt, Int.natCast_add, Int.cast_ofNat_Int, List.length_nil, Nat.le_refl, WeakTo, tokSts, tokOks, List.append_cancel_left_eq, exists_eq_left', exists_eq_left, List.append_cancel_left_eq, List.take_length, ObCl, and_true, true_and, push_cast, Nat.reduceEqDiff, Nat.reduceBEq, Nat.reduceBNe, Nat.reduceAdd, Nat.reduceMul, Nat.reduceLT, Nat.reduceLeDiff, Nat.reduceSub, reduceCtorEq, Int.reduceToNat, ↓reduceIte], ?_⟩
        simp -implicitDefEqProofs only [tokSt, Int.natCast_add, Int.cast_ofNat_Int, List.length_nil, Nat.le_refl, WeakTo, tokSts, tokOks, List.append_cancel_left_eq, exists_eq_left', exists_eq_left, List.append_cancel_left_eq, List.take_length, ObCl, and_true, true_and, push_cast, Nat.reduceEqDiff, Nat.reduceBEq, Nat.reduceBNe, Nat.reduceAdd, Nat.reduceMul, Nat.reduceLT, Nat.reduceLeDiff, Nat.reduceSub, reduceCtorEq, Int.reduceToNat, ↓reduceIte]
        rfl
      · intro i hi
        have w4 : IntKind.i64.wrap ((i : Int) + 1) = i + 1 := wrap_id (by omega) (by omega)
        have hil := sumBs_len S hi
        have hid := byD_len (sumBs S i)
        have hiz := byD_sz (sumBs S i)
        have hif := byD_flat (sumBs S i)
        rw [hil] at hid
        have hsd : (wdD S.l).length = 8 := rfl
        have hsz := wdD_sz S.l
        by_cases hlt : i < 8
        · have hg := wdD_get (ws := S.l) (k := i) (show i < 8 from hlt)
          have hnx := sumBs_succ S hlt
          have hx : W32 (S.l.getD i 0) := by
            rw [List.getD_eq_getElem?_getD, List.getElem?_eq_getElem (show i < S.l.length from hlt)]
            exact hS.all _ (List.getElem_mem _)
          obtain ⟨x, hxe⟩ : ∃ x, S.l.getD i 0 = x := ⟨_, rfl⟩
          rw [hxe] at hx hnx
          have b24 := byte_is hx 24
          have b16 := byte_is hx 16
          have b8 := byte_is hx 8
          have b0 := byte_is hx 0
          have e0 : IntKind.u8.wrap x = ((UInt8.ofNat x.toNat).toNat : Int) := by simpa using b0
          have m24 : min 24 32 = 24 := rfl
          have m16 : min 16 32 = 16 := rfl
          have m8 : min 8 32 = 8 := rfl
          try simp -implicitDefEqProofs only [hg, hxe, m24, m16, m8, b24, b16, b8, e0, hid, hiz, hif, hsd, hsz, w4, IntKind.bits, push_cast, Nat.reduceEqDiff, Nat.reduceBEq, Nat.reduceBNe, Nat.reduceAdd, Nat.reduceMul, Nat.reduceLT, Nat.reduceLeDiff, Nat.reduceSub, reduceCtorEq, Int.reduceToNat, ↓reduceIte]
          repeat'
            (first
             | (refine uYes ?_; first | exact List.mem_cons_self | (simp only [List.mem_cons, List.not_mem_nil, or_false, true_or, or_true]; done))
             | (refine uNo (by kernel_rfl))
             | (refine flatMk ?_; kernel_rfl)
             | (refine And.intro ?_ ?_)
             | (intro hx)
             | ((first
                 | (refine callGF ?_)
                 | (refine callQGF ?_)
                 | (refine skipG ?_)
                 | (refine inX_mk [h.length] (by kernel_rfl) (by simp) ?_)); simp -implicitDefEqProofs only [hg, hxe, m24, m16, m8, b24, b16, b8, e0, hid, hiz, hif, hsd, hsz, w4, IntKind.bits, push_cast, Nat.reduceEqDiff, Nat.reduceBEq, Nat.reduceBNe, Nat.reduceAdd, Nat.reduceMul, Nat.reduceLT, Nat.reduceLeDiff, Nat.reduceSub, reduceCtorEq, Int.reduceToNat, ↓reduceIte]))
          all_goals first
            | omega
            | (simp only [lenMax]; omega)
            | skip
          have hn2 : byD (sumBs S (i + 1)) = byD (sumBs S i) ++ [D.int .u8 ((UInt8.ofNat (x.toNat / 2 ^ 24)).toNat : Int), D.int .u8 ((UInt8.ofNat (x.toNat / 2 ^ 16)).toNat : Int), D.int .u8 ((UInt8.ofNat (x.toNat / 2 ^ 8)).toNat : Int), D.int .u8 ((UInt8.ofNat x.toNat).toNat : Int)] := by
            rw [hnx, byD, byD, List.map_append]
            rfl
          have h4 : 4 * (i + 1) = 4 * i + 4 := by omega
          refine round_mk (i + 1) (by omega) (by omega) ?_
          simp -implicitDefEqProofs only [w4, hn2, hid, h4, Int.natCast_add, Int.cast_ofNat_Int, List.length_nil, Nat.le_refl, WeakTo, tokSts, tokOks, List.append_cancel_left_eq, exists_eq_left', exists_eq_left, List.append_cancel_left_eq, List.take_length, ObCl, and_true, true_and, push_cast, Nat.reduceEqDiff, Nat.reduceBEq, Nat.reduceBNe, Nat.reduceAdd, Nat.reduceMul, Nat.reduceLT, Nat.reduceLeDiff, Nat.reduceSub, reduceCtorEq, Int.reduceToNat, ↓reduceIte]
        · obtain rfl : i = 8 := by omega
          have e8 : sumBs S 8 = S.l.flatMap byte4 := rfl
          simp only [e8] at hid hiz hif ⊢
          have hbk := byD_back (S.l.flatMap byte4)
          have hby := byD_bytes (S.l.flatMap byte4)
          try simp -implicitDefEqProofs only [hid, hiz, hif, hbk, push_cast, Nat.reduceEqDiff, Nat.reduceBEq, Nat.reduceBNe, Nat.reduceAdd, Nat.reduceMul, Nat.reduceLT, Nat.reduceLeDiff, Nat.reduceSub, reduceCtorEq, Int.reduceToNat, ↓reduceIte]
          repeat'
            (first
             | (refine uYes ?_; first | exact List.mem_cons_self | (simp only [List.mem_cons, List.not_mem_nil, or_false, true_or, or_true]; done))
             | (refine uNo (by kernel_rfl))
             | (refine flatMk ?_; kernel_rfl)
             | (refine And.intro ?_ ?_)
             | (intro hx)
             | ((first
                 | (refine callGF ?_)
                 | (refine callQGF ?_)
                 | (refine skipG ?_)
                 | (refine callS (in_gives _ _ _ _) ?_)
                 | (refine callQ (in_gives _ _ _ _) ?_)
                 | (refine callG (fun hc => (in_gives _ _ _ _)) ?_)
                 | (refine callQG (fun hc => (in_gives _ _ _ _)) ?_)); simp -implicitDefEqProofs only [hid, hiz, hif, hbk, push_cast, Nat.reduceEqDiff, Nat.reduceBEq, Nat.reduceBNe, Nat.reduceAdd, Nat.reduceMul, Nat.reduceLT, Nat.reduceLeDiff, Nat.reduceSub, reduceCtorEq, Int.reduceToNat, ↓reduceIte]))
          all_goals first
            | omega
            | exact hby _ hx
            | exact hby
            | trace_state
theorem specHash_gives (tx : List UInt8) (h : Hp) (hl : tx.length ≤ 10000000) : Gives Tryd.prog 41 [.str tx] h (.str (hashV tx)) := by
  have hS := fun g => specSum_gives tx g hl
  rw [hashV]
  have hbl : ((sumV tx).l.flatMap byte4).length = 32 := rfl
  generalize (sumV tx).l.flatMap byte4 = bs at hS hbl
  have hX := fun g => specHex_gives bs g (by omega)
  refine meets_of [] mixed Tryd.func41 rfl (by kernel_rfl) (by kernel_rfl) (by rw [Tryd.ntmps41]; simp only [List.length_cons, List.length_nil]; omega) (fun hf => ?_)
  rw [Tryd.results41]
  clear hf
  try simp -implicitDefEqProofs only [push_cast, Nat.reduceEqDiff, Nat.reduceBEq, Nat.reduceBNe, Nat.reduceAdd, Nat.reduceMul, Nat.reduceLT, Nat.reduceLeDiff, Nat.reduceSub, reduceCtorEq, Int.reduceToNat, ↓reduceIte]
  repeat'
    (first
     | (refine uYes ?_; first | exact List.mem_cons_self | (simp only [List.mem_cons, List.not_mem_nil, or_false, true_or, or_true]; done))
     | (refine uNo (by kernel_rfl))
     | (refine flatMk ?_; kernel_rfl)
     | (refine And.intro ?_ ?_)
     | (intro hx)
     | ((first
         | (refine callGF ?_)
         | (refine callQGF ?_)
         | (refine skipG ?_)
         | (refine callS (hS _) ?_)
         | (refine callQ (hS _) ?_)
         | (refine callG (fun hc => (hS _)) ?_)
         | (refine callQG (fun hc => (hS _)) ?_)
         | (refine callS (hX _) ?_)
         | (refine callQ (hX _) ?_)
         | (refine callG (fun hc => (hX _)) ?_)
         | (refine callQG (fun hc => (hX _)) ?_)); simp -implicitDefEqProofs only [push_cast, Nat.reduceEqDiff, Nat.reduceBEq, Nat.reduceBNe, Nat.reduceAdd, Nat.reduceMul, Nat.reduceLT, Nat.reduceLeDiff, Nat.reduceSub, reduceCtorEq, Int.reduceToNat, ↓reduceIte]))
  all_goals first
    | omega
    | trace_state
end Go.Proofs.YtcmpcpigchlhpaaDoor
