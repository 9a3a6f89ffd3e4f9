/- Lists of numbers and a leg, read by the reference. -/
import Derived.Test.YtdoclnjmcmdfdaaGreatDoorGx
import Derived.Test.YtdoclnjmcmdfdaaGreatDoorGg
import Derived.Test.YtdoclnjmcmdfdaaGreatDoorGo
import Derived.Test.YtdoclnjmcmdfdaaGreatDoorGh

namespace Go.Proofs.YtdoclnjmcmdfdaaGreatDoor
set_option linter.unusedSectionVars false
open Go.Av
variable [Av.Start] [TabPow]
set_option maxRecDepth 10000
set_option maxHeartbeats 1000000
set_option linter.unusedSimpArgs false
set_option linter.unusedVariables false

/-- the numbers that the reference reads -/
def numsS (s : List UInt8) : List Int := ((splitC 44 s).take 5).map num12
theorem l6Nums_gives (s : List UInt8) (h : Hp) (hs : s.length ≤ 10000000) : Gives Tryz.prog 41 [.str s] h (.slice ((numsS s).map (.int .i64)) .no) := by
  have hC := l3Cut_gives s 44
  have hlen := (splitC_le 44 s).1
  rw [numsS]
  generalize splitC 44 s = ws at hC hlen
  refine meets_of [] mixed Tryz.func41 rfl (by kernel_rfl) (by kernel_rfl) (by rw [Tryz.ntmps41]; simp only [List.length_cons, List.length_nil]; omega) (fun hf => ?_)
  rw [Tryz.results41]
  clear hf
  try simp -implicitDefEqProofs only [lenMax, push_cast, Nat.reduceEqDiff, Nat.reduceBEq, Nat.reduceBNe, Nat.reduceAdd, Nat.reduceMul, Nat.reduceLT, Nat.reduceLeDiff, Nat.reduceSub, reduceCtorEq, Int.reduceToNat, ↓reduceIte]
  repeat'
    (first
     | (refine uYes ?_; first | exact List.mem_cons_self | (simp only [List.mem_cons, List.not_mem_nil, or_false, true_or, or_true]; done))
     | (refine uNo (by kernel_rfl))
     | (refine flatMk ?_; kernel_rfl)
     | (refine And.intro ?_ ?_)
     | (intro hx)
     | ((first
         | (refine callGF ?_)
         | (refine callQGF ?_)
         | (refine skipG ?_)
         | (refine callS (hC _ hs) ?_)
         | (refine callQ (hC _ hs) ?_)
         | (refine callG (fun hc => (hC _ hs)) ?_)
         | (refine callQG (fun hc => (hC _ hs)) ?_)); simp -implicitDefEqProofs only [lenMax, push_cast, Nat.reduceEqDiff, Nat.reduceBEq, Nat.reduceBNe, Nat.reduceAdd, Nat.reduceMul, Nat.reduceLT, Nat.reduceLeDiff, Nat.reduceSub, reduceCtorEq, Int.reduceToNat, ↓reduceIte]))
  refine ev_loopB [(4, 1)] (fun k : Nat => [(0, .str s), (2, .slice [] .full), (3, .slice (ws.map .str) .no), (4, .slice (((ws.take k).map num12).map (.int .i64)) (.buf h.length 1)), (5, .int .i64 k)])
    (fun k => [.buf k]) (fun k => k ≤ ws.length ∧ k ≤ 5) (fun k => ws.length - k) 0 ?_ ⟨Nat.zero_le _, Nat.zero_le _⟩ ?_ ?_
  · simp -implicitDefEqProofs only [tokOk, Int.natCast_add, Int.cast_ofNat_Int, List.length_nil, Nat.le_refl, WeakTo, tokSts, tokOks, List.append_cancel_left_eq, exists_eq_left', exists_eq_left, List.append_cancel_left_eq, List.take_length, ObCl, and_true, true_and, push_cast, Nat.reduceEqDiff, Nat.reduceBEq, Nat.reduceBNe, Nat.reduceAdd, Nat.reduceMul, Nat.reduceLT, Nat.reduceLeDiff, Nat.reduceSub, reduceCtorEq, Int.reduceToNat, ↓reduceIte]
  · refine ⟨1, by simp, by simp -implicitDefEqProofs only [tokSt, Int.natCast_add, Int.cast_ofNat_Int, List.length_nil, Nat.le_refl, WeakTo, tokSts, tokOks, List.append_cancel_left_eq, exists_eq_left', exists_eq_left, List.append_cancel_left_eq, List.take_length, ObCl, and_true, true_and, push_cast, Nat.reduceEqDiff, Nat.reduceBEq, Nat.reduceBNe, Nat.reduceAdd, Nat.reduceMul, Nat.reduceLT, Nat.reduceLeDiff, Nat.reduceSub, reduceCtorEq, Int.reduceToNat, ↓reduceIte], ?_⟩
    simp -implicitDefEqProofs only [tokSt, Int.natCast_add, Int.cast_ofNat_Int, List.length_nil, Nat.le_refl, WeakTo, tokSts, tokOks, List.append_cancel_left_eq, exists_eq_left', exists_eq_left, List.append_cancel_left_eq, List.take_length, ObCl, and_true, true_and, push_cast, Nat.reduceEqDiff, Nat.reduceBEq, Nat.reduceBNe, Nat.reduceAdd, Nat.reduceMul, Nat.reduceLT, Nat.reduceLeDiff, Nat.reduceSub, reduceCtorEq, Int.reduceToNat, ↓reduceIte]
  · rintro k ⟨hk, hk5⟩
    have hw : IntKind.i64.wrap ((k : Int) + 1) = k + 1 := wrap_id (by omega) (by omega)
    have hmin : min k ws.length = k := by omega
    by_cases hlt : k < ws.length ∧ k < 5
    · have ht : ws.take (k + 1) = ws.take k ++ [ws.getD k []] := take_succ_getD ws [] hlt.1
      try simp -implicitDefEqProofs only [hw, lenMax, hmin, push_cast, Nat.reduceEqDiff, Nat.reduceBEq, Nat.reduceBNe, Nat.reduceAdd, Nat.reduceMul, Nat.reduceLT, Nat.reduceLeDiff, Nat.reduceSub, reduceCtorEq, Int.reduceToNat, ↓reduceIte]
      repeat'
        (first
         | (refine uYes ?_; first | exact List.mem_cons_self | (simp only [List.mem_cons, List.not_mem_nil, or_false, true_or, or_true]; done))
         | (refine uNo (by kernel_rfl))
         | (refine flatMk ?_; kernel_rfl)
         | (refine And.intro ?_ ?_)
         | (intro hx)
         | ((first
             | (refine callGF ?_)
             | (refine callQGF ?_)
             | (refine skipG ?_)
             | (refine callS (l2Num_gives (ws.getD k []) _) ?_)
             | (refine callQ (l2Num_gives (ws.getD k []) _) ?_)
             | (refine callG (fun hc => (l2Num_gives (ws.getD k []) _)) ?_)
             | (refine callQG (fun hc => (l2Num_gives (ws.getD k []) _)) ?_)); simp -implicitDefEqProofs only [hw, lenMax, hmin, push_cast, Nat.reduceEqDiff, Nat.reduceBEq, Nat.reduceBNe, Nat.reduceAdd, Nat.reduceMul, Nat.reduceLT, Nat.reduceLeDiff, Nat.reduceSub, reduceCtorEq, Int.reduceToNat, ↓reduceIte]))
      all_goals first
        | omega
        | (refine round_mk (k + 1) (by omega) (by omega) ?_
           simp -implicitDefEqProofs only [ht, List.map_append, hw, hmin, Int.natCast_add, Int.cast_ofNat_Int, List.length_nil, Nat.le_refl, WeakTo, tokSts, tokOks, List.append_cancel_left_eq, exists_eq_left', exists_eq_left, List.append_cancel_left_eq, List.take_length, ObCl, and_true, true_and, push_cast, Nat.reduceEqDiff, Nat.reduceBEq, Nat.reduceBNe, Nat.reduceAdd, Nat.reduceMul, Nat.reduceLT, Nat.reduceLeDiff, Nat.reduceSub, reduceCtorEq, Int.reduceToNat, ↓reduceIte])
        | trace_state
    · have he : ws.take 5 = ws.take k := by
        rcases Nat.lt_or_ge k ws.length with h1 | h1
        · rw [show k = 5 by omega]
        · rw [List.take_of_length_le h1, List.take_of_length_le (by omega)]
      rw [he]
      try simp -implicitDefEqProofs only [hw, lenMax, hmin, push_cast, Nat.reduceEqDiff, Nat.reduceBEq, Nat.reduceBNe, Nat.reduceAdd, Nat.reduceMul, Nat.reduceLT, Nat.reduceLeDiff, Nat.reduceSub, reduceCtorEq, Int.reduceToNat, ↓reduceIte]
      repeat'
        (first
         | (refine uYes ?_; first | exact List.mem_cons_self | (simp only [List.mem_cons, List.not_mem_nil, or_false, true_or, or_true]; done))
         | (refine uNo (by kernel_rfl))
         | (refine flatMk ?_; kernel_rfl)
         | (refine And.intro ?_ ?_)
         | (intro hx)
         | ((first
             | (refine callGF ?_)
             | (refine callQGF ?_)
             | (refine skipG ?_)
             | (refine callS (in_gives _ _ _ _) ?_)
             | (refine callQ (in_gives _ _ _ _) ?_)
             | (refine callG (fun hc => (in_gives _ _ _ _)) ?_)
             | (refine callQG (fun hc => (in_gives _ _ _ _)) ?_)); simp -implicitDefEqProofs only [hw, lenMax, hmin, push_cast, Nat.reduceEqDiff, Nat.reduceBEq, Nat.reduceBNe, Nat.reduceAdd, Nat.reduceMul, Nat.reduceLT, Nat.reduceLeDiff, Nat.reduceSub, reduceCtorEq, Int.reduceToNat, ↓reduceIte]))
      all_goals first
        | omega
        | trace_state
/-- the leg that the reference makes of eight words -/
def legRS (ws : List (List UInt8)) : Leg := ⟨ws.getD 0 [], ws.getD 1 [], ws.getD 2 [], num12 (ws.getD 3 []), num12 (ws.getD 4 []), (numsS (ws.getD 5 [])).getD 0 0, numsS (ws.getD 5 []), numsS (ws.getD 6 []), numsS (ws.getD 7 []), []⟩
def legOut (l : Leg) (s : List UInt8) : Leg × Bool := if (if legB l = true then legT l else []) = s then (l, true) else (default, false)
def legVS (s : List UInt8) : Leg × Bool := if (splitC 32 s).length = 8 then legOut (legRS (splitC 32 s)) s else (default, false)
theorem numsS_ne (s : List UInt8) : 0 < (numsS s).length := by
  rw [numsS, List.length_map, List.length_take]
  have := splitC_ne 44 s
  cases h : splitC 44 s with
  | nil => exact absurd h this
  | cons => simp only [List.length_cons]; omega
omit [Av.Start] [TabPow] in
theorem wk_last (xs : List D) (es : List D) (t : Tok) : Wk (.agg (xs ++ [.slice es t])) (.agg (xs ++ [.slice es .no])) := by
  refine .agg _ _ (by simp) fun k h1 h2 => ?_
  by_cases hk : k < xs.length
  · rw [List.getElem_append_left hk, List.getElem_append_left hk]
    exact .refl _
  · obtain rfl : k = xs.length := by simp at h1; omega
    simp only [List.getElem_append_right (Nat.le_refl _), Nat.sub_self, List.getElem_cons_zero]
    exact .tok _ _
/-- a leg of which nothing is held -/
def Leg.cs9 (l : Leg) : List D := [.str l.name, .str l.src, .str l.dst, .int .i64 l.dep, .int .i64 l.arr, .int .i64 l.cap, .slice (l.limits.map (.int .i64)) .no, .slice (l.sold.map (.int .i64)) .no, .slice (l.bids.map (.int .i64)) .no]
omit [Av.Start] [TabPow] in
theorem Leg.wk0 {l : Leg} (h : l.holds = []) : Wk (.agg (l.cs9 ++ [.slice [] .full])) l.d := by
  have := wk_last l.cs9 [] .full
  rw [Leg.d, Leg.cs, h]
  exact this
theorem specLegRead_gives (s : List UInt8) (h : Hp) (hs : s.length ≤ 10000000) : Gives Tryz.prog 16 [.str s] h (.tup [(legVS s).1.d, .bool (legVS s).2]) := by
  have hC := l3Cut_gives s 32
  have hlen := (splitC_le 32 s).1
  have hmem := (splitC_le 32 s).2
  rw [legVS]
  generalize splitC 32 s = ws at hC hlen hmem
  have hg : ∀ k, (ws.getD k []).length ≤ 10000000 := fun k => by
    rcases Nat.lt_or_ge k ws.length with hk | hk
    · have := hmem (ws.getD k []) (by rw [List.getD_eq_getElem?_getD, List.getElem?_eq_getElem hk]; exact List.getElem_mem hk)
      omega
    · rw [List.getD_eq_getElem?_getD, List.getElem?_eq_none hk]
      exact Nat.zero_le _
  by_cases h8 : ws.length = 8
  · rw [if_pos h8]
    have hn := numsS_ne (ws.getD 5 [])
    have hW := fun g => specLegWrite_gives (legRS ws) g
    rw [legOut]
    generalize (if legB (legRS ws) = true then legT (legRS ws) else []) = tx at hW
    have hW := fun g => gives_wk' (ys := [.agg ((legRS ws).cs9 ++ [.slice [] .full])]) (hW g) ⟨Leg.wk0 rfl, trivial⟩
    simp only [legRS, Leg.cs9, List.cons_append, List.nil_append] at hW ⊢
    refine meets_of [] mixed Tryz.func16 rfl (by kernel_rfl) (by kernel_rfl) (by rw [Tryz.ntmps16]; simp only [List.length_cons, List.length_nil]; omega) (fun hf => ?_)
    rw [Tryz.results16]
    clear hf
    try simp -implicitDefEqProofs only [h8, lenMax, push_cast, Nat.reduceEqDiff, Nat.reduceBEq, Nat.reduceBNe, Nat.reduceAdd, Nat.reduceMul, Nat.reduceLT, Nat.reduceLeDiff, Nat.reduceSub, reduceCtorEq, Int.reduceToNat, ↓reduceIte]
    repeat'
      (first
       | (refine uYes ?_; first | exact List.mem_cons_self | (simp only [List.mem_cons, List.not_mem_nil, or_false, true_or, or_true]; done))
       | (refine uNo (by kernel_rfl))
       | (refine flatMk ?_; kernel_rfl)
       | (refine And.intro ?_ ?_)
       | (intro hx)
       | ((first
           | (refine callGF ?_)
           | (refine callQGF ?_)
           | (refine skipG ?_)
           | (refine callS (hC _ hs) ?_)
           | (refine callQ (hC _ hs) ?_)
           | (refine callG (fun hc => (hC _ hs)) ?_)
           | (refine callQG (fun hc => (hC _ hs)) ?_)
           | (refine inX_mkP [] (by kernel_rfl) (by simp) ?_)
           | (refine callXG (dst := some 24) (fun _ => l2Num_gives (ws.getD 3 []) _) ?_)
           | (refine callXG (dst := some 28) (fun _ => l2Num_gives (ws.getD 4 []) _) ?_)
           | (refine callXG (dst := some 32) (fun _ => l6Nums_gives (ws.getD 5 []) _ (hg 5)) ?_)
           | (refine callXG (dst := some 36) (fun _ => l6Nums_gives (ws.getD 6 []) _ (hg 6)) ?_)
           | (refine callXG (dst := some 40) (fun _ => l6Nums_gives (ws.getD 7 []) _ (hg 7)) ?_)
           | (refine callS (hW _) ?_)
           | (refine callQ (hW _) ?_)
           | (refine callG (fun hc => (hW _)) ?_)
           | (refine callQG (fun hc => (hW _)) ?_)); simp -implicitDefEqProofs only [h8, lenMax, push_cast, Nat.reduceEqDiff, Nat.reduceBEq, Nat.reduceBNe, Nat.reduceAdd, Nat.reduceMul, Nat.reduceLT, Nat.reduceLeDiff, Nat.reduceSub, reduceCtorEq, Int.reduceToNat, ↓reduceIte]))
    all_goals first
      | exact absurd rfl hx
      | omega
      | (rw [if_neg hx]; done)
      | (rw [if_neg hx]; rfl)
      | (rw [if_pos hx]; done)
      | (rw [if_pos hx]; rfl)
      | trace_state
  · rw [if_neg h8]
    refine meets_of [] mixed Tryz.func16 rfl (by kernel_rfl) (by kernel_rfl) (by rw [Tryz.ntmps16]; simp only [List.length_cons, List.length_nil]; omega) (fun hf => ?_)
    rw [Tryz.results16]
    clear hf
    try simp -implicitDefEqProofs only [h8, lenMax, push_cast, Nat.reduceEqDiff, Nat.reduceBEq, Nat.reduceBNe, Nat.reduceAdd, Nat.reduceMul, Nat.reduceLT, Nat.reduceLeDiff, Nat.reduceSub, reduceCtorEq, Int.reduceToNat, ↓reduceIte]
    repeat'
      (first
       | (refine uYes ?_; first | exact List.mem_cons_self | (simp only [List.mem_cons, List.not_mem_nil, or_false, true_or, or_true]; done))
       | (refine uNo (by kernel_rfl))
       | (refine flatMk ?_; kernel_rfl)
       | (refine And.intro ?_ ?_)
       | (intro hx)
       | ((first
           | (refine callGF ?_)
           | (refine callQGF ?_)
           | (refine skipG ?_)
           | (refine callS (hC _ hs) ?_)
           | (refine callQ (hC _ hs) ?_)
           | (refine callG (fun hc => (hC _ hs)) ?_)
           | (refine callQG (fun hc => (hC _ hs)) ?_)); simp -implicitDefEqProofs only [h8, lenMax, push_cast, Nat.reduceEqDiff, Nat.reduceBEq, Nat.reduceBNe, Nat.reduceAdd, Nat.reduceMul, Nat.reduceLT, Nat.reduceLeDiff, Nat.reduceSub, reduceCtorEq, Int.reduceToNat, ↓reduceIte]))
    all_goals first
      | omega
      | rfl
      | trace_state
end Go.Proofs.YtdoclnjmcmdfdaaGreatDoor

/- Lists of numbers, read by the program. -/
namespace Go.Proofs.YtdoclnjmcmdfdaaGreatDoor
set_option linter.unusedSectionVars false
open Go.Av
variable [Av.Start] [TabPow] [TabErr] [TabMax]
set_option maxRecDepth 10000
set_option maxHeartbeats 1000000
set_option linter.unusedSimpArgs false
set_option linter.unusedVariables false

/-- the numbers that the program reads, and whether they are all numbers -/
def numsI (s : List UInt8) : List Int := (splitC 44 s).map fun p => (numV p).1
def numsOk (s : List UInt8) : Bool := (splitC 44 s).all fun p => (numV p).2
theorem readR (s : List UInt8) (h : Hp) (hs : s.length ≤ 10000000) (hok : numsOk s = true) : Meets Tryz.prog 38 [.str s] h fun d' h' => d' = .tup [.vec h.length false 1 0 (numsI s).length (numsI s).length, .bool true] ∧ h' = h ++ [.row ((numsI s).map (.int .i64))] := by
  have hC := fun g => split_gives s 44 g hs
  have hlen := (splitC_le 44 s).1
  rw [numsOk, List.all_eq_true] at hok
  rw [numsI]
  generalize splitC 44 s = ws at hC hlen hok
  refine meets_ofC [26] mixed Tryz.func38 rfl (by kernel_rfl) (by kernel_rfl) (by rw [Tryz.ntmps38]; simp only [List.length_cons, List.length_nil]; omega) (fun hf hcl => ?_)
  rw [Tryz.results38]
  clear hf
  try simp -implicitDefEqProofs only [lenMax, push_cast, Nat.reduceEqDiff, Nat.reduceBEq, Nat.reduceBNe, Nat.reduceAdd, Nat.reduceMul, Nat.reduceLT, Nat.reduceLeDiff, Nat.reduceSub, reduceCtorEq, Int.reduceToNat, ↓reduceIte]
  repeat'
    (first
     | (refine uYes ?_; first | exact List.mem_cons_self | (simp only [List.mem_cons, List.not_mem_nil, or_false, true_or, or_true]; done))
     | (refine uNo (by kernel_rfl))
     | (refine flatMk ?_; kernel_rfl)
     | (refine And.intro ?_ ?_)
     | (intro hx)
     | ((first
         | (refine callGF ?_)
         | (refine callQGF ?_)
         | (refine skipG ?_)
         | (refine callS (hC _) ?_)
         | (refine callQ (hC _) ?_)
         | (refine callG (fun hc => (hC _)) ?_)
         | (refine callQG (fun hc => (hC _)) ?_)); simp -implicitDefEqProofs only [lenMax, push_cast, Nat.reduceEqDiff, Nat.reduceBEq, Nat.reduceBNe, Nat.reduceAdd, Nat.reduceMul, Nat.reduceLT, Nat.reduceLeDiff, Nat.reduceSub, reduceCtorEq, Int.reduceToNat, ↓reduceIte]))
  refine ev_loopV0 [(4, false, 1)] (fun k : Nat => [(4, .vec h.length false 1 0 k k), (10, .slice (ws.map .str) .no), (11, .int .i64 ws.length), (12, .int .i64 k)])
    (fun k => [.row (((ws.take k).map fun p => (numV p).1).map (.int .i64))]) (fun k => k ≤ ws.length) (fun k => ws.length - k) 0 (Nat.zero_le _) ?_ ?_
  · simp -implicitDefEqProofs only [Int.natCast_add, Int.cast_ofNat_Int, List.length_nil, Nat.le_refl, WeakTo, tokSts, tokOks, List.append_cancel_left_eq, exists_eq_left', exists_eq_left, List.append_cancel_left_eq, List.take_length, ObCl, and_true, true_and, push_cast, Nat.reduceEqDiff, Nat.reduceBEq, Nat.reduceBNe, Nat.reduceAdd, Nat.reduceMul, Nat.reduceLT, Nat.reduceLeDiff, Nat.reduceSub, reduceCtorEq, Int.reduceToNat, ↓reduceIte]
  · intro k hk
    have hw : IntKind.i64.wrap ((k : Int) + 1) = k + 1 := wrap_id (by omega) (by omega)
    by_cases hlt : k < ws.length
    · have ht : ws.take (k + 1) = ws.take k ++ [ws.getD k []] := take_succ_getD ws [] hlt
      have hv : (numV (ws.getD k [])).2 = true := hok _ (by rw [List.getD_eq_getElem?_getD, List.getElem?_eq_getElem hlt]; exact List.getElem_mem hlt)
      have hN := number_gives (ws.getD k [])
      rw [hv] at hN
      try simp -implicitDefEqProofs only [hw, lenMax, push_cast, Nat.reduceEqDiff, Nat.reduceBEq, Nat.reduceBNe, Nat.reduceAdd, Nat.reduceMul, Nat.reduceLT, Nat.reduceLeDiff, Nat.reduceSub, reduceCtorEq, Int.reduceToNat, ↓reduceIte]
      repeat'
        (first
         | (refine uYes ?_; first | exact List.mem_cons_self | (simp only [List.mem_cons, List.not_mem_nil, or_false, true_or, or_true]; done))
         | (refine uNo (by kernel_rfl))
         | (refine flatMk ?_; kernel_rfl)
         | (refine And.intro ?_ ?_)
         | (intro hx)
         | ((first
             | (refine callGF ?_)
             | (refine callQGF ?_)
             | (refine skipG ?_)
             | (refine callS (hN _) ?_)
             | (refine callQ (hN _) ?_)
             | (refine callG (fun hc => (hN _)) ?_)
             | (refine callQG (fun hc => (hN _)) ?_)); simp -implicitDefEqProofs only [hw, lenMax, push_cast, Nat.reduceEqDiff, Nat.reduceBEq, Nat.reduceBNe, Nat.reduceAdd, Nat.reduceMul, Nat.reduceLT, Nat.reduceLeDiff, Nat.reduceSub, reduceCtorEq, Int.reduceToNat, ↓reduceIte]))
      all_goals first
        | omega
        | (refine round_mkC (k + 1) (by omega) (by omega) [] [.dead] [.row (((ws.take (k + 1)).map fun p => (numV p).1).map (.int .i64))] [.row (((ws.take (k + 1)).map fun p => (numV p).1).map (.int .i64))] ?_ rfl (by simp) hcl (fun x hx => nomatch hx) rfl (renOb_one (ints_ren _ _ _)) ?_
           · simp -implicitDefEqProofs only [ht, List.map_append, push_cast, Nat.reduceEqDiff, Nat.reduceBEq, Nat.reduceBNe, Nat.reduceAdd, Nat.reduceMul, Nat.reduceLT, Nat.reduceLeDiff, Nat.reduceSub, reduceCtorEq, Int.reduceToNat, ↓reduceIte]
           · simp -implicitDefEqProofs only [hw, Int.natCast_add, Int.cast_ofNat_Int, List.length_nil, Nat.le_refl, WeakTo, tokSts, tokOks, List.append_cancel_left_eq, exists_eq_left', exists_eq_left, List.append_cancel_left_eq, List.take_length, ObCl, and_true, true_and, push_cast, Nat.reduceEqDiff, Nat.reduceBEq, Nat.reduceBNe, Nat.reduceAdd, Nat.reduceMul, Nat.reduceLT, Nat.reduceLeDiff, Nat.reduceSub, reduceCtorEq, Int.reduceToNat, ↓reduceIte]
             exact rw_vec (by omega) (by omega) (by omega) (by omega))
        | trace_state
    · obtain rfl : k = ws.length := by omega
      try simp -implicitDefEqProofs only [hw, lenMax, List.take_length, push_cast, Nat.reduceEqDiff, Nat.reduceBEq, Nat.reduceBNe, Nat.reduceAdd, Nat.reduceMul, Nat.reduceLT, Nat.reduceLeDiff, Nat.reduceSub, reduceCtorEq, Int.reduceToNat, ↓reduceIte]
      repeat'
        (first
         | (refine uYes ?_; first | exact List.mem_cons_self | (simp only [List.mem_cons, List.not_mem_nil, or_false, true_or, or_true]; done))
         | (refine uNo (by kernel_rfl))
         | (refine flatMk ?_; kernel_rfl)
         | (refine And.intro ?_ ?_)
         | (intro hx)
         | ((first
             | (refine callGF ?_)
             | (refine callQGF ?_)
             | (refine skipG ?_)
             | (refine callS (iClipR _ _ _ _ (by simp) (Nat.le_refl _)) ?_)
             | (refine callQ (iClipR _ _ _ _ (by simp) (Nat.le_refl _)) ?_)
             | (refine callG (fun hc => (iClipR _ _ _ _ (by simp) (Nat.le_refl _))) ?_)
             | (refine callQG (fun hc => (iClipR _ _ _ _ (by simp) (Nat.le_refl _))) ?_)); simp -implicitDefEqProofs only [hw, lenMax, List.take_length, push_cast, Nat.reduceEqDiff, Nat.reduceBEq, Nat.reduceBNe, Nat.reduceAdd, Nat.reduceMul, Nat.reduceLT, Nat.reduceLeDiff, Nat.reduceSub, reduceCtorEq, Int.reduceToNat, ↓reduceIte]))
      all_goals first
        | omega
        | (obtain ⟨x, _, rfl⟩ := List.mem_map.1 hx
           exact .int _ _)
        | trace_state
theorem readBad (s : List UInt8) (h : Hp) (hs : s.length ≤ 10000000) (hok : numsOk s = false) : Gives Tryz.prog 38 [.str s] h (.tup [.slice [] .full, .bool false]) := by
  have hC := fun g => split_gives s 44 g hs
  have hlen := (splitC_le 44 s).1
  have hok : ¬ ∀ p, p ∈ splitC 44 s → (numV p).2 = true := fun h => by rw [numsOk, List.all_eq_true.2 h] at hok; cases hok
  generalize splitC 44 s = ws at hC hlen hok
  refine meets_ofC [26] mixed Tryz.func38 rfl (by kernel_rfl) (by kernel_rfl) (by rw [Tryz.ntmps38]; simp only [List.length_cons, List.length_nil]; omega) (fun hf hcl => ?_)
  rw [Tryz.results38]
  clear hf
  try simp -implicitDefEqProofs only [lenMax, push_cast, Nat.reduceEqDiff, Nat.reduceBEq, Nat.reduceBNe, Nat.reduceAdd, Nat.reduceMul, Nat.reduceLT, Nat.reduceLeDiff, Nat.reduceSub, reduceCtorEq, Int.reduceToNat, ↓reduceIte]
  repeat'
    (first
     | (refine uYes ?_; first | exact List.mem_cons_self | (simp only [List.mem_cons, List.not_mem_nil, or_false, true_or, or_true]; done))
     | (refine uNo (by kernel_rfl))
     | (refine flatMk ?_; kernel_rfl)
     | (refine And.intro ?_ ?_)
     | (intro hx)
     | ((first
         | (refine callGF ?_)
         | (refine callQGF ?_)
         | (refine skipG ?_)
         | (refine callS (hC _) ?_)
         | (refine callQ (hC _) ?_)
         | (refine callG (fun hc => (hC _)) ?_)
         | (refine callQG (fun hc => (hC _)) ?_)); simp -implicitDefEqProofs only [lenMax, push_cast, Nat.reduceEqDiff, Nat.reduceBEq, Nat.reduceBNe, Nat.reduceAdd, Nat.reduceMul, Nat.reduceLT, Nat.reduceLeDiff, Nat.reduceSub, reduceCtorEq, Int.reduceToNat, ↓reduceIte]))
  refine ev_loopV0 [(4, false, 1)] (fun k : Nat => [(4, .vec h.length false 1 0 k k), (10, .slice (ws.map .str) .no), (11, .int .i64 ws.length), (12, .int .i64 k)])
    (fun k => [.row (((ws.take k).map fun p => (numV p).1).map (.int .i64))]) (fun k => k ≤ ws.length ∧ ∀ i, i < k → (numV (ws.getD i [])).2 = true) (fun k => ws.length - k) 0 ⟨Nat.zero_le _, fun i hi => absurd hi (Nat.not_lt_zero i)⟩ ?_ ?_
  · simp -implicitDefEqProofs only [Int.natCast_add, Int.cast_ofNat_Int, List.length_nil, Nat.le_refl, WeakTo, tokSts, tokOks, List.append_cancel_left_eq, exists_eq_left', exists_eq_left, List.append_cancel_left_eq, List.take_length, ObCl, and_true, true_and, push_cast, Nat.reduceEqDiff, Nat.reduceBEq, Nat.reduceBNe, Nat.reduceAdd, Nat.reduceMul, Nat.reduceLT, Nat.reduceLeDiff, Nat.reduceSub, reduceCtorEq, Int.reduceToNat, ↓reduceIte]
  · rintro k ⟨hk, hall⟩
    have hw : IntKind.i64.wrap ((k : Int) + 1) = k + 1 := wrap_id (by omega) (by omega)
    by_cases hlt : k < ws.length
    · have ht : ws.take (k + 1) = ws.take k ++ [ws.getD k []] := take_succ_getD ws [] hlt
      have hN := number_gives (ws.getD k [])
      cases hv : (numV (ws.getD k [])).2 with
      | true =>
        rw [hv] at hN
        try simp -implicitDefEqProofs only [hw, lenMax, push_cast, Nat.reduceEqDiff, Nat.reduceBEq, Nat.reduceBNe, Nat.reduceAdd, Nat.reduceMul, Nat.reduceLT, Nat.reduceLeDiff, Nat.reduceSub, reduceCtorEq, Int.reduceToNat, ↓reduceIte]
        repeat'
          (first
           | (refine uYes ?_; first | exact List.mem_cons_self | (simp only [List.mem_cons, List.not_mem_nil, or_false, true_or, or_true]; done))
           | (refine uNo (by kernel_rfl))
           | (refine flatMk ?_; kernel_rfl)
           | (refine And.intro ?_ ?_)
           | (intro hx)
           | ((first
               | (refine callGF ?_)
               | (refine callQGF ?_)
               | (refine skipG ?_)
               | (refine callS (hN _) ?_)
               | (refine callQ (hN _) ?_)
               | (refine callG (fun hc => (hN _)) ?_)
               | (refine callQG (fun hc => (hN _)) ?_)); simp -implicitDefEqProofs only [hw, lenMax, push_cast, Nat.reduceEqDiff, Nat.reduceBEq, Nat.reduceBNe, Nat.reduceAdd, Nat.reduceMul, Nat.reduceLT, Nat.reduceLeDiff, Nat.reduceSub, reduceCtorEq, Int.reduceToNat, ↓reduceIte]))
        all_goals first
          | omega
          | (refine round_mkC (k + 1) ⟨by omega, fun i hi => by rcases Nat.lt_succ_iff_lt_or_eq.1 hi with h | rfl; exact hall i h; exact hv⟩ (by omega) [] [.dead] [.row (((ws.take (k + 1)).map fun p => (numV p).1).map (.int .i64))] [.row (((ws.take (k + 1)).map fun p => (numV p).1).map (.int .i64))] ?_ rfl (by simp) hcl (fun x hx => nomatch hx) rfl (renOb_one (ints_ren _ _ _)) ?_
             · simp -implicitDefEqProofs only [ht, List.map_append, push_cast, Nat.reduceEqDiff, Nat.reduceBEq, Nat.reduceBNe, Nat.reduceAdd, Nat.reduceMul, Nat.reduceLT, Nat.reduceLeDiff, Nat.reduceSub, reduceCtorEq, Int.reduceToNat, ↓reduceIte]
             · simp -implicitDefEqProofs only [hw, Int.natCast_add, Int.cast_ofNat_Int, List.length_nil, Nat.le_refl, WeakTo, tokSts, tokOks, List.append_cancel_left_eq, exists_eq_left', exists_eq_left, List.append_cancel_left_eq, List.take_length, ObCl, and_true, true_and, push_cast, Nat.reduceEqDiff, Nat.reduceBEq, Nat.reduceBNe, Nat.reduceAdd, Nat.reduceMul, Nat.reduceLT, Nat.reduceLeDiff, Nat.reduceSub, reduceCtorEq, Int.reduceToNat, ↓reduceIte]
               exact rw_vec (by omega) (by omega) (by omega) (by omega))
          | trace_state
      | false =>
        rw [hv] at hN
        try simp -implicitDefEqProofs only [hw, lenMax, push_cast, Nat.reduceEqDiff, Nat.reduceBEq, Nat.reduceBNe, Nat.reduceAdd, Nat.reduceMul, Nat.reduceLT, Nat.reduceLeDiff, Nat.reduceSub, reduceCtorEq, Int.reduceToNat, ↓reduceIte]
        repeat'
          (first
           | (refine uYes ?_; first | exact List.mem_cons_self | (simp only [List.mem_cons, List.not_mem_nil, or_false, true_or, or_true]; done))
           | (refine uNo (by kernel_rfl))
           | (refine flatMk ?_; kernel_rfl)
           | (refine And.intro ?_ ?_)
           | (intro hx)
           | ((first
               | (refine callGF ?_)
               | (refine callQGF ?_)
               | (refine skipG ?_)
               | (refine callS (hN _) ?_)
               | (refine callQ (hN _) ?_)
               | (refine callG (fun hc => (hN _)) ?_)
               | (refine callQG (fun hc => (hN _)) ?_)); simp -implicitDefEqProofs only [hw, lenMax, push_cast, Nat.reduceEqDiff, Nat.reduceBEq, Nat.reduceBNe, Nat.reduceAdd, Nat.reduceMul, Nat.reduceLT, Nat.reduceLeDiff, Nat.reduceSub, reduceCtorEq, Int.reduceToNat, ↓reduceIte]))
        all_goals first
          | omega
          | rfl
          | trace_state
    · refine absurd (fun p hp => ?_) hok
      obtain ⟨i, hi, rfl⟩ := List.getElem_of_mem hp
      have := hall i (by omega)
      rwa [List.getD_eq_getElem?_getD, List.getElem?_eq_getElem hi] at this
end Go.Proofs.YtdoclnjmcmdfdaaGreatDoor

/- A leg's text, read by the program: plain law, and by value. -/
namespace Go.Proofs.YtdoclnjmcmdfdaaGreatDoor
set_option linter.unusedSectionVars false
open Go.Av
variable [Av.Start] [TabPow] [TabErr] [TabMax]
set_option maxRecDepth 10000
set_option maxHeartbeats 1000000
set_option linter.unusedSimpArgs false
set_option linter.unusedVariables false

/-- the leg that the program makes of eight words -/
def legRI (ws : List (List UInt8)) : Leg := ⟨ws.getD 0 [], ws.getD 1 [], ws.getD 2 [], (numV (ws.getD 3 [])).1, (numV (ws.getD 4 [])).1, (numsI (ws.getD 5 [])).getD 0 0, numsI (ws.getD 5 []), numsI (ws.getD 6 []), numsI (ws.getD 7 []), []⟩
def legNums (ws : List (List UInt8)) : Bool := (numV (ws.getD 3 [])).2 && (numV (ws.getD 4 [])).2 && numsOk (ws.getD 5 []) && numsOk (ws.getD 6 []) && numsOk (ws.getD 7 [])
def legVI (s : List UInt8) : Leg × Bool := if (splitC 32 s).length = 8 ∧ legNums (splitC 32 s) = true then legOut (legRI (splitC 32 s)) s else (default, false)
omit [Av.Start] [TabPow] [TabErr] [TabMax] in
theorem numV_num12 {p : List UInt8} (h : (numV p).2 = true) (h0 : 0 ≤ (numV p).1) (h1 : (numV p).1 < 1000000000000) : num12 p = (numV p).1 := by
  obtain ⟨e, _, _⟩ := numV_true h
  rw [e, num12_itoa h0 h1, ← e]
omit [Av.Start] [TabPow] [TabErr] [TabMax] in
theorem num12_numV {p : List UInt8} (h : 0 ≤ num12 p) : numV p = (num12 p, true) := by
  obtain ⟨e, h1⟩ := num12_pos h
  have := numV_itoa (n := num12 p) (by omega) (by omega)
  rwa [← e] at this
omit [Av.Start] [TabPow] [TabErr] [TabMax] in
theorem nums_IS {s : List UInt8} (hok : numsOk s = true) (hl : (numsI s).length ≤ 4) (hb : ∀ x, x ∈ numsI s → 0 ≤ x ∧ x < 1000000000000) : numsS s = numsI s := by
  rw [numsI, List.length_map] at hl
  rw [numsS, List.take_of_length_le (by omega), numsI]
  refine List.map_congr_left fun p hp => ?_
  have h2 := hb _ (List.mem_map.2 ⟨p, hp, rfl⟩)
  exact numV_num12 (List.all_eq_true.1 hok p hp) h2.1 h2.2
omit [Av.Start] [TabPow] [TabErr] [TabMax] in
theorem nums_SI {s : List UInt8} (hl : (numsS s).length ≤ 4) (hb : ∀ x, x ∈ numsS s → 0 ≤ x) : numsOk s = true ∧ numsI s = numsS s := by
  have hl2 : (splitC 44 s).length ≤ 4 := by
    rw [numsS, List.length_map, List.length_take] at hl
    omega
  have ht : (splitC 44 s).take 5 = splitC 44 s := List.take_of_length_le (by omega)
  rw [numsS, ht] at hb ⊢
  have hp : ∀ p, p ∈ splitC 44 s → numV p = (num12 p, true) := fun p hp => num12_numV (hb _ (List.mem_map.2 ⟨p, hp, rfl⟩))
  exact ⟨List.all_eq_true.2 fun p h => by rw [hp p h], List.map_congr_left fun p h => by rw [hp p h]⟩
omit [TabPow] [TabErr] [TabMax] in
theorem legB_nums {l : Leg} (hb : legB l = true) : (0 ≤ l.dep ∧ l.dep < 1000000000000) ∧ (0 ≤ l.arr ∧ l.arr < 1000000000000) ∧ (l.limits.length ≤ 4 ∧ ∀ x, x ∈ l.limits → 0 ≤ x ∧ x < 1000000000000) ∧ (l.sold.length ≤ 4 ∧ ∀ x, x ∈ l.sold → 0 ≤ x ∧ x < 1000000000000) ∧ l.bids.length ≤ 4 ∧ ∀ x, x ∈ l.bids → 0 ≤ x ∧ x < 1000000000000 := by
  have hp := legP_of hb
  have h1 := hp.dep
  have h2 := hp.arr
  have h3 := hp.cap
  refine ⟨by omega, by omega, ⟨by have := hp.limits; omega, fun x hx => ?_⟩, ⟨by have := hp.sold; omega, fun x hx => ?_⟩, hp.bids.2, fun x hx => ?_⟩
  · obtain ⟨i, hi, rfl⟩ := List.getElem_of_mem hx
    have := hp.lim i (by have := hp.limits; omega)
    rw [List.getD_eq_getElem?_getD, List.getElem?_eq_getElem hi] at this
    simp only [Option.getD_some] at this
    omega
  · have := hp.sol x hx
    omega
  · obtain ⟨i, hi, rfl⟩ := List.getElem_of_mem hx
    have := hp.bid i hi
    rw [List.getD_eq_getElem?_getD, List.getElem?_eq_getElem hi] at this
    simp only [Option.getD_some] at this
    omega
omit [TabPow] [TabErr] [TabMax] in
theorem legRd_eq (s : List UInt8) : legVI s = legVS s := by
  rw [legVI, legVS]
  by_cases h8 : (splitC 32 s).length = 8
  · rw [if_pos h8]
    have hs : s ≠ [] := fun e => by rw [e] at h8; cases h8
    generalize splitC 32 s = ws at h8
    have hIS : legNums ws = true → legB (legRI ws) = true → legRS ws = legRI ws := fun hn hb => by
      obtain ⟨h1, h2, h3, h4, h5⟩ := legB_nums hb
      simp only [legNums, Bool.and_eq_true] at hn
      obtain ⟨⟨⟨⟨n1, n2⟩, n3⟩, n4⟩, n5⟩ := hn
      simp only [legRI] at h1 h2 h3 h4 h5
      rw [legRS, legRI, nums_IS n3 h3.1 h3.2, nums_IS n4 h4.1 h4.2, nums_IS n5 h5.1 h5.2, numV_num12 n1 h1.1 h1.2, numV_num12 n2 h2.1 h2.2]
    have hSI : legB (legRS ws) = true → legNums ws = true ∧ legRI ws = legRS ws := fun hb => by
      obtain ⟨h1, h2, h3, h4, h5⟩ := legB_nums hb
      simp only [legRS] at h1 h2 h3 h4 h5
      obtain ⟨a3, b3⟩ := nums_SI h3.1 (fun x hx => (h3.2 x hx).1)
      obtain ⟨a4, b4⟩ := nums_SI h4.1 (fun x hx => (h4.2 x hx).1)
      obtain ⟨a5, b5⟩ := nums_SI h5.1 (fun x hx => (h5.2 x hx).1)
      have a1 := num12_numV h1.1
      have a2 := num12_numV h2.1
      exact ⟨by rw [legNums, a1, a2, a3, a4, a5]; rfl, by rw [legRS, legRI, b3, b4, b5, a1, a2]⟩
    have hout : ∀ l, legB l = false → legOut l s = (default, false) := fun l hb => by
      rw [legOut, hb, if_neg]
      exact fun e => hs e.symm
    cases hbs : legB (legRS ws) with
    | true =>
      obtain ⟨a, b⟩ := hSI hbs
      rw [if_pos ⟨h8, a⟩, b]
    | false =>
      rw [hout _ hbs]
      by_cases hn : legNums ws = true
      · rw [if_pos ⟨h8, hn⟩]
        cases hbi : legB (legRI ws) with
        | true =>
          rw [hIS hn hbi, hbi] at hbs
          cases hbs
        | false => exact hout _ hbi
      · rw [if_neg fun h => hn h.2]
  · rw [if_neg h8, if_neg fun h => h8 h.1]
end Go.Proofs.YtdoclnjmcmdfdaaGreatDoor

/- A leg's text, read by the program: the walk by value. -/
namespace Go.Proofs.YtdoclnjmcmdfdaaGreatDoor
set_option linter.unusedSectionVars false
open Go.Av
variable [Av.Start] [TabPow] [TabErr] [TabMax]
set_option maxRecDepth 10000
set_option maxHeartbeats 1000000
set_option linter.unusedSimpArgs false
set_option linter.unusedVariables false

omit [TabPow] [TabErr] [TabMax] in
theorem gives_wkr {P : Program} {f : FuncId} {args : List D} {h : Hp} {d d' : D} (H : Gives P f args h d) (hw : Wk d d') : Gives P f args h d' := by
  refine ⟨H.1, fun w σ vs hi hr => (H.2 w σ vs hi hr).mono ?_⟩
  rintro e w' ⟨v, he, x, h', σ', ⟨rfl, rfl⟩, hi', hd, hst⟩
  exact ⟨v, he, _, _, σ', ⟨rfl, rfl⟩, hi', hd.wk hw, hst⟩
def numsIf (s : List UInt8) : List Int := if numsOk s = true then numsI s else []
theorem readG (s : List UInt8) (h : Hp) (hs : s.length ≤ 10000000) : Gives Tryz.prog 38 [.str s] h (.tup [.slice ((numsIf s).map (.int .i64)) .no, .bool (numsOk s)]) := by
  rw [numsIf]
  cases hok : numsOk s with
  | true =>
    rw [if_pos rfl]
    refine Meets.freeze (readR s h hs hok) ((fw_tup _ _ _ _).2 ⟨fw_ints (Nat.le_refl _) (ob_app0 _ _) rfl, fw_refl _ _ _, trivial⟩) (.tup _ fun c hc => ?_)
    simp only [List.mem_cons, List.not_mem_nil, or_false] at hc
    rcases hc with rfl | rfl
    · exact .slice _ _ (fun _ _ e => nomatch e)
    · exact .bool _
  | false => exact gives_wkr (readBad s h hs hok) ((wk_tup _ _).2 ⟨.tok _ _, .refl _, trivial⟩)
theorem getD_len {s : List UInt8} {ws : List (List UInt8)} (hmem : ∀ w, w ∈ ws → w.length ≤ s.length) (k : Nat) : (ws.getD k []).length ≤ s.length := by
  rcases Nat.lt_or_ge k ws.length with hk | hk
  · exact hmem _ (by rw [List.getD_eq_getElem?_getD, List.getElem?_eq_getElem hk]; exact List.getElem_mem hk)
  · rw [List.getD_eq_getElem?_getD, List.getElem?_eq_none hk]
    exact Nat.zero_le _
theorem numsI_ne (s : List UInt8) : 0 < (numsI s).length := by
  rw [numsI, List.length_map]
  have := splitC_ne 44 s
  cases h : splitC 44 s with
  | nil => exact absurd h this
  | cons => simp only [List.length_cons]; omega
theorem implLegRead_gives (s : List UInt8) (h : Hp) (hs : s.length ≤ 10000000) : Gives Tryz.prog 15 [.str s] h (.tup [(legVI s).1.d, .bool (legVI s).2]) := by
  have hC := fun g => split_gives s 32 g hs
  have hlen := (splitC_le 32 s).1
  have hmem := (splitC_le 32 s).2
  rw [legVI]
  generalize splitC 32 s = ws at hC hlen hmem
  have hg := fun k => Nat.le_trans (getD_len hmem k) hs
  by_cases h8 : ws.length = 8
  · cases hn : legNums ws with
    | true =>
      rw [if_pos ⟨h8, rfl⟩]
      simp only [legNums, Bool.and_eq_true] at hn
      obtain ⟨⟨⟨⟨n1, n2⟩, n3⟩, n4⟩, n5⟩ := hn
      have c1 := number_gives (ws.getD 3 [])
      have c2 := number_gives (ws.getD 4 [])
      have c3 := fun g => readG (ws.getD 5 []) g (hg 5)
      have c4 := fun g => readG (ws.getD 6 []) g (hg 6)
      have c5 := fun g => readG (ws.getD 7 []) g (hg 7)
      simp only [numsIf, n1, n2, n3, n4, n5, if_true] at c1 c2 c3 c4 c5
      have hne := numsI_ne (ws.getD 5 [])
      have hW := fun g => implLegWrite_gives (legRI ws) g
      rw [legOut]
      generalize (if legB (legRI ws) = true then legT (legRI ws) else []) = tx at hW
      have hW := fun g => gives_wk' (ys := [.agg ((legRI ws).cs9 ++ [.slice [] .full])]) (hW g) ⟨Leg.wk0 rfl, trivial⟩
      simp only [legRI, Leg.cs9, List.cons_append, List.nil_append] at hW ⊢
      refine meets_of [] mixed Tryz.func15 rfl (by kernel_rfl) (by kernel_rfl) (by rw [Tryz.ntmps15]; simp only [List.length_cons, List.length_nil]; omega) (fun hf => ?_)
      rw [Tryz.results15]
      clear hf
      try simp -implicitDefEqProofs only [h8, lenMax, push_cast, Nat.reduceEqDiff, Nat.reduceBEq, Nat.reduceBNe, Nat.reduceAdd, Nat.reduceMul, Nat.reduceLT, Nat.reduceLeDiff, Nat.reduceSub, reduceCtorEq, Int.reduceToNat, ↓reduceIte]
      repeat'
        (first
         | (refine uYes ?_; first | exact List.mem_cons_self | (simp only [List.mem_cons, List.not_mem_nil, or_false, true_or, or_true]; done))
         | (refine uNo (by kernel_rfl))
         | (refine flatMk ?_; kernel_rfl)
         | (refine And.intro ?_ ?_)
         | (intro hx)
         | ((first
             | (refine callGF ?_)
             | (refine callQGF ?_)
             | (refine skipG ?_)
             | (refine callS (hC _) ?_)
             | (refine callQ (hC _) ?_)
             | (refine callG (fun hc => (hC _)) ?_)
             | (refine callQG (fun hc => (hC _)) ?_)
             | (refine callS (c1 _) ?_)
             | (refine callQ (c1 _) ?_)
             | (refine callG (fun hc => (c1 _)) ?_)
             | (refine callQG (fun hc => (c1 _)) ?_)
             | (refine callS (c2 _) ?_)
             | (refine callQ (c2 _) ?_)
             | (refine callG (fun hc => (c2 _)) ?_)
             | (refine callQG (fun hc => (c2 _)) ?_)
             | (refine callS (c3 _) ?_)
             | (refine callQ (c3 _) ?_)
             | (refine callG (fun hc => (c3 _)) ?_)
             | (refine callQG (fun hc => (c3 _)) ?_)
             | (refine callS (c4 _) ?_)
             | (refine callQ (c4 _) ?_)
             | (refine callG (fun hc => (c4 _)) ?_)
             | (refine callQG (fun hc => (c4 _)) ?_)
             | (refine callS (c5 _) ?_)
             | (refine callQ (c5 _) ?_)
             | (refine callG (fun hc => (c5 _)) ?_)
             | (refine callQG (fun hc => (c5 _)) ?_)
             | (refine inX_mkP [] (by kernel_rfl) (by simp) ?_)
             | (refine callS (hW _) ?_)
             | (refine callQ (hW _) ?_)
             | (refine callG (fun hc => (hW _)) ?_)
             | (refine callQG (fun hc => (hW _)) ?_)); simp -implicitDefEqProofs only [h8, lenMax, push_cast, Nat.reduceEqDiff, Nat.reduceBEq, Nat.reduceBNe, Nat.reduceAdd, Nat.reduceMul, Nat.reduceLT, Nat.reduceLeDiff, Nat.reduceSub, reduceCtorEq, Int.reduceToNat, ↓reduceIte]))
      all_goals first
        | exact absurd rfl hx
        | omega
        | (rw [if_neg hx]; done)
        | (rw [if_neg hx]; rfl)
        | (rw [if_pos hx]; done)
        | (rw [if_pos hx]; rfl)
        | trace_state
    | false =>
      rw [if_neg (fun h => nomatch h.2)]
      have c1 := number_gives (ws.getD 3 [])
      have c2 := number_gives (ws.getD 4 [])
      have c3 := fun g => readG (ws.getD 5 []) g (hg 5)
      have c4 := fun g => readG (ws.getD 6 []) g (hg 6)
      have c5 := fun g => readG (ws.getD 7 []) g (hg 7)
      refine meets_of [] mixed Tryz.func15 rfl (by kernel_rfl) (by kernel_rfl) (by rw [Tryz.ntmps15]; simp only [List.length_cons, List.length_nil]; omega) (fun hf => ?_)
      rw [Tryz.results15]
      clear hf
      try simp -implicitDefEqProofs only [h8, lenMax, push_cast, Nat.reduceEqDiff, Nat.reduceBEq, Nat.reduceBNe, Nat.reduceAdd, Nat.reduceMul, Nat.reduceLT, Nat.reduceLeDiff, Nat.reduceSub, reduceCtorEq, Int.reduceToNat, ↓reduceIte]
      repeat'
        (first
         | (refine uYes ?_; first | exact List.mem_cons_self | (simp only [List.mem_cons, List.not_mem_nil, or_false, true_or, or_true]; done))
         | (refine uNo (by kernel_rfl))
         | (refine flatMk ?_; kernel_rfl)
         | (refine And.intro ?_ ?_)
         | (intro hx)
         | ((first
             | (refine callGF ?_)
             | (refine callQGF ?_)
             | (refine skipG ?_)
             | (refine callS (hC _) ?_)
             | (refine callQ (hC _) ?_)
             | (refine callG (fun hc => (hC _)) ?_)
             | (refine callQG (fun hc => (hC _)) ?_)
             | (refine callS (c1 _) ?_)
             | (refine callQ (c1 _) ?_)
             | (refine callG (fun hc => (c1 _)) ?_)
             | (refine callQG (fun hc => (c1 _)) ?_)
             | (refine callS (c2 _) ?_)
             | (refine callQ (c2 _) ?_)
             | (refine callG (fun hc => (c2 _)) ?_)
             | (refine callQG (fun hc => (c2 _)) ?_)
             | (refine callS (c3 _) ?_)
             | (refine callQ (c3 _) ?_)
             | (refine callG (fun hc => (c3 _)) ?_)
             | (refine callQG (fun hc => (c3 _)) ?_)
             | (refine callS (c4 _) ?_)
             | (refine callQ (c4 _) ?_)
             | (refine callG (fun hc => (c4 _)) ?_)
             | (refine callQG (fun hc => (c4 _)) ?_)
             | (refine callS (c5 _) ?_)
             | (refine callQ (c5 _) ?_)
             | (refine callG (fun hc => (c5 _)) ?_)
             | (refine callQG (fun hc => (c5 _)) ?_)); simp -implicitDefEqProofs only [h8, lenMax, push_cast, Nat.reduceEqDiff, Nat.reduceBEq, Nat.reduceBNe, Nat.reduceAdd, Nat.reduceMul, Nat.reduceLT, Nat.reduceLeDiff, Nat.reduceSub, reduceCtorEq, Int.reduceToNat, ↓reduceIte]))
      all_goals first
        | exact absurd rfl hx
        | omega
        | rfl
        | (exfalso
           rw [legNums] at hn
           clear c1 c2 c3 c4 c5 hC
           grind)
        | trace_state
  · rw [if_neg (fun h => h8 h.1)]
    refine meets_of [] mixed Tryz.func15 rfl (by kernel_rfl) (by kernel_rfl) (by rw [Tryz.ntmps15]; simp only [List.length_cons, List.length_nil]; omega) (fun hf => ?_)
    rw [Tryz.results15]
    clear hf
    try simp -implicitDefEqProofs only [h8, lenMax, push_cast, Nat.reduceEqDiff, Nat.reduceBEq, Nat.reduceBNe, Nat.reduceAdd, Nat.reduceMul, Nat.reduceLT, Nat.reduceLeDiff, Nat.reduceSub, reduceCtorEq, Int.reduceToNat, ↓reduceIte]
    repeat'
      (first
       | (refine uYes ?_; first | exact List.mem_cons_self | (simp only [List.mem_cons, List.not_mem_nil, or_false, true_or, or_true]; done))
       | (refine uNo (by kernel_rfl))
       | (refine flatMk ?_; kernel_rfl)
       | (refine And.intro ?_ ?_)
       | (intro hx)
       | ((first
           | (refine callGF ?_)
           | (refine callQGF ?_)
           | (refine skipG ?_)
           | (refine callS (hC _) ?_)
           | (refine callQ (hC _) ?_)
           | (refine callG (fun hc => (hC _)) ?_)
           | (refine callQG (fun hc => (hC _)) ?_)); simp -implicitDefEqProofs only [h8, lenMax, push_cast, Nat.reduceEqDiff, Nat.reduceBEq, Nat.reduceBNe, Nat.reduceAdd, Nat.reduceMul, Nat.reduceLT, Nat.reduceLeDiff, Nat.reduceSub, reduceCtorEq, Int.reduceToNat, ↓reduceIte]))
    all_goals first
      | omega
      | rfl
      | trace_state
end Go.Proofs.YtdoclnjmcmdfdaaGreatDoor

/- A leg's text, read by the program: the walk by rows. -/
namespace Go.Proofs.YtdoclnjmcmdfdaaGreatDoor
set_option linter.unusedSectionVars false
open Go.Av
variable [Av.Start] [TabPow] [TabErr] [TabMax]
set_option maxRecDepth 10000
set_option maxHeartbeats 1000000
set_option linter.unusedSimpArgs false
set_option linter.unusedVariables false

/-- a leg of which nothing is held, its slices in the rows from r on -/
def Leg.dvc3 (l : Leg) (r : Nat) : List D := [.str l.name, .str l.src, .str l.dst, .int .i64 l.dep, .int .i64 l.arr, .int .i64 l.cap, .vec r false 1 0 l.limits.length l.limits.length, .vec (r + 1) false 1 0 l.sold.length l.sold.length, .vec (r + 2) false 1 0 l.bids.length l.bids.length, .slice [] .full]
def Leg.rows3 (l : Leg) : Hp := [.row (l.limits.map (.int .i64)), .row (l.sold.map (.int .i64)), .row (l.bids.map (.int .i64))]
omit [Av.Start] [TabPow] [TabErr] [TabMax] in
theorem Leg.dvc3_ren (l : Leg) {n k r : Nat} (h : n ≤ r) : ∀ j (h1 : j < (l.dvc3 (r + k)).length) (h2 : j < (l.dvc3 r).length), Ren n k ((l.dvc3 (r + k))[j]) ((l.dvc3 r)[j]) := by
  intro j h1 h2
  have hv : ∀ (i : Nat) ag sz len cp, Ren n k (.vec (r + k + i) ag sz 0 len cp) (.vec (r + i) ag sz 0 len cp) := fun i ag sz len cp => by
    have := Ren.vec (n := n) (k := k) (r + i) ag sz 0 len cp (by omega)
    rwa [show r + i + k = r + k + i by omega] at this
  match j, h2 with
  | 0, _ => exact .str _
  | 1, _ => exact .str _
  | 2, _ => exact .str _
  | 3, _ => exact .int _ _
  | 4, _ => exact .int _ _
  | 5, _ => exact .int _ _
  | 6, _ => exact hv 0 _ _ _ _
  | 7, _ => exact hv 1 _ _ _ _
  | 8, _ => exact hv 2 _ _ _ _
  | 9, _ => exact .full _
omit [Av.Start] [TabPow] [TabErr] [TabMax] in
theorem Leg.rows3_ren (l : Leg) (n k : Nat) : ∀ j (h1 : j < l.rows3.length) (h2 : j < l.rows3.length), RenOb n k (l.rows3[j]) (l.rows3[j]) := by
  intro j h1 h2
  match j, h2 with
  | 0, _ => exact ints_ren _ _ _
  | 1, _ => exact ints_ren _ _ _
  | 2, _ => exact ints_ren _ _ _
omit [Av.Start] [TabPow] [TabErr] [TabMax] in
theorem Leg.dvc3_cl (l : Leg) {r n : Nat} (h : r + 3 ≤ n) : ∀ d, d ∈ l.dvc3 r → Cl n d := by
  simp only [Leg.dvc3, List.mem_cons, List.not_mem_nil, or_false, forall_eq_or_imp, forall_eq, cl_int, cl_str, cl_vec, true_and]
  exact ⟨by omega, by omega, by omega, .slice _ _ (fun _ _ e => nomatch e)⟩
omit [Av.Start] [TabPow] [TabErr] [TabMax] in
theorem Leg.rows3_cl (l : Leg) (n : Nat) : ∀ x, x ∈ l.rows3 → ObCl n x := by
  simp only [Leg.rows3, List.mem_cons, List.not_mem_nil, or_false, forall_eq_or_imp, forall_eq]
  exact ⟨ints_cl _ _, ints_cl _ _, ints_cl _ _⟩
/-- such a leg stands in the heap -/
structure Leg3At (h : Hp) (q : Nat) (l : Leg) : Prop where
  limits : ob h q = .row (l.limits.map (.int .i64))
  sold : ob h (q + 1) = .row (l.sold.map (.int .i64))
  bids : ob h (q + 2) = .row (l.bids.map (.int .i64))
  lt : q + 2 < h.length
  holds : l.holds = []
omit [TabPow] [TabErr] [TabMax] in
theorem Leg3At.fw {h : Hp} {q : Nat} {l : Leg} (H : Leg3At h q l) : FW 0 h (.agg (l.dvc3 q)) l.d := by
  refine (fw_agg _ _ _ _).2 ⟨fw_refl _ _ _, fw_refl _ _ _, fw_refl _ _ _, fw_refl _ _ _, fw_refl _ _ _, fw_refl _ _ _, fw_ints (Nat.zero_le _) H.limits rfl, fw_ints (Nat.zero_le _) H.sold rfl, fw_ints (Nat.zero_le _) H.bids rfl, ?_, trivial⟩
  rw [H.holds]
  exact ⟨_, .refl _, .tok _ _⟩
omit [TabPow] [TabErr] [TabMax] in
theorem leg3_of {h g : Hp} {q : Nat} {l : Leg} (k : Nat) (e : q = h.length + k) (e0 : ob g k = .row (l.limits.map (.int .i64))) (e1 : ob g (k + 1) = .row (l.sold.map (.int .i64))) (e2 : ob g (k + 2) = .row (l.bids.map (.int .i64))) (hl : k + 2 < g.length) (e3 : l.holds = []) : Leg3At (h ++ g) q l := by
  subst e
  exact ⟨by rw [ob_app]; exact e0, by rw [Nat.add_assoc, ob_app]; exact e1, by rw [Nat.add_assoc, ob_app]; exact e2, by rw [List.length_append]; omega, e3⟩
theorem implLegReadR (s : List UInt8) (l : Leg) (h : Hp) (hs : s.length ≤ 10000000) (hv : legVI s = (l, true)) : l.holds = [] ∧ Meets Tryz.prog 15 [.str s] h fun d' h' => d' = .tup [.agg (l.dvc3 h.length), .bool true] ∧ h' = h ++ l.rows3 := by
  have hC := fun g => split_gives s 32 g hs
  have hlen := (splitC_le 32 s).1
  have hmem := (splitC_le 32 s).2
  rw [legVI] at hv
  generalize splitC 32 s = ws at hC hlen hmem hv
  have hg := fun k => Nat.le_trans (getD_len hmem k) hs
  split at hv
  · rename_i hc
    obtain ⟨h8, hn⟩ := hc
    rw [legOut] at hv
    by_cases htx : (if legB (legRI ws) = true then legT (legRI ws) else []) = s
    · rw [if_pos htx] at hv
      obtain rfl : legRI ws = l := by cases hv; rfl
      refine ⟨rfl, ?_⟩
      refine Meets.compact (hb := h) (junk := [.row ((legRI ws).dvc3 (h.length + 1))]) (rows1 := (legRI ws).rows3) (d1 := .tup [.agg ((legRI ws).dvc3 (h.length + 1)), .bool true]) rfl (old_ob h) (.tup _ _ rfl fun j h1 h2 => ?_) rfl (Leg.rows3_ren _ _ _) ?_
      · match j, h2 with
        | 0, _ => exact .agg _ _ rfl (Leg.dvc3_ren _ (Nat.le_refl _))
        | 1, _ => exact .bool _
      simp only [legNums, Bool.and_eq_true] at hn
      obtain ⟨⟨⟨⟨n1, n2⟩, n3⟩, n4⟩, n5⟩ := hn
      have c1 := number_gives (ws.getD 3 [])
      have c2 := number_gives (ws.getD 4 [])
      have c3 := fun g => readR (ws.getD 5 []) g (hg 5) n3
      have c4 := fun g => readR (ws.getD 6 []) g (hg 6) n4
      have c5 := fun g => readR (ws.getD 7 []) g (hg 7) n5
      simp only [n1, n2] at c1 c2
      have hne := numsI_ne (ws.getD 5 [])
      have hhead : ((numsI (ws.getD 5 [])).map (D.int .i64)).headD .junk = .int .i64 ((numsI (ws.getD 5 [])).getD 0 0) := by
        cases hq : numsI (ws.getD 5 []) with
        | nil => rw [hq] at hne; cases hne
        | cons => rfl
      have hW := fun g => implLegWrite_gives (legRI ws) g
      rw [htx] at hW
      have hcl := (legRI ws).dvc3_cl (r := h.length + 1) (n := h.length + 4) (by omega)
      simp only [Leg.dvc3, Leg.rows3, legRI] at hcl ⊢
      have hat : ∀ x tl, Leg3At (h ++ .row x :: .row ((numsI (ws.getD 5 [])).map (.int .i64)) :: .row ((numsI (ws.getD 6 [])).map (.int .i64)) :: .row ((numsI (ws.getD 7 [])).map (.int .i64)) :: tl) (h.length + 1) (legRI ws) := fun x tl => leg3_of 1 rfl rfl rfl rfl (by simp) rfl
      refine meets_of [] mixed Tryz.func15 rfl (by kernel_rfl) (by kernel_rfl) (by rw [Tryz.ntmps15]; simp only [List.length_cons, List.length_nil]; omega) (fun hf => ?_)
      rw [Tryz.results15]
      clear hf
      try simp -implicitDefEqProofs only [h8, hhead, lenMax, push_cast, Nat.reduceEqDiff, Nat.reduceBEq, Nat.reduceBNe, Nat.reduceAdd, Nat.reduceMul, Nat.reduceLT, Nat.reduceLeDiff, Nat.reduceSub, reduceCtorEq, Int.reduceToNat, ↓reduceIte]
      repeat'
        (first
         | (refine uYes ?_; first | exact List.mem_cons_self | (simp only [List.mem_cons, List.not_mem_nil, or_false, true_or, or_true]; done))
         | (refine uNo (by kernel_rfl))
         | (refine flatMk ?_; kernel_rfl)
         | (refine And.intro ?_ ?_)
         | (intro hx)
         | ((first
             | (refine callGF ?_)
             | (refine callQGF ?_)
             | (refine skipG ?_)
             | (refine callS (hC _) ?_)
             | (refine callQ (hC _) ?_)
             | (refine callG (fun hc => (hC _)) ?_)
             | (refine callQG (fun hc => (hC _)) ?_)
             | (refine callS (c1 _) ?_)
             | (refine callQ (c1 _) ?_)
             | (refine callG (fun hc => (c1 _)) ?_)
             | (refine callQG (fun hc => (c1 _)) ?_)
             | (refine callS (c2 _) ?_)
             | (refine callQ (c2 _) ?_)
             | (refine callG (fun hc => (c2 _)) ?_)
             | (refine callQG (fun hc => (c2 _)) ?_)
             | (refine callM (c3 _) ?_)
             | (refine callM (c4 _) ?_)
             | (refine callM (c5 _) ?_)
             | (refine inX_mkP [] (by kernel_rfl) (by simp) ?_)
             | (refine fzS (hW _) ⟨(hat _ _).fw, Leg.cl0 _ 0, trivial⟩ (.str _) ?_)); simp -implicitDefEqProofs only [h8, hhead, lenMax, push_cast, Nat.reduceEqDiff, Nat.reduceBEq, Nat.reduceBNe, Nat.reduceAdd, Nat.reduceMul, Nat.reduceLT, Nat.reduceLeDiff, Nat.reduceSub, reduceCtorEq, Int.reduceToNat, ↓reduceIte]))
      all_goals first
        | exact absurd rfl hx
        | omega
        | exact ints_cl _ _ _ hx
        | trace_state
    · rw [if_neg htx] at hv
      cases hv
  · cases hv
end Go.Proofs.YtdoclnjmcmdfdaaGreatDoor

/- FnExactLegRead holds of every text. -/
namespace Go.Proofs.YtdoclnjmcmdfdaaGreatDoor
set_option linter.unusedSectionVars false
open Go.Av
variable [Av.Start] [TabPow] [TabErr] [TabMax]
set_option maxRecDepth 10000
set_option maxHeartbeats 1000000
set_option linter.unusedSimpArgs false
set_option linter.unusedVariables false

def markH3 (l : Leg) (q : Nat) (k : Int) (h : Hp) : Hp :=
  ((h.set q (.row ((seqI k l.limits.length).map (.int .i64)))).set (q + 1) (.row ((seqI (k + l.limits.length) l.sold.length).map (.int .i64)))).set (q + 2) (.row ((seqI (k + l.limits.length + l.sold.length) l.bids.length).map (.int .i64)))
omit [TabPow] [TabErr] [TabMax] in
theorem markL_dvc3 (l : Leg) (k : Int) (q : Nat) : (markL l k).dvc3 q = l.dvc3 q := by
  simp only [markL, Leg.dvc3, seqI_len]
omit [Av.Start] [TabPow] [TabErr] [TabMax] in
theorem markH3_app (l : Leg) (k : Nat) (m : Int) (h g : Hp) : markH3 l (h.length + k) m (h ++ g) = h ++ markH3 l k m g := by
  simp only [markH3, Nat.add_assoc, set_app]
omit [TabPow] [TabErr] [TabMax] in
theorem Fz3d {h : Hp} {q : Nat} {l l' : Leg} (H : Leg3At h q l) : FzL h [.agg (l.dvc3 q), l'.d] [l.d, l'.d] := ⟨H.fw, l.cl0 0, fw_refl _ _ _, l'.cl0 0, trivial⟩
omit [TabPow] [TabErr] [TabMax] in
theorem Fz3m {h : Hp} {q : Nat} {l : Leg} {k n : Int} (H : Leg3At h q (markL l k)) : FzL h [.agg (l.dvc3 q), .int .i64 n] [(markL l k).d, .int .i64 n] := by
  rw [← markL_dvc3 l k q]
  exact ⟨H.fw, Leg.cl0 _ 0, fw_refl _ _ _, .int _ _, trivial⟩
theorem legVI_or (s : List UInt8) : (∃ l, legVI s = (l, true)) ∨ legVI s = (default, false) := by
  rw [legVI]
  split
  · rw [legOut]
    by_cases htx : (if legB (legRI (splitC 32 s)) = true then legT (legRI (splitC 32 s)) else []) = s
    · rw [if_pos htx]
      exact .inl ⟨_, rfl⟩
    · rw [if_neg htx]
      exact .inr rfl
  · exact .inr rfl
end Go.Proofs.YtdoclnjmcmdfdaaGreatDoor
