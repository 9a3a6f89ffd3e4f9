/- The reference on rules: marks, form, parts. -/
import Derived.Test.YtcmpcpigchlhpaaKa

namespace Go.Proofs.Ytcmpcpigchlhpaa
set_option linter.unusedSectionVars false
open Go.Av
variable [Av.Start]
set_option maxRecDepth 10000
set_option maxHeartbeats 1000000
set_option linter.unusedSimpArgs false
set_option linter.unusedVariables false

theorem l4Marks_gives (ms : List Mrk) (h : Hp) (H : MrkP ms) : Gives Try.prog 110 [.slice (ms.map Mrk.d) .no] h (.bool true) := by
  have hl := H.len
  refine meets_of [] mixed Try.func110 rfl (by kernel_rfl) (by kernel_rfl) (by rw [Try.ntmps110]; simp only [List.length_cons, List.length_nil]; omega) (fun hf => ?_)
  rw [Try.results110]
  clear hf
  simp -implicitDefEqProofs only [push_cast, Nat.reduceEqDiff, Nat.reduceBEq, Nat.reduceBNe, Nat.reduceAdd, Nat.reduceMul, Nat.reduceLT, Nat.reduceLeDiff, Nat.reduceSub, reduceCtorEq, Int.reduceToNat, ↓reduceIte]
  refine ev_loop0 [] (fun k : Nat => [(0, .slice (ms.map Mrk.d) .no), (3, .int .i64 k)]) (fun k => k ≤ ms.length) (fun k => ms.length - k) 0 trivial (Nat.zero_le _) ?_ ?_
  · refine ⟨rfl, [], ?_⟩
    simp -implicitDefEqProofs only [Int.natCast_add, Int.cast_ofNat_Int, List.length_nil, Nat.le_refl, WeakTo, tokSts, tokOks, List.append_cancel_left_eq, exists_eq_left', exists_eq_left, List.append_cancel_left_eq, List.take_length, ObCl, and_true, true_and, push_cast, Nat.reduceEqDiff, Nat.reduceBEq, Nat.reduceBNe, Nat.reduceAdd, Nat.reduceMul, Nat.reduceLT, Nat.reduceLeDiff, Nat.reduceSub, reduceCtorEq, Int.reduceToNat, ↓reduceIte]
  · intro k hk
    have hw : IntKind.i64.wrap ((k : Int) + 1) = k + 1 := wrap_id (by omega) (by omega)
    have hw1 : IntKind.i64.wrap ((k : Int) - 1) = k - 1 := wrap_id (by omega) (by omega)
    have hp : ((k : Int) - 1).toNat = k - 1 := by omega
    rcases Nat.lt_or_ge k ms.length with hlt | hge
    · have hL := mrk_at hlt
      have hN := H.num k hlt
      have hF := H.first
      have hA := fun e => H.asc k e hlt
      have hL1 : 0 < k → (ms.map Mrk.d).getD (k - 1) (.agg [.int .i64 0, .int .i64 0]) = .agg [.int .i64 (ms.getD (k - 1) default).at_, .int .i64 (ms.getD (k - 1) default).price] := fun e => mrk_at (by omega)
      have hB1 : inB (ms.getD k default).at_ 0 1000000000 = true := by rw [inB, Bool.and_eq_true, decide_eq_true_eq, decide_eq_true_eq]; omega
      have hB2 : inB (ms.getD k default).price 0 1000000 = true := by rw [inB, Bool.and_eq_true, decide_eq_true_eq, decide_eq_true_eq]; omega
      rcases Nat.eq_zero_or_pos k with rfl | hk0
      · try simp -implicitDefEqProofs only [hw, hL, hB1, hB2, hF, push_cast, Nat.reduceEqDiff, Nat.reduceBEq, Nat.reduceBNe, Nat.reduceAdd, Nat.reduceMul, Nat.reduceLT, Nat.reduceLeDiff, Nat.reduceSub, reduceCtorEq, Int.reduceToNat, ↓reduceIte]
        repeat'
          (first
           | (refine uYes ?_; first | exact List.mem_cons_self | (simp only [List.mem_cons, List.not_mem_nil, or_false, true_or, or_true]; done))
           | (refine uNo (by kernel_rfl))
           | (refine flatMk ?_; kernel_rfl)
           | (refine And.intro ?_ ?_)
           | (intro hx)
           | ((first
               | (refine callGF ?_)
               | (refine callQGF ?_)
               | (refine skipG ?_)
               | (refine callS (l1In_gives _ _ _ _) ?_)
               | (refine callQ (l1In_gives _ _ _ _) ?_)
               | (refine callG (fun hc => (l1In_gives _ _ _ _)) ?_)
               | (refine callQG (fun hc => (l1In_gives _ _ _ _)) ?_)); simp -implicitDefEqProofs only [hw, hL, hB1, hB2, hF, push_cast, Nat.reduceEqDiff, Nat.reduceBEq, Nat.reduceBNe, Nat.reduceAdd, Nat.reduceMul, Nat.reduceLT, Nat.reduceLeDiff, Nat.reduceSub, reduceCtorEq, Int.reduceToNat, ↓reduceIte]))
        all_goals first
          | omega
          | (rcases hx with hx | hx
             · exact absurd hx (by decide)
             · exact absurd hx.1 (by decide))
          | (refine round_mk0 1 (by omega) (by omega) ⟨_, rfl, ?_⟩
             simp -implicitDefEqProofs only [show IntKind.i64.wrap (0 + 1) = 1 by decide, Int.natCast_add, Int.cast_ofNat_Int, List.length_nil, Nat.le_refl, WeakTo, tokSts, tokOks, List.append_cancel_left_eq, exists_eq_left', exists_eq_left, List.append_cancel_left_eq, List.take_length, ObCl, and_true, true_and, push_cast, Nat.reduceEqDiff, Nat.reduceBEq, Nat.reduceBNe, Nat.reduceAdd, Nat.reduceMul, Nat.reduceLT, Nat.reduceLeDiff, Nat.reduceSub, reduceCtorEq, Int.reduceToNat, ↓reduceIte])
          | trace_state
      · have hA := hA hk0
        have hL1 := hL1 hk0
        have hk1 : decide ((k : Int) = 0) = false := decide_eq_false (by omega)
        have hk2 : decide (0 < (k : Int)) = true := decide_eq_true (by omega)
        have hA2 : decide ((ms.getD k default).at_ ≤ (ms.getD (k - 1) default).at_) = false := decide_eq_false (by omega)
        try simp -implicitDefEqProofs only [hw, hw1, hp, hL, hL1, hB1, hB2, hk1, hk2, hA2, push_cast, Nat.reduceEqDiff, Nat.reduceBEq, Nat.reduceBNe, Nat.reduceAdd, Nat.reduceMul, Nat.reduceLT, Nat.reduceLeDiff, Nat.reduceSub, reduceCtorEq, Int.reduceToNat, ↓reduceIte]
        repeat'
          (first
           | (refine uYes ?_; first | exact List.mem_cons_self | (simp only [List.mem_cons, List.not_mem_nil, or_false, true_or, or_true]; done))
           | (refine uNo (by kernel_rfl))
           | (refine flatMk ?_; kernel_rfl)
           | (refine And.intro ?_ ?_)
           | (intro hx)
           | ((first
               | (refine callGF ?_)
               | (refine callQGF ?_)
               | (refine skipG ?_)
               | (refine callS (l1In_gives _ _ _ _) ?_)
               | (refine callQ (l1In_gives _ _ _ _) ?_)
               | (refine callG (fun hc => (l1In_gives _ _ _ _)) ?_)
               | (refine callQG (fun hc => (l1In_gives _ _ _ _)) ?_)); simp -implicitDefEqProofs only [hw, hw1, hp, hL, hL1, hB1, hB2, hk1, hk2, hA2, push_cast, Nat.reduceEqDiff, Nat.reduceBEq, Nat.reduceBNe, Nat.reduceAdd, Nat.reduceMul, Nat.reduceLT, Nat.reduceLeDiff, Nat.reduceSub, reduceCtorEq, Int.reduceToNat, ↓reduceIte]))
        all_goals first
          | omega
          | (refine round_mk0 (k + 1) (by omega) (by omega) ⟨_, rfl, ?_⟩
             simp -implicitDefEqProofs only [hw, Int.natCast_add, Int.cast_ofNat_Int, List.length_nil, Nat.le_refl, WeakTo, tokSts, tokOks, List.append_cancel_left_eq, exists_eq_left', exists_eq_left, List.append_cancel_left_eq, List.take_length, ObCl, and_true, true_and, push_cast, Nat.reduceEqDiff, Nat.reduceBEq, Nat.reduceBNe, Nat.reduceAdd, Nat.reduceMul, Nat.reduceLT, Nat.reduceLeDiff, Nat.reduceSub, reduceCtorEq, Int.reduceToNat, ↓reduceIte])
          | trace_state
    · obtain rfl : k = ms.length := by omega
      have hB : inB ms.length 1 5 = true := by rw [inB, Bool.and_eq_true, decide_eq_true_eq, decide_eq_true_eq]; omega
      try simp -implicitDefEqProofs only [hw, hB, push_cast, Nat.reduceEqDiff, Nat.reduceBEq, Nat.reduceBNe, Nat.reduceAdd, Nat.reduceMul, Nat.reduceLT, Nat.reduceLeDiff, Nat.reduceSub, reduceCtorEq, Int.reduceToNat, ↓reduceIte]
      repeat'
        (first
         | (refine uYes ?_; first | exact List.mem_cons_self | (simp only [List.mem_cons, List.not_mem_nil, or_false, true_or, or_true]; done))
         | (refine uNo (by kernel_rfl))
         | (refine flatMk ?_; kernel_rfl)
         | (refine And.intro ?_ ?_)
         | (intro hx)
         | ((first
             | (refine callGF ?_)
             | (refine callQGF ?_)
             | (refine skipG ?_)
             | (refine callS (l1In_gives _ _ _ _) ?_)
             | (refine callQ (l1In_gives _ _ _ _) ?_)
             | (refine callG (fun hc => (l1In_gives _ _ _ _)) ?_)
             | (refine callQG (fun hc => (l1In_gives _ _ _ _)) ?_)); simp -implicitDefEqProofs only [hw, hB, push_cast, Nat.reduceEqDiff, Nat.reduceBEq, Nat.reduceBNe, Nat.reduceAdd, Nat.reduceMul, Nat.reduceLT, Nat.reduceLeDiff, Nat.reduceSub, reduceCtorEq, Int.reduceToNat, ↓reduceIte]))
      all_goals first
        | omega
        | trace_state
theorem l4Plain_gives {n : Nat} (op num : Int) (name : List UInt8) (kids : List D) (ms : List Mrk) (h : Hp) (H : RuleP n op num name kids ms) : Gives Try.prog 108 [ruD op num name kids ms] h (.bool true) := by
  have h1 := H.lo
  have h2 := H.hi
  have hk := H.klen
  have hS := H.allSz
  have hms0 : op ≠ 10 → ms.length = 0 := fun e => by rw [H.no e]; rfl
  have hM := fun e g => l4Marks_gives ms g (H.ms e)
  have h0L : (0 ≤ lenMax) = True := eq_true (Nat.zero_le _)
  rw [ruD]
  by_cases o1 : op = 1
  · subst o1
    have hnum := H.num
    have hname := H.name
    obtain ⟨n1, n2⟩ : -1000000000 ≤ num ∧ num ≤ 1000000000 := by omega
    obtain rfl : name = [] := by rcases hname with ⟨e, _⟩ | ⟨_, e⟩; exact absurd e (by decide); exact e
    have hms := hms0 (by decide)
    have hB : inB num (-1000000000) 1000000000 = true := by rw [inB, Bool.and_eq_true, decide_eq_true_eq, decide_eq_true_eq]; omega
    have hkn : kidsN 1 = 0 := rfl
    refine meets_of [] mixed Try.func108 rfl (by kernel_rfl) (by kernel_rfl) (by rw [Try.ntmps108]; simp only [List.length_cons, List.length_nil]; omega) (fun hf => ?_)
    rw [Try.results108]
    clear hf
    try simp -implicitDefEqProofs only [h0L, hk, hms, hB, hkn, push_cast, Nat.reduceEqDiff, Nat.reduceBEq, Nat.reduceBNe, Nat.reduceAdd, Nat.reduceMul, Nat.reduceLT, Nat.reduceLeDiff, Nat.reduceSub, reduceCtorEq, Int.reduceToNat, ↓reduceIte]
    repeat'
      (first
       | (refine uYes ?_; first | exact List.mem_cons_self | (simp only [List.mem_cons, List.not_mem_nil, or_false, true_or, or_true]; done))
       | (refine uNo (by kernel_rfl))
       | (refine flatMk ?_; kernel_rfl)
       | (refine And.intro ?_ ?_)
       | (intro hx)
       | ((first
           | (refine callGF ?_)
           | (refine callQGF ?_)
           | (refine skipG ?_)
           | (refine callS (l4Kids_gives _ _ (by omega) (by omega)) ?_)
           | (refine callQ (l4Kids_gives _ _ (by omega) (by omega)) ?_)
           | (refine callG (fun hc => (l4Kids_gives _ _ (by omega) (by omega))) ?_)
           | (refine callQG (fun hc => (l4Kids_gives _ _ (by omega) (by omega))) ?_)
           | (refine callS (l1In_gives _ _ _ _) ?_)
           | (refine callQ (l1In_gives _ _ _ _) ?_)
           | (refine callG (fun hc => (l1In_gives _ _ _ _)) ?_)
           | (refine callQG (fun hc => (l1In_gives _ _ _ _)) ?_)); simp -implicitDefEqProofs only [h0L, hk, hms, hB, hkn, push_cast, Nat.reduceEqDiff, Nat.reduceBEq, Nat.reduceBNe, Nat.reduceAdd, Nat.reduceMul, Nat.reduceLT, Nat.reduceLeDiff, Nat.reduceSub, reduceCtorEq, Int.reduceToNat, ↓reduceIte]))
    all_goals first
      | omega
      | trace_state
  · obtain rfl : num = 0 := by have := H.num; omega
    have d1 : decide (op = 1) = false := decide_eq_false o1
    by_cases o2 : op = 2
    · subst o2
      obtain ⟨hn, hnl⟩ : nameB name = true ∧ name.length ≤ 8 := by
        rcases H.name with ⟨_, a, b⟩ | ⟨e, _⟩
        · exact ⟨a, b⟩
        · exact absurd rfl e
      have hms := hms0 (by decide)
      have hkn : kidsN 2 = 0 := rfl
      refine meets_of [] mixed Try.func108 rfl (by kernel_rfl) (by kernel_rfl) (by rw [Try.ntmps108]; simp only [List.length_cons, List.length_nil]; omega) (fun hf => ?_)
      rw [Try.results108]
      clear hf
      try simp -implicitDefEqProofs only [h0L, hk, hms, hn, hkn, push_cast, Nat.reduceEqDiff, Nat.reduceBEq, Nat.reduceBNe, Nat.reduceAdd, Nat.reduceMul, Nat.reduceLT, Nat.reduceLeDiff, Nat.reduceSub, reduceCtorEq, Int.reduceToNat, ↓reduceIte]
      repeat'
        (first
         | (refine uYes ?_; first | exact List.mem_cons_self | (simp only [List.mem_cons, List.not_mem_nil, or_false, true_or, or_true]; done))
         | (refine uNo (by kernel_rfl))
         | (refine flatMk ?_; kernel_rfl)
         | (refine And.intro ?_ ?_)
         | (intro hx)
         | ((first
             | (refine callGF ?_)
             | (refine callQGF ?_)
             | (refine skipG ?_)
             | (refine callS (l4Kids_gives _ _ (by omega) (by omega)) ?_)
             | (refine callQ (l4Kids_gives _ _ (by omega) (by omega)) ?_)
             | (refine callG (fun hc => (l4Kids_gives _ _ (by omega) (by omega))) ?_)
             | (refine callQG (fun hc => (l4Kids_gives _ _ (by omega) (by omega))) ?_)
             | (refine callS (specName_gives name _) ?_)
             | (refine callQ (specName_gives name _) ?_)
             | (refine callG (fun hc => (specName_gives name _)) ?_)
             | (refine callQG (fun hc => (specName_gives name _)) ?_)); simp -implicitDefEqProofs only [h0L, hk, hms, hn, hkn, push_cast, Nat.reduceEqDiff, Nat.reduceBEq, Nat.reduceBNe, Nat.reduceAdd, Nat.reduceMul, Nat.reduceLT, Nat.reduceLeDiff, Nat.reduceSub, reduceCtorEq, Int.reduceToNat, ↓reduceIte]))
      all_goals first
        | omega
        | trace_state
    · have d2 : decide (op = 2) = false := decide_eq_false o2
      obtain rfl : name = [] := by
        rcases H.name with ⟨e, _⟩ | ⟨_, e⟩
        · exact absurd e o2
        · exact e
      by_cases o3 : op = 10
      · subst o3
        have hkn : kidsN 10 = 1 := rfl
        refine meets_of [] mixed Try.func108 rfl (by kernel_rfl) (by kernel_rfl) (by rw [Try.ntmps108]; simp only [List.length_cons, List.length_nil]; omega) (fun hf => ?_)
        rw [Try.results108]
        clear hf
        try simp -implicitDefEqProofs only [h0L, hk, hkn, push_cast, Nat.reduceEqDiff, Nat.reduceBEq, Nat.reduceBNe, Nat.reduceAdd, Nat.reduceMul, Nat.reduceLT, Nat.reduceLeDiff, Nat.reduceSub, reduceCtorEq, Int.reduceToNat, ↓reduceIte]
        repeat'
          (first
           | (refine uYes ?_; first | exact List.mem_cons_self | (simp only [List.mem_cons, List.not_mem_nil, or_false, true_or, or_true]; done))
           | (refine uNo (by kernel_rfl))
           | (refine flatMk ?_; kernel_rfl)
           | (refine And.intro ?_ ?_)
           | (intro hx)
           | ((first
               | (refine callGF ?_)
               | (refine callQGF ?_)
               | (refine skipG ?_)
               | (refine callS (l4Kids_gives _ _ (by omega) (by omega)) ?_)
               | (refine callQ (l4Kids_gives _ _ (by omega) (by omega)) ?_)
               | (refine callG (fun hc => (l4Kids_gives _ _ (by omega) (by omega))) ?_)
               | (refine callQG (fun hc => (l4Kids_gives _ _ (by omega) (by omega))) ?_)
               | (refine callS (hM rfl _) ?_)
               | (refine callQ (hM rfl _) ?_)
               | (refine callG (fun hc => (hM rfl _)) ?_)
               | (refine callQG (fun hc => (hM rfl _)) ?_)); simp -implicitDefEqProofs only [h0L, hk, hkn, push_cast, Nat.reduceEqDiff, Nat.reduceBEq, Nat.reduceBNe, Nat.reduceAdd, Nat.reduceMul, Nat.reduceLT, Nat.reduceLeDiff, Nat.reduceSub, reduceCtorEq, Int.reduceToNat, ↓reduceIte]))
        all_goals first
          | omega
          | trace_state
      · have d3 : decide (op = 10) = false := decide_eq_false o3
        have hms := hms0 o3
        refine meets_of [] mixed Try.func108 rfl (by kernel_rfl) (by kernel_rfl) (by rw [Try.ntmps108]; simp only [List.length_cons, List.length_nil]; omega) (fun hf => ?_)
        rw [Try.results108]
        clear hf
        try simp -implicitDefEqProofs only [h0L, hk, hms, d1, d2, d3, o1, o2, o3, push_cast, Nat.reduceEqDiff, Nat.reduceBEq, Nat.reduceBNe, Nat.reduceAdd, Nat.reduceMul, Nat.reduceLT, Nat.reduceLeDiff, Nat.reduceSub, reduceCtorEq, Int.reduceToNat, ↓reduceIte]
        repeat'
          (first
           | (refine uYes ?_; first | exact List.mem_cons_self | (simp only [List.mem_cons, List.not_mem_nil, or_false, true_or, or_true]; done))
           | (refine uNo (by kernel_rfl))
           | (refine flatMk ?_; kernel_rfl)
           | (refine And.intro ?_ ?_)
           | (intro hx)
           | ((first
               | (refine callGF ?_)
               | (refine callQGF ?_)
               | (refine skipG ?_)
               | (refine callS (l4Kids_gives _ _ h1 h2) ?_)
               | (refine callQ (l4Kids_gives _ _ h1 h2) ?_)
               | (refine callG (fun hc => (l4Kids_gives _ _ h1 h2)) ?_)
               | (refine callQG (fun hc => (l4Kids_gives _ _ h1 h2)) ?_)); simp -implicitDefEqProofs only [h0L, hk, hms, d1, d2, d3, o1, o2, o3, push_cast, Nat.reduceEqDiff, Nat.reduceBEq, Nat.reduceBNe, Nat.reduceAdd, Nat.reduceMul, Nat.reduceLT, Nat.reduceLeDiff, Nat.reduceSub, reduceCtorEq, Int.reduceToNat, ↓reduceIte]))
        all_goals first
          | omega
          | trace_state
end Go.Proofs.Ytcmpcpigchlhpaa

/- The reference on rules: their parts. -/
namespace Go.Proofs.Ytcmpcpigchlhpaa
set_option linter.unusedSectionVars false
open Go.Av
variable [Av.Start]
set_option maxRecDepth 10000
set_option maxHeartbeats 1000000
set_option linter.unusedSimpArgs false
set_option linter.unusedVariables false

def kidsOf : D → List D
  | .agg [_, _, _, .slice ks _, _] => ks
  | _ => []
def partsD : Nat → D → Int → Int → Int
  | 0, _, depth, left => if left - 1 < 0 ∨ 6 < depth then -1 else left - 1
  | n + 1, d, depth, left => if left - 1 < 0 ∨ 6 < depth then -1 else (kidsOf d).foldl (fun m k => if m < 0 then m else partsD n k (depth + 1) m) (left - 1)
omit [Av.Start] in
theorem foldP_range {F : Int → D → Int} {L : Int} (hF : ∀ m k, -1 ≤ m → m ≤ L → -1 ≤ F m k ∧ F m k ≤ L) : ∀ (ks : List D) (m : Int), -1 ≤ m → m ≤ L → -1 ≤ ks.foldl F m ∧ ks.foldl F m ≤ L
  | [], m, h1, h2 => ⟨h1, h2⟩
  | k :: ks, m, h1, h2 => foldP_range hF ks (F m k) (hF m k h1 h2).1 (hF m k h1 h2).2
omit [Av.Start] in
theorem partsD_range : ∀ (n : Nat) (d : D) (depth left : Int), -1 ≤ left → -1 ≤ partsD n d depth left ∧ partsD n d depth left ≤ left
  | 0, d, depth, left, h => by
    rw [partsD]
    split <;> omega
  | n + 1, d, depth, left, h => by
    rw [partsD]
    split
    · omega
    · have := foldP_range (F := fun m k => if m < 0 then m else partsD n k (depth + 1) m) (L := left - 1) (fun m k h1 h2 => by
        split
        · omega
        · have := partsD_range n k (depth + 1) m h1
          omega) (kidsOf d) (left - 1) (by omega) (by omega)
      omega
omit [Av.Start] in
theorem foldP_stop {n : Nat} {depth : Int} : ∀ (ks : List D) {m : Int}, m < 0 → ks.foldl (fun m k => if m < 0 then m else partsD n k (depth + 1) m) m = m
  | [], m, _ => rfl
  | k :: ks, m, h => by
    rw [List.foldl_cons, if_pos h]
    exact foldP_stop ks h
omit [Av.Start] in
theorem take_succ_D {ks : List D} {i : Nat} (hi : i < ks.length) : ks.take (i + 1) = ks.take i ++ [ks.getD i .junk] := by
  rw [List.take_add_one, List.getD_eq_getElem?_getD, List.getElem?_eq_getElem hi]
  rfl
theorem l4Parts_gives : ∀ (n : Nat) (d : D), RuleD n d → ∀ (depth left : Int) (h : Hp), 0 ≤ depth → depth ≤ 100 → -1 ≤ left → left ≤ 30 → Gives Try.prog 95 [d, .int .i64 depth, .int .i64 left] h (.int .i64 (partsD n d depth left))
  | n, d, HD, depth, left, h, d0, d1, l0, l1 => by
    obtain ⟨op, num, name, kids, ms, rfl, H⟩ := HD.p
    have hP := fun g => l4Plain_gives op num name kids ms g H
    have w1 : IntKind.i64.wrap (left - 1) = left - 1 := wrap_id (by omega) (by omega)
    have w2 : IntKind.i64.wrap (depth + 1) = depth + 1 := wrap_id (by omega) (by omega)
    have hS := H.allSz
    have hkl : kids.length ≤ 4 := by rw [H.klen]; exact kidsN_le op
    -- the fold over the kids
    obtain ⟨F, hF, hV⟩ : ∃ F : Int → D → Int, (∀ m k, F m k = if m < 0 then m else partsD (n - 1) k (depth + 1) m) ∧ (¬ (left - 1 < 0 ∨ 6 < depth) → partsD n (ruD op num name kids ms) depth left = kids.foldl F (left - 1)) := by
      refine ⟨fun m k => if m < 0 then m else partsD (n - 1) k (depth + 1) m, fun _ _ => rfl, fun hc => ?_⟩
      cases n with
      | zero =>
        have : kids = [] := by
          cases kids with
          | nil => rfl
          | cons k ks => obtain ⟨m, e, _⟩ := H.sub k List.mem_cons_self; cases e
        subst this
        rw [partsD, if_neg hc]
        rfl
      | succ n =>
        rw [partsD, if_neg hc]
        rfl
    have hFr : ∀ i, -1 ≤ (kids.take i).foldl F (left - 1) ∧ (kids.take i).foldl F (left - 1) ≤ 30 ∨ left - 1 < -1 := fun i => by
      by_cases hl : left - 1 < -1
      · exact .inr hl
      · exact .inl (foldP_range (L := 30) (fun m k h1 h2 => by
          rw [hF]
          split
          · omega
          · have := partsD_range (n - 1) k (depth + 1) m h1
            omega) _ _ (by omega) (by omega))
    by_cases hc : left - 1 < 0 ∨ 6 < depth
    · have hV0 : partsD n (ruD op num name kids ms) depth left = -1 := by
        cases n <;> rw [partsD, if_pos hc]
      rw [hV0, ruD]
      clear hV hF hFr
      by_cases c1 : left - 1 < 0
      · have e1 : decide (left - 1 < 0) = true := decide_eq_true c1
        refine meets_of [] mixed Try.func95 rfl (by kernel_rfl) (by kernel_rfl) (by rw [Try.ntmps95]; simp only [List.length_cons, List.length_nil]; omega) (fun hf => ?_)
        rw [Try.results95]
        clear hf
        try simp -implicitDefEqProofs only [w1, e1, push_cast, Nat.reduceEqDiff, Nat.reduceBEq, Nat.reduceBNe, Nat.reduceAdd, Nat.reduceMul, Nat.reduceLT, Nat.reduceLeDiff, Nat.reduceSub, reduceCtorEq, Int.reduceToNat, ↓reduceIte]
        repeat'
          (first
           | (refine uYes ?_; first | exact List.mem_cons_self | (simp only [List.mem_cons, List.not_mem_nil, or_false, true_or, or_true]; done))
           | (refine uNo (by kernel_rfl))
           | (refine flatMk ?_; kernel_rfl)
           | (refine And.intro ?_ ?_)
           | (intro hx)
           | ((first
               | (refine callGF ?_)
               | (refine callQGF ?_)
               | (refine skipG ?_)
               | (refine callS (in_gives _ _ _ _) ?_)
               | (refine callQ (in_gives _ _ _ _) ?_)
               | (refine callG (fun hc => (in_gives _ _ _ _)) ?_)
               | (refine callQG (fun hc => (in_gives _ _ _ _)) ?_)); simp -implicitDefEqProofs only [w1, e1, push_cast, Nat.reduceEqDiff, Nat.reduceBEq, Nat.reduceBNe, Nat.reduceAdd, Nat.reduceMul, Nat.reduceLT, Nat.reduceLeDiff, Nat.reduceSub, reduceCtorEq, Int.reduceToNat, ↓reduceIte]))
        all_goals first
          | omega
          | trace_state
      · have e1 : decide (left - 1 < 0) = false := decide_eq_false c1
        have e2 : decide (6 < depth) = true := decide_eq_true (by omega)
        refine meets_of [] mixed Try.func95 rfl (by kernel_rfl) (by kernel_rfl) (by rw [Try.ntmps95]; simp only [List.length_cons, List.length_nil]; omega) (fun hf => ?_)
        rw [Try.results95]
        clear hf
        try simp -implicitDefEqProofs only [w1, e1, e2, push_cast, Nat.reduceEqDiff, Nat.reduceBEq, Nat.reduceBNe, Nat.reduceAdd, Nat.reduceMul, Nat.reduceLT, Nat.reduceLeDiff, Nat.reduceSub, reduceCtorEq, Int.reduceToNat, ↓reduceIte]
        repeat'
          (first
           | (refine uYes ?_; first | exact List.mem_cons_self | (simp only [List.mem_cons, List.not_mem_nil, or_false, true_or, or_true]; done))
           | (refine uNo (by kernel_rfl))
           | (refine flatMk ?_; kernel_rfl)
           | (refine And.intro ?_ ?_)
           | (intro hx)
           | ((first
               | (refine callGF ?_)
               | (refine callQGF ?_)
               | (refine skipG ?_)
               | (refine callS (in_gives _ _ _ _) ?_)
               | (refine callQ (in_gives _ _ _ _) ?_)
               | (refine callG (fun hc => (in_gives _ _ _ _)) ?_)
               | (refine callQG (fun hc => (in_gives _ _ _ _)) ?_)); simp -implicitDefEqProofs only [w1, e1, e2, push_cast, Nat.reduceEqDiff, Nat.reduceBEq, Nat.reduceBNe, Nat.reduceAdd, Nat.reduceMul, Nat.reduceLT, Nat.reduceLeDiff, Nat.reduceSub, reduceCtorEq, Int.reduceToNat, ↓reduceIte]))
        all_goals first
          | omega
          | trace_state
    · rw [hV hc]
      have e1 : decide (left - 1 < 0) = false := decide_eq_false (by omega)
      have e2 : decide (6 < depth) = false := decide_eq_false (by omega)
      have hstep : ∀ i, i < kids.length → (kids.take (i + 1)).foldl F (left - 1) = F ((kids.take i).foldl F (left - 1)) (kids.getD i .junk) := fun i hi => by
        rw [take_succ_D hi, List.foldl_append]
        rfl
      have hstop : ∀ i, (kids.take i).foldl F (left - 1) < 0 → kids.foldl F (left - 1) = (kids.take i).foldl F (left - 1) := fun i hi => by
        have e : F = fun m k => if m < 0 then m else partsD (n - 1) k (depth + 1) m := funext fun m => funext fun k => hF m k
        conv => lhs; rw [← List.take_append_drop i kids, List.foldl_append]
        subst e
        exact foldP_stop _ hi
      have hkid := fun i (hi : i < kids.length) => H.kid hi
      have ih : ∀ i, i < kids.length → ∀ m g, 0 ≤ m → m ≤ 30 → Gives Try.prog 95 [kids.getD i .junk, .int .i64 (depth + 1), .int .i64 m] g (.int .i64 (partsD (n - 1) (kids.getD i .junk) (depth + 1) m)) := fun i hi m g m0 m1 => by
        obtain ⟨k, e, hk, _⟩ := H.kid hi
        subst e
        exact l4Parts_gives k _ hk (depth + 1) m g (by omega) (by omega) (by omega) m1
      rw [ruD] at hP ⊢
      refine meets_of [] mixed Try.func95 rfl (by kernel_rfl) (by kernel_rfl) (by rw [Try.ntmps95]; simp only [List.length_cons, List.length_nil]; omega) (fun hf => ?_)
      rw [Try.results95]
      clear hf
      try simp -implicitDefEqProofs only [w1, e1, e2, push_cast, Nat.reduceEqDiff, Nat.reduceBEq, Nat.reduceBNe, Nat.reduceAdd, Nat.reduceMul, Nat.reduceLT, Nat.reduceLeDiff, Nat.reduceSub, reduceCtorEq, Int.reduceToNat, ↓reduceIte]
      repeat'
        (first
         | (refine uYes ?_; first | exact List.mem_cons_self | (simp only [List.mem_cons, List.not_mem_nil, or_false, true_or, or_true]; done))
         | (refine uNo (by kernel_rfl))
         | (refine flatMk ?_; kernel_rfl)
         | (refine And.intro ?_ ?_)
         | (intro hx)
         | ((first
             | (refine callGF ?_)
             | (refine callQGF ?_)
             | (refine skipG ?_)
             | (refine callS (hP _) ?_)
             | (refine callQ (hP _) ?_)
             | (refine callG (fun hc => (hP _)) ?_)
             | (refine callQG (fun hc => (hP _)) ?_)); simp -implicitDefEqProofs only [w1, e1, e2, push_cast, Nat.reduceEqDiff, Nat.reduceBEq, Nat.reduceBNe, Nat.reduceAdd, Nat.reduceMul, Nat.reduceLT, Nat.reduceLeDiff, Nat.reduceSub, reduceCtorEq, Int.reduceToNat, ↓reduceIte]))
      refine ev_loop [] (fun i : Nat => [(1, .int .i64 depth), (3, .ptr h.length 0), (7, .int .i64 ((kids.take i).foldl F (left - 1))), (8, .int .i64 i)])
        (fun _ => [.row [.int .i64 op, .int .i64 num, .str name, .slice kids .no, .slice (ms.map Mrk.d) .no]]) (fun i => i ≤ kids.length) (fun i => kids.length - i) 0 trivial (Nat.zero_le _) ?_ ?_
      · refine ⟨1, by simp, by simp [tokSts], ?_⟩
        simp -implicitDefEqProofs only [List.take_zero, List.foldl_nil, Int.natCast_add, Int.cast_ofNat_Int, List.length_nil, Nat.le_refl, WeakTo, tokSts, tokOks, List.append_cancel_left_eq, exists_eq_left', exists_eq_left, List.append_cancel_left_eq, List.take_length, ObCl, and_true, true_and, push_cast, Nat.reduceEqDiff, Nat.reduceBEq, Nat.reduceBNe, Nat.reduceAdd, Nat.reduceMul, Nat.reduceLT, Nat.reduceLeDiff, Nat.reduceSub, reduceCtorEq, Int.reduceToNat, ↓reduceIte]
      · intro i hi
        have hw : IntKind.i64.wrap ((i : Int) + 1) = i + 1 := wrap_id (by omega) (by omega)
        have hr := hFr i
        rcases Nat.lt_or_ge i kids.length with hlt | hge
        · have hst := hstep i hlt
          have hso := hstop i
          obtain ⟨m, em, hk, hz⟩ := H.kid hlt
          have ihi := ih i hlt
          obtain ⟨op', num', name', kids', ms', e', _⟩ := hk.p
          have hL := hz (.agg [.int .i64 0, .int .i64 0, .str [], .slice [] .full, .slice [] .full])
          rw [e', ruD] at hL ihi
          rw [hF, e', ruD] at hst
          generalize hm : (kids.take i).foldl F (left - 1) = v at hr hst hso
          have hv := fun g e1 e2 => ihi v g e1 e2
          by_cases hv0 : v < 0
          · have e3 : decide (0 ≤ v) = false := decide_eq_false (by omega)
            rw [hso hv0]
            try simp -implicitDefEqProofs only [hw, e3, push_cast, Nat.reduceEqDiff, Nat.reduceBEq, Nat.reduceBNe, Nat.reduceAdd, Nat.reduceMul, Nat.reduceLT, Nat.reduceLeDiff, Nat.reduceSub, reduceCtorEq, Int.reduceToNat, ↓reduceIte]
            repeat'
              (first
               | (refine uYes ?_; first | exact List.mem_cons_self | (simp only [List.mem_cons, List.not_mem_nil, or_false, true_or, or_true]; done))
               | (refine uNo (by kernel_rfl))
               | (refine flatMk ?_; kernel_rfl)
               | (refine And.intro ?_ ?_)
               | (intro hx)
               | ((first
                   | (refine callGF ?_)
                   | (refine callQGF ?_)
                   | (refine skipG ?_)
                   | (refine callS (in_gives _ _ _ _) ?_)
                   | (refine callQ (in_gives _ _ _ _) ?_)
                   | (refine callG (fun hc => (in_gives _ _ _ _)) ?_)
                   | (refine callQG (fun hc => (in_gives _ _ _ _)) ?_)); simp -implicitDefEqProofs only [hw, e3, push_cast, Nat.reduceEqDiff, Nat.reduceBEq, Nat.reduceBNe, Nat.reduceAdd, Nat.reduceMul, Nat.reduceLT, Nat.reduceLeDiff, Nat.reduceSub, reduceCtorEq, Int.reduceToNat, ↓reduceIte]))
            all_goals first
              | omega
              | trace_state
          · have e3 : decide (0 ≤ v) = true := decide_eq_true (by omega)
            rw [if_neg hv0] at hst
            try simp -implicitDefEqProofs only [hw, w2, hS, e3, hL, push_cast, Nat.reduceEqDiff, Nat.reduceBEq, Nat.reduceBNe, Nat.reduceAdd, Nat.reduceMul, Nat.reduceLT, Nat.reduceLeDiff, Nat.reduceSub, reduceCtorEq, Int.reduceToNat, ↓reduceIte]
            repeat'
              (first
               | (refine uYes ?_; first | exact List.mem_cons_self | (simp only [List.mem_cons, List.not_mem_nil, or_false, true_or, or_true]; done))
               | (refine uNo (by kernel_rfl))
               | (refine flatMk ?_; kernel_rfl)
               | (refine And.intro ?_ ?_)
               | (intro hx)
               | ((first
                   | (refine callGF ?_)
                   | (refine callQGF ?_)
                   | (refine skipG ?_)
                   | (refine callS (hv _ (by omega) (by omega)) ?_)
                   | (refine callQ (hv _ (by omega) (by omega)) ?_)
                   | (refine callG (fun hc => (hv _ (by omega) (by omega))) ?_)
                   | (refine callQG (fun hc => (hv _ (by omega) (by omega))) ?_)); simp -implicitDefEqProofs only [hw, w2, hS, e3, hL, push_cast, Nat.reduceEqDiff, Nat.reduceBEq, Nat.reduceBNe, Nat.reduceAdd, Nat.reduceMul, Nat.reduceLT, Nat.reduceLeDiff, Nat.reduceSub, reduceCtorEq, Int.reduceToNat, ↓reduceIte]))
            all_goals first
              | omega
              | (refine round_mk (i + 1) (by omega) (by omega) ?_
                 simp -implicitDefEqProofs only [hw, hst, Int.natCast_add, Int.cast_ofNat_Int, List.length_nil, Nat.le_refl, WeakTo, tokSts, tokOks, List.append_cancel_left_eq, exists_eq_left', exists_eq_left, List.append_cancel_left_eq, List.take_length, ObCl, and_true, true_and, push_cast, Nat.reduceEqDiff, Nat.reduceBEq, Nat.reduceBNe, Nat.reduceAdd, Nat.reduceMul, Nat.reduceLT, Nat.reduceLeDiff, Nat.reduceSub, reduceCtorEq, Int.reduceToNat, ↓reduceIte]
                 done)
              | trace_state
        · obtain rfl : i = kids.length := by omega
          rw [List.take_length] at hr ⊢
          try simp -implicitDefEqProofs only [hw, push_cast, Nat.reduceEqDiff, Nat.reduceBEq, Nat.reduceBNe, Nat.reduceAdd, Nat.reduceMul, Nat.reduceLT, Nat.reduceLeDiff, Nat.reduceSub, reduceCtorEq, Int.reduceToNat, ↓reduceIte]
          repeat'
            (first
             | (refine uYes ?_; first | exact List.mem_cons_self | (simp only [List.mem_cons, List.not_mem_nil, or_false, true_or, or_true]; done))
             | (refine uNo (by kernel_rfl))
             | (refine flatMk ?_; kernel_rfl)
             | (refine And.intro ?_ ?_)
             | (intro hx)
             | ((first
                 | (refine callGF ?_)
                 | (refine callQGF ?_)
                 | (refine skipG ?_)
                 | (refine callS (in_gives _ _ _ _) ?_)
                 | (refine callQ (in_gives _ _ _ _) ?_)
                 | (refine callG (fun hc => (in_gives _ _ _ _)) ?_)
                 | (refine callQG (fun hc => (in_gives _ _ _ _)) ?_)); simp -implicitDefEqProofs only [hw, push_cast, Nat.reduceEqDiff, Nat.reduceBEq, Nat.reduceBNe, Nat.reduceAdd, Nat.reduceMul, Nat.reduceLT, Nat.reduceLeDiff, Nat.reduceSub, reduceCtorEq, Int.reduceToNat, ↓reduceIte]))
          all_goals first
            | omega
            | trace_state
  termination_by n => n
end Go.Proofs.Ytcmpcpigchlhpaa
