/- Contracts of functions of the program (C3). -/
import Derived.Test.YtmehbbepppjikaaC2

namespace Go.Proofs.Ytmehbbepppjikaa
open Go.Av
set_option maxRecDepth 10000
set_option linter.unusedSimpArgs false
set_option linter.unusedVariables false

def fallAt (xs : List Int) (hi : Int) (i : Nat) : Bool := inB (xs.getD i 0) 0 hi && (decide (i = 0) || decide (xs.getD i 0 ≤ xs.getD (i - 1) 0))
def fallB (xs : List Int) (hi : Int) : Bool := allB xs.length (fallAt xs hi)

theorem falling_gives (xs : List Int) (hi : Int) (h : Hp) : Gives Try.prog 77 [.slice (xs.map (.int .i64)) .no, .int .i64 hi] h (.bool (fallB xs hi)) := by
  refine meets_of [] mixed Try.func77 rfl (by kernel_rfl) (by kernel_rfl) (by rw [Try.ntmps77]; simp only [List.length_cons, List.length_nil]; omega) (fun hf => ?_)
  rw [Try.results77]
  have hl : xs.length ≤ 1073741824 := by simpa [fitsD, flen, lenMax] using hf
  clear hf
  simp -implicitDefEqProofs only [push_cast, Nat.reduceEqDiff, Nat.reduceBEq, Nat.reduceBNe, Nat.reduceAdd, Nat.reduceMul, Nat.reduceLT, Nat.reduceLeDiff, Nat.reduceSub, reduceCtorEq, Int.reduceToNat, ↓reduceIte]
  refine ev_loop0 [] (fun k : Nat => [(0, .slice (xs.map (.int .i64)) .no), (1, .int .i64 hi), (7, .slice (xs.map (.int .i64)) .no), (8, .int .i64 xs.length), (9, .int .i64 k)]) (fun k => k ≤ xs.length ∧ ∀ i, i < k → fallAt xs hi i = true) (fun k => xs.length - k) 0 trivial ⟨Nat.zero_le _, fun i hi => absurd hi (Nat.not_lt_zero i)⟩ ?_ ?_
  · exact ⟨rfl, [], by simp -implicitDefEqProofs only [Int.natCast_add, Int.cast_ofNat_Int, List.length_nil, Nat.le_refl, WeakTo, tokSts, tokOks, List.append_cancel_left_eq, exists_eq_left', exists_eq_left, List.append_cancel_left_eq, List.take_length, ObCl, and_true, true_and, push_cast, Nat.reduceEqDiff, Nat.reduceBEq, Nat.reduceBNe, Nat.reduceAdd, Nat.reduceMul, Nat.reduceLT, Nat.reduceLeDiff, Nat.reduceSub, reduceCtorEq, Int.reduceToNat, ↓reduceIte, List.length_nil, Nat.le_refl]⟩
  · intro k hk
    have hw : IntKind.i64.wrap ((k : Int) + 1) = k + 1 := wrap_id (by omega) (by omega)
    have hw1 : IntKind.i64.wrap ((k : Int) - 1) = k - 1 := wrap_id (by omega) (by omega)
    have hp : ((k : Int) - 1).toNat = k - 1 := by omega
    try simp -implicitDefEqProofs only [hw, hw1, hp, push_cast, Nat.reduceEqDiff, Nat.reduceBEq, Nat.reduceBNe, Nat.reduceAdd, Nat.reduceMul, Nat.reduceLT, Nat.reduceLeDiff, Nat.reduceSub, reduceCtorEq, Int.reduceToNat, ↓reduceIte]
    repeat'
      (first
       | (refine uYes ?_; first | exact List.mem_cons_self | (simp only [List.mem_cons, List.not_mem_nil, or_false, true_or, or_true]; done))
       | (refine uNo (by kernel_rfl))
       | (refine flatMk ?_; kernel_rfl)
       | (refine And.intro ?_ ?_)
       | (intro hx)
       | ((first
           | (refine callGF ?_)
           | (refine callQGF ?_)
           | (refine skipG ?_)
           | (refine callS (in_gives ..) ?_)
           | (refine callQ (in_gives ..) ?_)
           | (refine callG (fun hc => (in_gives ..)) ?_)
           | (refine callQG (fun hc => (in_gives ..)) ?_)); simp -implicitDefEqProofs only [hw, hw1, hp, push_cast, Nat.reduceEqDiff, Nat.reduceBEq, Nat.reduceBNe, Nat.reduceAdd, Nat.reduceMul, Nat.reduceLT, Nat.reduceLeDiff, Nat.reduceSub, reduceCtorEq, Int.reduceToNat, ↓reduceIte]))
    all_goals first
      | omega
      | exact hx
      | exact hx.1
      | (refine round_mk0 (k + 1) ⟨by omega, allB_step hk.2 ?_⟩ (by omega) ⟨[], ?_⟩
         · simp only [fallAt, hx.1, Bool.true_and, Bool.or_eq_true, decide_eq_true_eq]
           by_cases e : k = 0
           · exact .inl e
           · exact .inr (hx.2 (by omega))
         · simp -implicitDefEqProofs only [hw, Int.natCast_add, Int.cast_ofNat_Int, List.length_nil, Nat.le_refl, WeakTo, tokSts, tokOks, List.append_cancel_left_eq, exists_eq_left', exists_eq_left, List.append_cancel_left_eq, List.take_length, ObCl, and_true, true_and, push_cast, Nat.reduceEqDiff, Nat.reduceBEq, Nat.reduceBNe, Nat.reduceAdd, Nat.reduceMul, Nat.reduceLT, Nat.reduceLeDiff, Nat.reduceSub, reduceCtorEq, Int.reduceToNat, ↓reduceIte])
      | (rw [fallB, allB_f k (by omega)]
         simp only [fallAt, Bool.and_eq_false_iff, Bool.or_eq_false_iff, decide_eq_false_iff_not]
         rcases hx with hx | hx
         · exact .inl hx
         · exact .inr ⟨by omega, by omega⟩)
      | (obtain rfl : k = xs.length := by omega
         rw [fallB, allB_t hk.2])

theorem findIdx_at {p : Int → Bool} : ∀ (xs : List Int) (k : Nat), k < xs.length → (∀ i, i < k → p (xs.getD i 0) = false) → p (xs.getD k 0) = true → xs.findIdx p = k
  | [], k, h, _, _ => absurd h (Nat.not_lt_zero k)
  | x :: xs, 0, _, _, h => by
    have : p x = true := h
    simp [List.findIdx_cons, this]
  | x :: xs, k + 1, h, ha, hb => by
    have h0 : p x = false := ha 0 (by omega)
    have := findIdx_at xs k (by simpa using h) (fun i hi => ha (i + 1) (by omega)) hb
    simp [List.findIdx_cons, h0, this]
theorem index_gives (xs : List Int) (f : FuncId) (caps : List D) (h : Hp) (p : Int → Bool) (hp : ∀ x, Gives Try.prog f (.int .i64 x :: caps) h (.bool (p x))) (hc : ∀ c, c ∈ caps → Cl h.length c) :
    Gives Try.prog 117 [.slice (xs.map (.int .i64)) .no, .fn f caps] h (.int .i64 (if allB xs.length (fun i => !p (xs.getD i 0)) then -1 else (xs.findIdx p : Nat))) := by
  refine meets_of [] mixed Try.func117 rfl (by kernel_rfl) (by kernel_rfl) (by rw [Try.ntmps117]; simp only [List.length_cons, List.length_nil]; omega) (fun hf => ?_)
  rw [Try.results117]
  have hl : xs.length ≤ 1073741824 := by
    have := hf (.slice (xs.map (.int .i64)) .no) (by simp)
    simpa [fitsD, flen, lenMax] using this
  clear hf
  simp -implicitDefEqProofs only [push_cast, Nat.reduceEqDiff, Nat.reduceBEq, Nat.reduceBNe, Nat.reduceAdd, Nat.reduceMul, Nat.reduceLT, Nat.reduceLeDiff, Nat.reduceSub, reduceCtorEq, Int.reduceToNat, ↓reduceIte]
  refine ev_loop0 [] (fun k : Nat => [(0, .slice (xs.map (.int .i64)) .no), (1, .fn f caps), (7, .int .i64 xs.length), (8, .int .i64 k)]) (fun k => k ≤ xs.length ∧ ∀ i, i < k → p (xs.getD i 0) = false) (fun k => xs.length - k) 0 trivial ⟨Nat.zero_le _, fun i hi => absurd hi (Nat.not_lt_zero i)⟩ ?_ ?_
  · refine ⟨rfl, [], ?_⟩
    simp -implicitDefEqProofs only [Int.natCast_add, Int.cast_ofNat_Int, List.length_nil, Nat.le_refl, WeakTo, tokSts, tokOks, List.append_cancel_left_eq, exists_eq_left', exists_eq_left, List.append_cancel_left_eq, List.take_length, ObCl, and_true, true_and, push_cast, Nat.reduceEqDiff, Nat.reduceBEq, Nat.reduceBNe, Nat.reduceAdd, Nat.reduceMul, Nat.reduceLT, Nat.reduceLeDiff, Nat.reduceSub, reduceCtorEq, Int.reduceToNat, ↓reduceIte]
    exact hc
  · intro k hk
    have hw : IntKind.i64.wrap ((k : Int) + 1) = k + 1 := wrap_id (by omega) (by omega)
    try simp -implicitDefEqProofs only [hw, push_cast, Nat.reduceEqDiff, Nat.reduceBEq, Nat.reduceBNe, Nat.reduceAdd, Nat.reduceMul, Nat.reduceLT, Nat.reduceLeDiff, Nat.reduceSub, reduceCtorEq, Int.reduceToNat, ↓reduceIte]
    repeat'
      (first
       | (refine uYes ?_; first | exact List.mem_cons_self | (simp only [List.mem_cons, List.not_mem_nil, or_false, true_or, or_true]; done))
       | (refine uNo (by kernel_rfl))
       | (refine flatMk ?_; kernel_rfl)
       | (refine And.intro ?_ ?_)
       | (intro hx)
       | ((first
           | (refine callGF ?_)
           | (refine callQGF ?_)
           | (refine skipG ?_)
           | (refine callS (hp _) ?_)
           | (refine callQ (hp _) ?_)
           | (refine callG (fun hc => (hp _)) ?_)
           | (refine callQG (fun hc => (hp _)) ?_)); simp -implicitDefEqProofs only [hw, push_cast, Nat.reduceEqDiff, Nat.reduceBEq, Nat.reduceBNe, Nat.reduceAdd, Nat.reduceMul, Nat.reduceLT, Nat.reduceLeDiff, Nat.reduceSub, reduceCtorEq, Int.reduceToNat, ↓reduceIte]))
    all_goals first
      | omega
      | (refine round_mk0 (k + 1) ⟨by omega, fun i hi => ?_⟩ (by omega) ⟨[], ?_⟩
         · by_cases e : i = k
           · exact e ▸ hx
           · exact hk.2 i (by omega)
         · simp -implicitDefEqProofs only [hw, Int.natCast_add, Int.cast_ofNat_Int, List.length_nil, Nat.le_refl, WeakTo, tokSts, tokOks, List.append_cancel_left_eq, exists_eq_left', exists_eq_left, List.append_cancel_left_eq, List.take_length, ObCl, and_true, true_and, push_cast, Nat.reduceEqDiff, Nat.reduceBEq, Nat.reduceBNe, Nat.reduceAdd, Nat.reduceMul, Nat.reduceLT, Nat.reduceLeDiff, Nat.reduceSub, reduceCtorEq, Int.reduceToNat, ↓reduceIte]
           exact hc)
      | (rw [allB_f k (by omega) (by rw [hx]; rfl), findIdx_at xs k (by omega) hk.2 hx]
         rfl)
      | (obtain rfl : k = xs.length := by omega
         rw [allB_t (fun i hi => by rw [hk.2 i hi]; rfl)]
         rfl)
def anyB (xs : List Int) (p : Int → Bool) : Bool := !allB xs.length (fun i => !p (xs.getD i 0))
theorem contains_gives (xs : List Int) (f : FuncId) (caps : List D) (h : Hp) (p : Int → Bool) (hp : ∀ x, Gives Try.prog f (.int .i64 x :: caps) h (.bool (p x))) (hc : ∀ c, c ∈ caps → Cl h.length c) :
    Gives Try.prog 78 [.slice (xs.map (.int .i64)) .no, .fn f caps] h (.bool (anyB xs p)) := by
  refine meets_of [] mixed Try.func78 rfl (by kernel_rfl) (by kernel_rfl) (by rw [Try.ntmps78]; simp only [List.length_cons, List.length_nil]; omega) (fun hf => ?_)
  rw [Try.results78]
  try simp -implicitDefEqProofs only [push_cast, Nat.reduceEqDiff, Nat.reduceBEq, Nat.reduceBNe, Nat.reduceAdd, Nat.reduceMul, Nat.reduceLT, Nat.reduceLeDiff, Nat.reduceSub, reduceCtorEq, Int.reduceToNat, ↓reduceIte]
  repeat'
    (first
     | (refine uYes ?_; first | exact List.mem_cons_self | (simp only [List.mem_cons, List.not_mem_nil, or_false, true_or, or_true]; done))
     | (refine uNo (by kernel_rfl))
     | (refine flatMk ?_; kernel_rfl)
     | (refine And.intro ?_ ?_)
     | (intro hx)
     | ((first
         | (refine callGF ?_)
         | (refine callQGF ?_)
         | (refine skipG ?_)
         | (refine callS (index_gives _ _ _ _ _ hp hc) ?_)
         | (refine callQ (index_gives _ _ _ _ _ hp hc) ?_)
         | (refine callG (fun hc => (index_gives _ _ _ _ _ hp hc)) ?_)
         | (refine callQG (fun hc => (index_gives _ _ _ _ _ hp hc)) ?_)); simp -implicitDefEqProofs only [push_cast, Nat.reduceEqDiff, Nat.reduceBEq, Nat.reduceBNe, Nat.reduceAdd, Nat.reduceMul, Nat.reduceLT, Nat.reduceLeDiff, Nat.reduceSub, reduceCtorEq, Int.reduceToNat, ↓reduceIte]))
  cases e : allB xs.length (fun i => !p (xs.getD i 0)) <;> simp only [anyB, e] <;> rfl

theorem legOk1_gives (l : Leg) (x : Int) (r : Nat) (h : Hp) (hr : ob h r = .row l.cs) : Gives Try.prog 79 [.int .i64 x, .ptr r 0] h (.bool (!inB x 0 l.cap)) := by
  refine meets_of [] mixed Try.func79 rfl (by kernel_rfl) (by kernel_rfl) (by rw [Try.ntmps79]; simp only [List.length_cons, List.length_nil]; omega) (fun hf => ?_)
  rw [Try.results79]
  try simp -implicitDefEqProofs only [hr, push_cast, Nat.reduceEqDiff, Nat.reduceBEq, Nat.reduceBNe, Nat.reduceAdd, Nat.reduceMul, Nat.reduceLT, Nat.reduceLeDiff, Nat.reduceSub, reduceCtorEq, Int.reduceToNat, ↓reduceIte]
  repeat'
    (first
     | (refine uYes ?_; first | exact List.mem_cons_self | (simp only [List.mem_cons, List.not_mem_nil, or_false, true_or, or_true]; done))
     | (refine uNo (by kernel_rfl))
     | (refine flatMk ?_; kernel_rfl)
     | (refine And.intro ?_ ?_)
     | (intro hx)
     | ((first
         | (refine callGF ?_)
         | (refine callQGF ?_)
         | (refine skipG ?_)
         | (refine callS (in_gives ..) ?_)
         | (refine callQ (in_gives ..) ?_)
         | (refine callG (fun hc => (in_gives ..)) ?_)
         | (refine callQG (fun hc => (in_gives ..)) ?_)); simp -implicitDefEqProofs only [hr, push_cast, Nat.reduceEqDiff, Nat.reduceBEq, Nat.reduceBNe, Nat.reduceAdd, Nat.reduceMul, Nat.reduceLT, Nat.reduceLeDiff, Nat.reduceSub, reduceCtorEq, Int.reduceToNat, ↓reduceIte]))

def holdAt (l : Leg) (i : Nat) : Bool := mayB l (l.holds.getD i default) && (decide (i = 0) || decide ((l.holds.getD (i - 1) default).txn < (l.holds.getD i default).txn))
def clsAt (l : Leg) (i : Nat) : Bool := decide (usedV l i ≤ l.limits.getD i 0) && decide (backV l i ≤ l.sold.getD i 0)
def holdsB (l : Leg) : Bool := allB l.holds.length (holdAt l) && allB 3 (clsAt l) && decide (l.holds.length ≤ 6)
theorem holdsOk_gives (l : Leg) (h : Hp) (h1 : l.limits.length = 3) (h2 : l.sold.length = 3) : Gives Try.prog 80 [l.d] h (.bool (holdsB l)) := by
  refine meets_of [] mixed Try.func80 rfl (by kernel_rfl) (by kernel_rfl) (by rw [Try.ntmps80]; simp only [List.length_cons, List.length_nil]; omega) (fun hf => ?_)
  rw [Try.results80]
  obtain ⟨_, _, _, _, hf1, _, hf2⟩ := Leg.fit (hf l.d (by simp))
  clear hf
  simp -implicitDefEqProofs only [push_cast, Nat.reduceEqDiff, Nat.reduceBEq, Nat.reduceBNe, Nat.reduceAdd, Nat.reduceMul, Nat.reduceLT, Nat.reduceLeDiff, Nat.reduceSub, reduceCtorEq, Int.reduceToNat, ↓reduceIte]
  refine ev_loop [] (fun k : Nat => [(1, .ptr h.length 0), (7, .slice (l.holds.map Hold.d) .no), (8, .int .i64 l.holds.length), (9, .int .i64 k)])
    (fun _ => [.row l.cs]) (fun k => k ≤ l.holds.length ∧ ∀ i, i < k → holdAt l i = true) (fun k => l.holds.length - k) 0 trivial ⟨Nat.zero_le _, fun i hi => absurd hi (Nat.not_lt_zero i)⟩ ?_ ?_
  · refine ⟨1, by simp, by simp [tokSts], ?_⟩
    simp -implicitDefEqProofs only [Int.natCast_add, Int.cast_ofNat_Int, List.length_nil, Nat.le_refl, WeakTo, tokSts, tokOks, List.append_cancel_left_eq, exists_eq_left', exists_eq_left, List.append_cancel_left_eq, List.take_length, ObCl, and_true, true_and, push_cast, Nat.reduceEqDiff, Nat.reduceBEq, Nat.reduceBNe, Nat.reduceAdd, Nat.reduceMul, Nat.reduceLT, Nat.reduceLeDiff, Nat.reduceSub, reduceCtorEq, Int.reduceToNat, ↓reduceIte]
  · intro k hk
    have hw : IntKind.i64.wrap ((k : Int) + 1) = k + 1 := wrap_id (by omega) (by omega)
    have hw1 : IntKind.i64.wrap ((k : Int) - 1) = k - 1 := wrap_id (by omega) (by omega)
    have hp : ((k : Int) - 1).toNat = k - 1 := by omega
    try simp -implicitDefEqProofs only [hw, hw1, hp, push_cast, Nat.reduceEqDiff, Nat.reduceBEq, Nat.reduceBNe, Nat.reduceAdd, Nat.reduceMul, Nat.reduceLT, Nat.reduceLeDiff, Nat.reduceSub, reduceCtorEq, Int.reduceToNat, ↓reduceIte]
    repeat'
      (first
       | (refine uYes ?_; first | exact List.mem_cons_self | (simp only [List.mem_cons, List.not_mem_nil, or_false, true_or, or_true]; done))
       | (refine uNo (by kernel_rfl))
       | (refine flatMk ?_; kernel_rfl)
       | (refine And.intro ?_ ?_)
       | (intro hx)
       | ((first
           | (refine callGF ?_)
           | (refine callQGF ?_)
           | (refine skipG ?_)
           | (refine callS (may_gives l (l.holds.getD k default) _) ?_)
           | (refine callQ (may_gives l (l.holds.getD k default) _) ?_)
           | (refine callG (fun hc => (may_gives l (l.holds.getD k default) _)) ?_)
           | (refine callQG (fun hc => (may_gives l (l.holds.getD k default) _)) ?_)); simp -implicitDefEqProofs only [hw, hw1, hp, push_cast, Nat.reduceEqDiff, Nat.reduceBEq, Nat.reduceBNe, Nat.reduceAdd, Nat.reduceMul, Nat.reduceLT, Nat.reduceLeDiff, Nat.reduceSub, reduceCtorEq, Int.reduceToNat, ↓reduceIte]))
    all_goals first
      | omega
      | exact hx
      | exact hx.1
      | assumption
      | (refine round_mk (k + 1) ⟨by omega, allB_step hk.2 ?_⟩ (by omega) ?_
         · simp only [holdAt, hx.1, Bool.true_and, Bool.or_eq_true, decide_eq_true_eq]
           by_cases e : k = 0
           · exact .inl e
           · exact .inr (hx.2 (by omega))
         · simp -implicitDefEqProofs only [hw, Int.natCast_add, Int.cast_ofNat_Int, List.length_nil, Nat.le_refl, WeakTo, tokSts, tokOks, List.append_cancel_left_eq, exists_eq_left', exists_eq_left, List.append_cancel_left_eq, List.take_length, ObCl, and_true, true_and, push_cast, Nat.reduceEqDiff, Nat.reduceBEq, Nat.reduceBNe, Nat.reduceAdd, Nat.reduceMul, Nat.reduceLT, Nat.reduceLeDiff, Nat.reduceSub, reduceCtorEq, Int.reduceToNat, ↓reduceIte])
      | (rw [holdsB, allB_f k (by omega)]
         · rfl
         · simp only [holdAt, Bool.and_eq_false_iff, Bool.or_eq_false_iff, decide_eq_false_iff_not]
           rcases hx with hx | hx
           · exact .inl hx
           · exact .inr ⟨by omega, by omega⟩)
      | skip
    obtain rfl : k = l.holds.length := by omega
    refine ev_loop [] (fun k : Nat => [(1, .ptr h.length 0), (35, .int .i64 k)])
      (fun _ => [.row l.cs]) (fun k => k ≤ 3 ∧ ∀ i, i < k → clsAt l i = true) (fun k => 3 - k) 0 trivial ⟨Nat.zero_le _, fun i hi => absurd hi (Nat.not_lt_zero i)⟩ ?_ ?_
    · refine ⟨1, by simp, by simp [tokSts], ?_⟩
      simp -implicitDefEqProofs only [Int.natCast_add, Int.cast_ofNat_Int, List.length_nil, Nat.le_refl, WeakTo, tokSts, tokOks, List.append_cancel_left_eq, exists_eq_left', exists_eq_left, List.append_cancel_left_eq, List.take_length, ObCl, and_true, true_and, push_cast, Nat.reduceEqDiff, Nat.reduceBEq, Nat.reduceBNe, Nat.reduceAdd, Nat.reduceMul, Nat.reduceLT, Nat.reduceLeDiff, Nat.reduceSub, reduceCtorEq, Int.reduceToNat, ↓reduceIte]
    · intro m hm
      have hw : IntKind.i64.wrap ((m : Int) + 1) = m + 1 := wrap_id (by omega) (by omega)
      try simp -implicitDefEqProofs only [hw, push_cast, Nat.reduceEqDiff, Nat.reduceBEq, Nat.reduceBNe, Nat.reduceAdd, Nat.reduceMul, Nat.reduceLT, Nat.reduceLeDiff, Nat.reduceSub, reduceCtorEq, Int.reduceToNat, ↓reduceIte]
      repeat'
        (first
         | (refine uYes ?_; first | exact List.mem_cons_self | (simp only [List.mem_cons, List.not_mem_nil, or_false, true_or, or_true]; done))
         | (refine uNo (by kernel_rfl))
         | (refine flatMk ?_; kernel_rfl)
         | (refine And.intro ?_ ?_)
         | (intro hx)
         | ((first
             | (refine callGF ?_)
             | (refine callQGF ?_)
             | (refine skipG ?_)
             | (refine callS (used_gives l _ _ (by omega) (by omega)) ?_)
             | (refine callQ (used_gives l _ _ (by omega) (by omega)) ?_)
             | (refine callG (fun hc => (used_gives l _ _ (by omega) (by omega))) ?_)
             | (refine callQG (fun hc => (used_gives l _ _ (by omega) (by omega))) ?_)
             | (refine callS (back_gives l _ _) ?_)
             | (refine callQ (back_gives l _ _) ?_)
             | (refine callG (fun hc => (back_gives l _ _)) ?_)
             | (refine callQG (fun hc => (back_gives l _ _)) ?_)); simp -implicitDefEqProofs only [hw, push_cast, Nat.reduceEqDiff, Nat.reduceBEq, Nat.reduceBNe, Nat.reduceAdd, Nat.reduceMul, Nat.reduceLT, Nat.reduceLeDiff, Nat.reduceSub, reduceCtorEq, Int.reduceToNat, ↓reduceIte]))
      all_goals first
        | omega
        | exact hx
        | (refine round_mk (m + 1) ⟨by omega, allB_step hm.2 ?_⟩ (by omega) ?_
           · simp only [clsAt, Bool.and_eq_true, decide_eq_true_eq]
             exact hx
           · simp -implicitDefEqProofs only [hw, Int.natCast_add, Int.cast_ofNat_Int, List.length_nil, Nat.le_refl, WeakTo, tokSts, tokOks, List.append_cancel_left_eq, exists_eq_left', exists_eq_left, List.append_cancel_left_eq, List.take_length, ObCl, and_true, true_and, push_cast, Nat.reduceEqDiff, Nat.reduceBEq, Nat.reduceBNe, Nat.reduceAdd, Nat.reduceMul, Nat.reduceLT, Nat.reduceLeDiff, Nat.reduceSub, reduceCtorEq, Int.reduceToNat, ↓reduceIte])
        | (rw [holdsB, allB_t hk.2, allB_f m (by omega)]
           · rfl
           · simp only [clsAt, Bool.and_eq_false_iff, decide_eq_false_iff_not]
             rcases hx with hx | hx
             · exact .inl (by omega)
             · exact .inr (by omega))
        | (obtain rfl : m = 3 := by omega
           rw [holdsB, allB_t hk.2, allB_t hm.2, Bool.true_and, Bool.true_and]
           exact decide_eq_decide.2 ⟨fun e => by omega, fun e => by omega⟩)

end Go.Proofs.Ytmehbbepppjikaa
