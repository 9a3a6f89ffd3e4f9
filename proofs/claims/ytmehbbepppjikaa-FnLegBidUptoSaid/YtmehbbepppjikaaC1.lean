/- Contracts of functions of the program (C1). -/
import Derived.Test.YtmehbbepppjikaaBase

namespace Go.Proofs.Ytmehbbepppjikaa
open Go.Av
set_option maxRecDepth 10000
set_option linter.unusedSimpArgs false
set_option linter.unusedVariables false

theorem l1In_gives (n lo hi : Int) (h : Hp) : Gives Try.prog 70 [.int .i64 n, .int .i64 lo, .int .i64 hi] h (.bool (inB n lo hi)) := by
  refine meets_of [] mixed Try.func70 rfl (by kernel_rfl) (by kernel_rfl) (by rw [Try.ntmps70]; simp only [List.length_cons, List.length_nil]; omega) (fun hf => ?_)
  rw [Try.results70]
  simp -implicitDefEqProofs only [inB, push_cast, Nat.reduceEqDiff, Nat.reduceBEq, Nat.reduceBNe, Nat.reduceAdd, Nat.reduceMul, Nat.reduceLT, Nat.reduceLeDiff, Nat.reduceSub, reduceCtorEq, Int.reduceToNat, ↓reduceIte]
theorem in_gives (n lo hi : Int) (h : Hp) : Gives Try.prog 76 [.int .i64 n, .int .i64 lo, .int .i64 hi] h (.bool (inB n lo hi)) := by
  refine meets_of [] mixed Try.func76 rfl (by kernel_rfl) (by kernel_rfl) (by rw [Try.ntmps76]; simp only [List.length_cons, List.length_nil]; omega) (fun hf => ?_)
  rw [Try.results76]
  simp -implicitDefEqProofs only [inB, push_cast, Nat.reduceEqDiff, Nat.reduceBEq, Nat.reduceBNe, Nat.reduceAdd, Nat.reduceMul, Nat.reduceLT, Nat.reduceLeDiff, Nat.reduceSub, reduceCtorEq, Int.reduceToNat, ↓reduceIte]
theorem isClass_gives (n : Int) (h : Hp) : Gives Try.prog 86 [.int .i64 n] h (.bool (inB n 0 2)) := by
  refine meets_of [] mixed Try.func86 rfl (by kernel_rfl) (by kernel_rfl) (by rw [Try.ntmps86]; simp only [List.length_cons, List.length_nil]; omega) (fun hf => ?_)
  rw [Try.results86]
  try simp -implicitDefEqProofs only [push_cast, Nat.reduceEqDiff, Nat.reduceBEq, Nat.reduceBNe, Nat.reduceAdd, Nat.reduceMul, Nat.reduceLT, Nat.reduceLeDiff, Nat.reduceSub, reduceCtorEq, Int.reduceToNat, ↓reduceIte]
  repeat'
    (first
     | (refine uYes ?_; first | exact List.mem_cons_self | (simp only [List.mem_cons, List.not_mem_nil, or_false, true_or, or_true]; done))
     | (refine uNo (by kernel_rfl))
     | (refine flatMk ?_; kernel_rfl)
     | (refine And.intro ?_ ?_)
     | ((first
         | (refine callGF ?_)
         | (refine callQGF ?_)
         | (refine skipG ?_)
         | (refine callS (in_gives ..) ?_)
         | (refine callQ (in_gives ..) ?_)
         | (refine callG (fun hc => (in_gives ..)) ?_)
         | (refine callQG (fun hc => (in_gives ..)) ?_)); simp -implicitDefEqProofs only [push_cast, Nat.reduceEqDiff, Nat.reduceBEq, Nat.reduceBNe, Nat.reduceAdd, Nat.reduceMul, Nat.reduceLT, Nat.reduceLeDiff, Nat.reduceSub, reduceCtorEq, Int.reduceToNat, ↓reduceIte]))
theorem isTxn_gives (n : Int) (h : Hp) : Gives Try.prog 139 [.int .i64 n] h (.bool (inB n 1 99)) := by
  refine meets_of [] mixed Try.func139 rfl (by kernel_rfl) (by kernel_rfl) (by rw [Try.ntmps139]; simp only [List.length_cons, List.length_nil]; omega) (fun hf => ?_)
  rw [Try.results139]
  try simp -implicitDefEqProofs only [push_cast, Nat.reduceEqDiff, Nat.reduceBEq, Nat.reduceBNe, Nat.reduceAdd, Nat.reduceMul, Nat.reduceLT, Nat.reduceLeDiff, Nat.reduceSub, reduceCtorEq, Int.reduceToNat, ↓reduceIte]
  repeat'
    (first
     | (refine uYes ?_; first | exact List.mem_cons_self | (simp only [List.mem_cons, List.not_mem_nil, or_false, true_or, or_true]; done))
     | (refine uNo (by kernel_rfl))
     | (refine flatMk ?_; kernel_rfl)
     | (refine And.intro ?_ ?_)
     | ((first
         | (refine callGF ?_)
         | (refine callQGF ?_)
         | (refine skipG ?_)
         | (refine callS (in_gives ..) ?_)
         | (refine callQ (in_gives ..) ?_)
         | (refine callG (fun hc => (in_gives ..)) ?_)
         | (refine callQG (fun hc => (in_gives ..)) ?_)); simp -implicitDefEqProofs only [push_cast, Nat.reduceEqDiff, Nat.reduceBEq, Nat.reduceBNe, Nat.reduceAdd, Nat.reduceMul, Nat.reduceLT, Nat.reduceLeDiff, Nat.reduceSub, reduceCtorEq, Int.reduceToNat, ↓reduceIte]))
def mayB (l : Leg) (o : Hold) : Bool := inB o.txn 1 99 && inB o.cls 0 2 && inB o.seats (IntKind.i64.wrap (0 - l.cap)) l.cap && !decide (o.seats = 0)
theorem may_gives (l : Leg) (o : Hold) (h : Hp) : Gives Try.prog 118 [l.d, o.d] h (.bool (mayB l o)) := by
  rw [mayB]
  refine meets_of [] mixed Try.func118 rfl (by kernel_rfl) (by kernel_rfl) (by rw [Try.ntmps118]; simp only [List.length_cons, List.length_nil]; omega) (fun hf => ?_)
  rw [Try.results118]
  try simp -implicitDefEqProofs only [push_cast, Nat.reduceEqDiff, Nat.reduceBEq, Nat.reduceBNe, Nat.reduceAdd, Nat.reduceMul, Nat.reduceLT, Nat.reduceLeDiff, Nat.reduceSub, reduceCtorEq, Int.reduceToNat, ↓reduceIte]
  repeat'
    (first
     | (refine uYes ?_; first | exact List.mem_cons_self | (simp only [List.mem_cons, List.not_mem_nil, or_false, true_or, or_true]; done))
     | (refine uNo (by kernel_rfl))
     | (refine flatMk ?_; kernel_rfl)
     | (refine And.intro ?_ ?_)
     | ((first
         | (refine callGF ?_)
         | (refine callQGF ?_)
         | (refine skipG ?_)
         | (refine callS (in_gives ..) ?_)
         | (refine callQ (in_gives ..) ?_)
         | (refine callG (fun hc => (in_gives ..)) ?_)
         | (refine callQG (fun hc => (in_gives ..)) ?_)
         | (refine callS (isClass_gives ..) ?_)
         | (refine callQ (isClass_gives ..) ?_)
         | (refine callG (fun hc => (isClass_gives ..)) ?_)
         | (refine callQG (fun hc => (isClass_gives ..)) ?_)
         | (refine callS (isTxn_gives ..) ?_)
         | (refine callQ (isTxn_gives ..) ?_)
         | (refine callG (fun hc => (isTxn_gives ..)) ?_)
         | (refine callQG (fun hc => (isTxn_gives ..)) ?_)); simp -implicitDefEqProofs only [push_cast, Nat.reduceEqDiff, Nat.reduceBEq, Nat.reduceBNe, Nat.reduceAdd, Nat.reduceMul, Nat.reduceLT, Nat.reduceLeDiff, Nat.reduceSub, reduceCtorEq, Int.reduceToNat, ↓reduceIte]))
def nameB (s : List UInt8) : Bool := allB s.length (fun i => inB (s.getD i 0).toNat 97 122) && inB s.length 1 8
theorem specName_gives (s : List UInt8) (h : Hp) : Gives Try.prog 116 [.str s] h (.bool (nameB s)) := by
  refine meets_of [] mixed Try.func116 rfl (by kernel_rfl) (by kernel_rfl) (by rw [Try.ntmps116]; simp only [List.length_cons, List.length_nil]; omega) (fun hf => ?_)
  rw [Try.results116]
  have hl : s.length ≤ 1073741824 := by simpa [fitsD, flen, lenMax] using hf
  simp -implicitDefEqProofs only [push_cast, Nat.reduceEqDiff, Nat.reduceBEq, Nat.reduceBNe, Nat.reduceAdd, Nat.reduceMul, Nat.reduceLT, Nat.reduceLeDiff, Nat.reduceSub, reduceCtorEq, Int.reduceToNat, ↓reduceIte]
  refine ev_loop0 [] (fun k : Nat => [(0, .str s), (3, .int .i64 k)]) (fun k => k ≤ s.length ∧ ∀ i, i < k → inB (s.getD i 0).toNat 97 122 = true) (fun k => s.length - k) 0 trivial ⟨Nat.zero_le _, fun i hi => absurd hi (Nat.not_lt_zero i)⟩ ?_ ?_
  · exact ⟨rfl, [], by simp -implicitDefEqProofs only [Int.natCast_add, Int.cast_ofNat_Int, List.length_nil, Nat.le_refl, WeakTo, tokSts, tokOks, List.append_cancel_left_eq, exists_eq_left', exists_eq_left, List.append_cancel_left_eq, List.take_length, ObCl, and_true, true_and, push_cast, Nat.reduceEqDiff, Nat.reduceBEq, Nat.reduceBNe, Nat.reduceAdd, Nat.reduceMul, Nat.reduceLT, Nat.reduceLeDiff, Nat.reduceSub, reduceCtorEq, Int.reduceToNat, ↓reduceIte, List.length_nil, Nat.le_refl]⟩
  · intro k hk
    simp -implicitDefEqProofs only [push_cast, Nat.reduceEqDiff, Nat.reduceBEq, Nat.reduceBNe, Nat.reduceAdd, Nat.reduceMul, Nat.reduceLT, Nat.reduceLeDiff, Nat.reduceSub, reduceCtorEq, Int.reduceToNat, ↓reduceIte]
    refine ⟨fun hlt => ⟨⟨by omega, hlt⟩, fun e => ⟨e, e, by omega, hlt⟩, fun hc => ?_, fun hc => round_mk0 (k + 1) ⟨by omega, allB_step hk.2 ?_⟩ (by omega) ?_⟩, fun hge => ?_⟩
    · rw [nameB, allB_f k (by omega) (by simp only [inB, Bool.and_eq_false_imp, decide_eq_true_eq, decide_eq_false_iff_not]; omega)]; rfl
    · simp only [inB, Bool.and_eq_true, decide_eq_true_eq]; exact hc
    · refine ⟨[], ?_⟩
      simp -implicitDefEqProofs only [Int.natCast_add, Int.cast_ofNat_Int, List.length_nil, Nat.le_refl, WeakTo, tokSts, tokOks, List.append_cancel_left_eq, exists_eq_left', exists_eq_left, List.append_cancel_left_eq, List.take_length, ObCl, and_true, true_and, push_cast, Nat.reduceEqDiff, Nat.reduceBEq, Nat.reduceBNe, Nat.reduceAdd, Nat.reduceMul, Nat.reduceLT, Nat.reduceLeDiff, Nat.reduceSub, reduceCtorEq, Int.reduceToNat, ↓reduceIte, List.length_nil, Nat.le_refl]
      exact wrap_id (by omega) (by omega)
    · obtain rfl : k = s.length := by omega
      try simp -implicitDefEqProofs only [push_cast, Nat.reduceEqDiff, Nat.reduceBEq, Nat.reduceBNe, Nat.reduceAdd, Nat.reduceMul, Nat.reduceLT, Nat.reduceLeDiff, Nat.reduceSub, reduceCtorEq, Int.reduceToNat, ↓reduceIte]
      repeat'
        (first
         | (refine uYes ?_; first | exact List.mem_cons_self | (simp only [List.mem_cons, List.not_mem_nil, or_false, true_or, or_true]; done))
         | (refine uNo (by kernel_rfl))
         | (refine flatMk ?_; kernel_rfl)
         | (refine And.intro ?_ ?_)
         | ((first
             | (refine callGF ?_)
             | (refine callQGF ?_)
             | (refine skipG ?_)
             | (refine callS (l1In_gives ..) ?_)
             | (refine callQ (l1In_gives ..) ?_)
             | (refine callG (fun hc => (l1In_gives ..)) ?_)
             | (refine callQG (fun hc => (l1In_gives ..)) ?_)); simp -implicitDefEqProofs only [push_cast, Nat.reduceEqDiff, Nat.reduceBEq, Nat.reduceBNe, Nat.reduceAdd, Nat.reduceMul, Nat.reduceLT, Nat.reduceLeDiff, Nat.reduceSub, reduceCtorEq, Int.reduceToNat, ↓reduceIte]))
      rw [nameB, allB_t hk.2]; rfl
theorem implName_gives (s : List UInt8) (h : Hp) : Gives Try.prog 75 [.str s] h (.bool (nameB s)) := by
  refine meets_of [] mixed Try.func75 rfl (by kernel_rfl) (by kernel_rfl) (by rw [Try.ntmps75]; simp only [List.length_cons, List.length_nil]; omega) (fun hf => ?_)
  rw [Try.results75]
  have hl : s.length ≤ 1073741824 := by simpa [fitsD, flen, lenMax] using hf
  simp -implicitDefEqProofs only [push_cast, Nat.reduceEqDiff, Nat.reduceBEq, Nat.reduceBNe, Nat.reduceAdd, Nat.reduceMul, Nat.reduceLT, Nat.reduceLeDiff, Nat.reduceSub, reduceCtorEq, Int.reduceToNat, ↓reduceIte]
  refine ev_loop0 [] (fun k : Nat => [(0, .str s), (3, .int .i64 k)]) (fun k => k ≤ s.length ∧ ∀ i, i < k → inB (s.getD i 0).toNat 97 122 = true) (fun k => s.length - k) 0 trivial ⟨Nat.zero_le _, fun i hi => absurd hi (Nat.not_lt_zero i)⟩ ?_ ?_
  · exact ⟨rfl, [], by simp -implicitDefEqProofs only [Int.natCast_add, Int.cast_ofNat_Int, List.length_nil, Nat.le_refl, WeakTo, tokSts, tokOks, List.append_cancel_left_eq, exists_eq_left', exists_eq_left, List.append_cancel_left_eq, List.take_length, ObCl, and_true, true_and, push_cast, Nat.reduceEqDiff, Nat.reduceBEq, Nat.reduceBNe, Nat.reduceAdd, Nat.reduceMul, Nat.reduceLT, Nat.reduceLeDiff, Nat.reduceSub, reduceCtorEq, Int.reduceToNat, ↓reduceIte, List.length_nil, Nat.le_refl]⟩
  · intro k hk
    simp -implicitDefEqProofs only [push_cast, Nat.reduceEqDiff, Nat.reduceBEq, Nat.reduceBNe, Nat.reduceAdd, Nat.reduceMul, Nat.reduceLT, Nat.reduceLeDiff, Nat.reduceSub, reduceCtorEq, Int.reduceToNat, ↓reduceIte]
    refine ⟨fun hlt => ⟨⟨by omega, hlt⟩, fun e => ⟨e, e, by omega, hlt⟩, fun hc => ?_, fun hc => round_mk0 (k + 1) ⟨by omega, allB_step hk.2 ?_⟩ (by omega) ?_⟩, fun hge => ?_⟩
    · rw [nameB, allB_f k (by omega) (by simp only [inB, Bool.and_eq_false_imp, decide_eq_true_eq, decide_eq_false_iff_not]; omega)]; rfl
    · simp only [inB, Bool.and_eq_true, decide_eq_true_eq]; exact hc
    · refine ⟨[], ?_⟩
      simp -implicitDefEqProofs only [Int.natCast_add, Int.cast_ofNat_Int, List.length_nil, Nat.le_refl, WeakTo, tokSts, tokOks, List.append_cancel_left_eq, exists_eq_left', exists_eq_left, List.append_cancel_left_eq, List.take_length, ObCl, and_true, true_and, push_cast, Nat.reduceEqDiff, Nat.reduceBEq, Nat.reduceBNe, Nat.reduceAdd, Nat.reduceMul, Nat.reduceLT, Nat.reduceLeDiff, Nat.reduceSub, reduceCtorEq, Int.reduceToNat, ↓reduceIte, List.length_nil, Nat.le_refl]
      exact wrap_id (by omega) (by omega)
    · obtain rfl : k = s.length := by omega
      try simp -implicitDefEqProofs only [push_cast, Nat.reduceEqDiff, Nat.reduceBEq, Nat.reduceBNe, Nat.reduceAdd, Nat.reduceMul, Nat.reduceLT, Nat.reduceLeDiff, Nat.reduceSub, reduceCtorEq, Int.reduceToNat, ↓reduceIte]
      repeat'
        (first
         | (refine uYes ?_; first | exact List.mem_cons_self | (simp only [List.mem_cons, List.not_mem_nil, or_false, true_or, or_true]; done))
         | (refine uNo (by kernel_rfl))
         | (refine flatMk ?_; kernel_rfl)
         | (refine And.intro ?_ ?_)
         | ((first
             | (refine callGF ?_)
             | (refine callQGF ?_)
             | (refine skipG ?_)
             | (refine callS (in_gives ..) ?_)
             | (refine callQ (in_gives ..) ?_)
             | (refine callG (fun hc => (in_gives ..)) ?_)
             | (refine callQG (fun hc => (in_gives ..)) ?_)); simp -implicitDefEqProofs only [push_cast, Nat.reduceEqDiff, Nat.reduceBEq, Nat.reduceBNe, Nat.reduceAdd, Nat.reduceMul, Nat.reduceLT, Nat.reduceLeDiff, Nat.reduceSub, reduceCtorEq, Int.reduceToNat, ↓reduceIte]))
      rw [nameB, allB_t hk.2]; rfl
end Go.Proofs.Ytmehbbepppjikaa
