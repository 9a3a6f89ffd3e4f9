/- Contracts of functions of the program (T1). -/
import Derived.Test.YtcmpcpigchlhpaaGe

namespace Go.Proofs.Ytcmpcpigchlhpaa
set_option linter.unusedSectionVars false
open Go.Av
variable [Av.Start]
set_option maxRecDepth 10000
set_option maxHeartbeats 1000000
set_option linter.unusedSimpArgs false
set_option linter.unusedVariables false

/-! The texts that the laws mark memory with. -/
def markGo : Nat → Int → List UInt8 → List UInt8
  | 0, _, out => out
  | n + 1, k, out => if 0 < k then markGo n (k.tdiv 10) (UInt8.ofNat (48 + k.tmod 10).toNat :: out) else out
def markT (k : Int) : List UInt8 := if k ≤ 0 then [109, 48] else 109 :: markGo k.toNat k []
omit [Av.Start] in
theorem markGo_end : ∀ (n : Nat) {k : Int} (out : List UInt8), k ≤ 0 → markGo n k out = out
  | 0, _, _, _ => rfl
  | n + 1, k, out, h => by rw [markGo, if_neg (by omega)]
omit [Av.Start] in
theorem u8_wrap {n : Int} (h0 : 0 ≤ n) (h1 : n ≤ 255) : IntKind.u8.wrap n = n := by
  rw [show IntKind.u8.wrap n = n % 256 from rfl]
  omega
structure MarkI (k0 : Int) (x : Nat × Int × List UInt8) : Prop where
  go : markGo x.1 x.2.1 x.2.2 = markGo k0.toNat k0 []
  nn : 0 ≤ x.2.1
  fuel : x.2.1.toNat ≤ x.1
  big : x.2.1 * 10 ^ x.2.2.length ≤ k0
  len : x.2.2.length ≤ 20
omit [Av.Start] in
theorem pow_big {n : Nat} (h : (10 : Int) ^ n ≤ 4000000000000000000) : n ≤ 18 := by
  apply Decidable.byContradiction
  intro hn
  have : (10 : Nat) ^ 19 ≤ 10 ^ n := Nat.pow_le_pow_right (by omega) (by omega)
  have h2 : ((10 ^ n : Nat) : Int) ≤ 4000000000000000000 := by push_cast; exact h
  omega
theorem markText_gives (k : Int) (h : Hp) (hk : k ≤ 4000000000000000000) : Gives Try.prog 39 [.int .i64 k] h (.str (markT k)) := by
  by_cases h0 : k ≤ 0
  · rw [markT, if_pos h0]
    refine meets_of [] mixed Try.func39 rfl (by kernel_rfl) (by kernel_rfl) (by rw [Try.ntmps39]; simp only [List.length_cons, List.length_nil]; omega) (fun hf => ?_)
    rw [Try.results39]
    clear hf
    try simp -implicitDefEqProofs only [lenMax, push_cast, Nat.reduceEqDiff, Nat.reduceBEq, Nat.reduceBNe, Nat.reduceAdd, Nat.reduceMul, Nat.reduceLT, Nat.reduceLeDiff, Nat.reduceSub, reduceCtorEq, Int.reduceToNat, ↓reduceIte]
    repeat'
      (first
       | (refine uYes ?_; first | exact List.mem_cons_self | (simp only [List.mem_cons, List.not_mem_nil, or_false, true_or, or_true]; done))
       | (refine uNo (by kernel_rfl))
       | (refine flatMk ?_; kernel_rfl)
       | (refine And.intro ?_ ?_)
       | (intro hx)
       | ((first
           | (refine callGF ?_)
           | (refine callQGF ?_)
           | (refine skipG ?_)
           | (refine callS (in_gives ..) ?_)
           | (refine callQ (in_gives ..) ?_)
           | (refine callG (fun hc => (in_gives ..)) ?_)
           | (refine callQG (fun hc => (in_gives ..)) ?_)); simp -implicitDefEqProofs only [lenMax, push_cast, Nat.reduceEqDiff, Nat.reduceBEq, Nat.reduceBNe, Nat.reduceAdd, Nat.reduceMul, Nat.reduceLT, Nat.reduceLeDiff, Nat.reduceSub, reduceCtorEq, Int.reduceToNat, ↓reduceIte]))
    all_goals first
      | omega
      | rfl
      | trace_state
  · rw [markT, if_neg h0]
    have h0' : decide (k ≤ 0) = false := decide_eq_false h0
    refine meets_of [] mixed Try.func39 rfl (by kernel_rfl) (by kernel_rfl) (by rw [Try.ntmps39]; simp only [List.length_cons, List.length_nil]; omega) (fun hf => ?_)
    rw [Try.results39]
    clear hf
    simp -implicitDefEqProofs only [h0', push_cast, Nat.reduceEqDiff, Nat.reduceBEq, Nat.reduceBNe, Nat.reduceAdd, Nat.reduceMul, Nat.reduceLT, Nat.reduceLeDiff, Nat.reduceSub, reduceCtorEq, Int.reduceToNat, ↓reduceIte]
    refine ev_loop0 [] (fun x : Nat × Int × List UInt8 => [(0, .int .i64 x.2.1), (3, .str x.2.2)]) (MarkI k) (fun x => x.1) (k.toNat, k, []) trivial ⟨rfl, by simp only; omega, Nat.le_refl _, by simp, by simp⟩ ?_ ?_
    · refine ⟨rfl, [], ?_⟩
      simp -implicitDefEqProofs only [lenMax, Int.natCast_add, Int.cast_ofNat_Int, List.length_nil, Nat.le_refl, WeakTo, tokSts, tokOks, List.append_cancel_left_eq, exists_eq_left', exists_eq_left, List.append_cancel_left_eq, List.take_length, ObCl, and_true, true_and, push_cast, Nat.reduceEqDiff, Nat.reduceBEq, Nat.reduceBNe, Nat.reduceAdd, Nat.reduceMul, Nat.reduceLT, Nat.reduceLeDiff, Nat.reduceSub, reduceCtorEq, Int.reduceToNat, ↓reduceIte]
    · rintro ⟨n, j, out⟩ ⟨g1, g2, g3, g4, hll⟩
      simp only at g1 g2 g3 g4 hll
      by_cases hj : 0 < j
      · have hj' : decide (0 < j) = true := decide_eq_true hj
        have hp : (0 : Int) < 10 ^ out.length := Int.pow_pos (by decide)
        have h10 : (10 : Int) ^ out.length ≤ j * 10 ^ out.length := by
          have := Int.mul_le_mul_of_nonneg_right (show (1 : Int) ≤ j by omega) (Int.le_of_lt hp)
          rwa [Int.one_mul] at this
        have hl := pow_big (Int.le_trans h10 (Int.le_trans g4 hk))
        have t1 : 0 ≤ j.tmod 10 ∧ j.tmod 10 < 10 := by rw [Int.tmod_eq_emod_of_nonneg g2]; omega
        have t2 : 0 ≤ j.tdiv 10 ∧ j.tdiv 10 * 10 ≤ j := by rw [Int.tdiv_eq_ediv_of_nonneg g2]; omega
        have w1 : IntKind.i64.wrap (48 + j.tmod 10) = 48 + j.tmod 10 := wrap_id (by omega) (by omega)
        have w2 : IntKind.u8.wrap (48 + j.tmod 10) = 48 + j.tmod 10 := u8_wrap (by omega) (by omega)
        have w3 : IntKind.i64.wrap (j.tdiv 10) = j.tdiv 10 := wrap_id (by omega) (by have := Int.le_trans (Int.mul_le_mul_of_nonneg_left (show (1 : Int) ≤ 10 ^ out.length by omega) g2) g4; omega)
        try simp -implicitDefEqProofs only [hj', w1, w2, w3, lenMax, push_cast, Nat.reduceEqDiff, Nat.reduceBEq, Nat.reduceBNe, Nat.reduceAdd, Nat.reduceMul, Nat.reduceLT, Nat.reduceLeDiff, Nat.reduceSub, reduceCtorEq, Int.reduceToNat, ↓reduceIte]
        repeat'
          (first
           | (refine uYes ?_; first | exact List.mem_cons_self | (simp only [List.mem_cons, List.not_mem_nil, or_false, true_or, or_true]; done))
           | (refine uNo (by kernel_rfl))
           | (refine flatMk ?_; kernel_rfl)
           | (refine And.intro ?_ ?_)
           | (intro hx)
           | ((first
               | (refine callGF ?_)
               | (refine callQGF ?_)
               | (refine skipG ?_)
               | (refine callS (in_gives ..) ?_)
               | (refine callQ (in_gives ..) ?_)
               | (refine callG (fun hc => (in_gives ..)) ?_)
               | (refine callQG (fun hc => (in_gives ..)) ?_)); simp -implicitDefEqProofs only [hj', w1, w2, w3, lenMax, push_cast, Nat.reduceEqDiff, Nat.reduceBEq, Nat.reduceBNe, Nat.reduceAdd, Nat.reduceMul, Nat.reduceLT, Nat.reduceLeDiff, Nat.reduceSub, reduceCtorEq, Int.reduceToNat, ↓reduceIte]))
        all_goals first
          | omega
          | (simp only [byteOf, iof, List.length_append, List.length_cons, List.length_nil]; omega)
          | (refine round_mk0 (n - 1, j.tdiv 10, UInt8.ofNat (48 + j.tmod 10).toNat :: out) ⟨?_, t2.1, ?_, ?_, by simp only [List.length_cons]; omega⟩ ?_ ⟨[], ?_⟩
             · have hn : n = (n - 1) + 1 := by omega
               rw [hn, markGo, if_pos hj] at g1
               exact g1
             · simp only; omega
             · simp only [List.length_cons, Int.pow_succ]
               have := Int.mul_le_mul_of_nonneg_right t2.2 (Int.le_of_lt hp)
               rw [Int.mul_assoc, Int.mul_comm 10] at this
               omega
             · simp only; omega
             · simp -implicitDefEqProofs only [w1, w2, w3, byteOf, Int.natCast_add, Int.cast_ofNat_Int, List.length_nil, Nat.le_refl, WeakTo, tokSts, tokOks, List.append_cancel_left_eq, exists_eq_left', exists_eq_left, List.append_cancel_left_eq, List.take_length, ObCl, and_true, true_and, push_cast, Nat.reduceEqDiff, Nat.reduceBEq, Nat.reduceBNe, Nat.reduceAdd, Nat.reduceMul, Nat.reduceLT, Nat.reduceLeDiff, Nat.reduceSub, reduceCtorEq, Int.reduceToNat, ↓reduceIte])
          | trace_state
      · have hj' : decide (0 < j) = false := decide_eq_false hj
        have e := g1.symm.trans (markGo_end n out (by omega))
        have hlo : out.length ≤ 20 := by
          rcases Nat.lt_or_ge 20 out.length with h | h
          · exact absurd hll (by omega)
          · exact h
        rw [e]
        try simp -implicitDefEqProofs only [hj', lenMax, push_cast, Nat.reduceEqDiff, Nat.reduceBEq, Nat.reduceBNe, Nat.reduceAdd, Nat.reduceMul, Nat.reduceLT, Nat.reduceLeDiff, Nat.reduceSub, reduceCtorEq, Int.reduceToNat, ↓reduceIte]
        repeat'
          (first
           | (refine uYes ?_; first | exact List.mem_cons_self | (simp only [List.mem_cons, List.not_mem_nil, or_false, true_or, or_true]; done))
           | (refine uNo (by kernel_rfl))
           | (refine flatMk ?_; kernel_rfl)
           | (refine And.intro ?_ ?_)
           | (intro hx)
           | ((first
               | (refine callGF ?_)
               | (refine callQGF ?_)
               | (refine skipG ?_)
               | (refine callS (in_gives ..) ?_)
               | (refine callQ (in_gives ..) ?_)
               | (refine callG (fun hc => (in_gives ..)) ?_)
               | (refine callQG (fun hc => (in_gives ..)) ?_)); simp -implicitDefEqProofs only [hj', lenMax, push_cast, Nat.reduceEqDiff, Nat.reduceBEq, Nat.reduceBNe, Nat.reduceAdd, Nat.reduceMul, Nat.reduceLT, Nat.reduceLeDiff, Nat.reduceSub, reduceCtorEq, Int.reduceToNat, ↓reduceIte]))
        all_goals first
          | omega
          | trace_state
end Go.Proofs.Ytcmpcpigchlhpaa
