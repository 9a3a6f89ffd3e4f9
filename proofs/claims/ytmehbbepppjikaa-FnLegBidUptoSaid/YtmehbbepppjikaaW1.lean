/- Contracts of functions of the program (W1). -/
import Derived.Test.YtmehbbepppjikaaD6
import Derived.Test.YtmehbbepppjikaaC11

namespace Go.Proofs.Ytmehbbepppjikaa
open Go.Av
set_option maxRecDepth 10000
set_option maxHeartbeats 1000000
set_option linter.unusedSimpArgs false
set_option linter.unusedVariables false

theorem wsIn_gives (n lo hi : Int) (h : Hp) : Gives Try.prog 29 [.int .i64 n, .int .i64 lo, .int .i64 hi] h (.bool (decide (lo ≤ n) && decide (n ≤ hi))) := by
  refine meets_of [] mixed Try.func29 rfl (by kernel_rfl) (by kernel_rfl) (by rw [Try.ntmps29]; simp only [List.length_cons, List.length_nil]; omega) (fun hf => ?_)
  rw [Try.results29]
  try simp -implicitDefEqProofs only [push_cast, Nat.reduceEqDiff, Nat.reduceBEq, Nat.reduceBNe, Nat.reduceAdd, Nat.reduceMul, Nat.reduceLT, Nat.reduceLeDiff, Nat.reduceSub, reduceCtorEq, Int.reduceToNat, ↓reduceIte]
  repeat'
    (first
     | (refine uYes ?_; first | exact List.mem_cons_self | (simp only [List.mem_cons, List.not_mem_nil, or_false, true_or, or_true]; done))
     | (refine uNo (by kernel_rfl))
     | (refine flatMk ?_; kernel_rfl)
     | (refine And.intro ?_ ?_)
     | (intro hx)
     | ((first
         | (refine callGF ?_)
         | (refine callQGF ?_)
         | (refine skipG ?_)
         | (refine callS (l1In_gives _ _ _ _) ?_)
         | (refine callQ (l1In_gives _ _ _ _) ?_)
         | (refine callG (fun hc => (l1In_gives _ _ _ _)) ?_)
         | (refine callQG (fun hc => (l1In_gives _ _ _ _)) ?_)); simp -implicitDefEqProofs only [push_cast, Nat.reduceEqDiff, Nat.reduceBEq, Nat.reduceBNe, Nat.reduceAdd, Nat.reduceMul, Nat.reduceLT, Nat.reduceLeDiff, Nat.reduceSub, reduceCtorEq, Int.reduceToNat, ↓reduceIte]))
  all_goals grind
theorem legRoomV_bad {l : Leg} {c : Int} (h : (legB l && inB c 0 2) = false) : legRoomV l c = 0 := by
  rw [legRoomV, h]; rfl
theorem legRoomV_good {l : Leg} {c : Int} (hb : legB l = true) (hc : inB c 0 2 = true) : 0 ≤ legRoomV l c ∧ legRoomV l c ≤ l.limits.getD c.toNat 0 ∧ (c ≠ 0 → legRoomV l c ≤ legRoomV l (c - 1)) := by
  have hp := legP_of hb
  have h1 := inB_iff.1 hc
  have h2 := hp.roomW (k := c.toNat) (by omega)
  rw [legRoomV, hb, hc]
  simp only [Bool.and_self, if_true]
  refine ⟨h2.2.1, h2.2.2, fun h0 => ?_⟩
  have hc' : inB (c - 1) 0 2 = true := inB_iff.2 (by omega)
  rw [legRoomV, hb, hc']
  simp only [Bool.and_self, if_true]
  obtain ⟨k, rfl⟩ : ∃ k : Nat, c = k + 1 := ⟨(c - 1).toNat, by omega⟩
  rw [show ((k : Int) + 1).toNat = k + 1 by omega, show ((k : Int) + 1 - 1).toNat = k by omega]
  exact Int.min_le_left _ _
theorem legRoomV_bad' {l : Leg} {c : Int} (h : legB l = false ∨ (0 ≤ c → 2 < c)) : legRoomV l c = 0 := by
  refine legRoomV_bad ?_
  rw [Bool.and_eq_false_iff]
  refine h.imp id fun hc => ?_
  cases e : inB c 0 2 with
  | false => rfl
  | true =>
    have := inB_iff.1 e
    omega
theorem legRoomV_good' {l : Leg} {c : Int} (h : legB l = true ∧ 0 ≤ c ∧ c ≤ 2) : l.limits.length = 3 ∧ 0 ≤ legRoomV l c ∧ legRoomV l c ≤ l.limits.getD c.toNat 0 ∧ (c ≠ 0 → legRoomV l c ≤ legRoomV l (IntKind.i64.wrap (c - 1))) := by
  rw [wrap_id (by omega) (by omega)]
  exact ⟨(legP_of h.1).limits, legRoomV_good h.1 (inB_iff.2 h.2)⟩
end Go.Proofs.Ytmehbbepppjikaa
