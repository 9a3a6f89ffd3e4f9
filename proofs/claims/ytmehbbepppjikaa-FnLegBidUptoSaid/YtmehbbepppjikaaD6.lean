/- Contracts of functions of the program (D6). -/
import Derived.Test.YtmehbbepppjikaaD5

namespace Go.Proofs.Ytmehbbepppjikaa
open Go.Av
set_option maxRecDepth 10000
set_option maxHeartbeats 1000000
set_option linter.unusedSimpArgs false
set_option linter.unusedVariables false
attribute [local irreducible] finS

def anyS (bs : List Int) (p : Int) : Leg × Int := if pickV bs (soldS bs p).2 12 = 0 then spoilS bs ((soldS bs p).2 + 1) (soldS bs p).1 else ((soldS bs p).1, (soldS bs p).2 + 1)
theorem spoilS_place (bs : List Int) (p : Int) (l : Leg) : p ≤ (spoilS bs p l).2 ∧ (spoilS bs p l).2 ≤ p + 4 := by
  rw [spoilS]
  repeat' split
  all_goals (simp only; omega)
theorem anyS_place {bs : List Int} {p : Int} (H : Rd bs (p + 300)) (hp0 : 0 ≤ p) : p ≤ (anyS bs p).2 ∧ (anyS bs p).2 ≤ p + 70 := by
  have hh := H.hi
  obtain ⟨a1, a2, a3⟩ := soldS_ok (H.up (p' := p + 200) (by omega) (by omega)) hp0
  have b := spoilS_place bs ((soldS bs p).2 + 1) (soldS bs p).1
  rw [anyS]
  split
  · omega
  · simp only; omega
theorem l14AnyLeg_gives (bs : List Int) (p : Int) (r : Nat) (h : Hp) (hr : ob h r = .row (rdC bs p)) (hrl : r < h.length) (H : Rd bs (p + 300)) (hp0 : 0 ≤ p) :
    Meets Try.prog 84 [.ptr r 0] h fun d' h' => d' = (anyS bs p).1.d ∧ h' = h.set r (.row (rdC bs (anyS bs p).2)) := by
  have hhi := H.hi
  obtain ⟨r1, r2, r3, r4, r5, r6, r7, r8, r9⟩ := rdf hrl
  have r4' := fun ls => (r4 ls).trans hr
  obtain ⟨a1, a2, a3⟩ := soldS_ok (H.up (p' := p + 200) (by omega) (by omega)) hp0
  have hS := fun g q1 q2 => l14Sold_gives bs p r g q1 q2 (H.up (by omega) (by omega)) hp0
  rw [anyS]
  generalize soldS bs p = s at a1 a2 a3 hS
  obtain ⟨l, q⟩ := s
  simp only at a1 a2 a3 hS ⊢
  have vq := pickV_range (p := q) (H.up (by omega) (by omega)) 12 (by omega)
  by_cases hz : pickV bs q 12 = 0
  · simp only [hz, if_true]
    have hP := fun g q1 q2 => l14SpoilLeg_gives bs (q + 1) l r g q1 q2 (H.up (by omega) (by omega)) (by omega) a1
    generalize spoilS bs (q + 1) l = t at hP
    obtain ⟨l', q'⟩ := t
    simp only at hP ⊢
    refine meets_of [] mixed Try.func84 rfl (by kernel_rfl) (by kernel_rfl) (by rw [Try.ntmps84]; simp only [List.length_cons, List.length_nil]; omega) (fun hf => ?_)
    rw [Try.results84]
    clear hf
    try simp -implicitDefEqProofs only [hz, r1, r2, r5, r6, r7, r8, lenMax, List.length_set, push_cast, Nat.reduceEqDiff, Nat.reduceBEq, Nat.reduceBNe, Nat.reduceAdd, Nat.reduceMul, Nat.reduceLT, Nat.reduceLeDiff, Nat.reduceSub, reduceCtorEq, Int.reduceToNat, ↓reduceIte]
    repeat'
      (first
       | (refine uYes ?_; first | exact List.mem_cons_self | (simp only [List.mem_cons, List.not_mem_nil, or_false, true_or, or_true]; done))
       | (refine uNo (by kernel_rfl))
       | (refine flatMk ?_; kernel_rfl)
       | (refine And.intro ?_ ?_)
       | (intro hx)
       | ((first
           | (refine callGF ?_)
           | (refine callQGF ?_)
           | (refine skipG ?_)
           | (refine callM (hS _ (r4' _) (by simp; omega)) ?_)
           | (refine callM (dst := some 7) (pick_gives bs _ _ r _ (r3 _ _) (by simp; omega) (H.up (by omega) (by omega))) ?_)
           | (refine callM (dst := some 11) (hP _ (r3 _ _) (by simp; omega)) ?_)); simp -implicitDefEqProofs only [hz, r1, r2, r5, r6, r7, r8, lenMax, List.length_set, push_cast, Nat.reduceEqDiff, Nat.reduceBEq, Nat.reduceBNe, Nat.reduceAdd, Nat.reduceMul, Nat.reduceLT, Nat.reduceLeDiff, Nat.reduceSub, reduceCtorEq, Int.reduceToNat, ↓reduceIte]))
    all_goals first
      | omega
      | exact back_rd hrl bs _ _
      | trace_state
  · have hz' : decide (pickV bs q 12 = 0) = false := decide_eq_false hz
    simp only [hz, if_false]
    refine meets_of [] mixed Try.func84 rfl (by kernel_rfl) (by kernel_rfl) (by rw [Try.ntmps84]; simp only [List.length_cons, List.length_nil]; omega) (fun hf => ?_)
    rw [Try.results84]
    clear hf
    try simp -implicitDefEqProofs only [hz', r1, r2, r5, r6, r7, r8, lenMax, List.length_set, push_cast, Nat.reduceEqDiff, Nat.reduceBEq, Nat.reduceBNe, Nat.reduceAdd, Nat.reduceMul, Nat.reduceLT, Nat.reduceLeDiff, Nat.reduceSub, reduceCtorEq, Int.reduceToNat, ↓reduceIte]
    repeat'
      (first
       | (refine uYes ?_; first | exact List.mem_cons_self | (simp only [List.mem_cons, List.not_mem_nil, or_false, true_or, or_true]; done))
       | (refine uNo (by kernel_rfl))
       | (refine flatMk ?_; kernel_rfl)
       | (refine And.intro ?_ ?_)
       | (intro hx)
       | ((first
           | (refine callGF ?_)
           | (refine callQGF ?_)
           | (refine skipG ?_)
           | (refine callM (hS _ (r4' _) (by simp; omega)) ?_)
           | (refine callM (dst := some 7) (pick_gives bs _ _ r _ (r3 _ _) (by simp; omega) (H.up (by omega) (by omega))) ?_)); simp -implicitDefEqProofs only [hz', r1, r2, r5, r6, r7, r8, lenMax, List.length_set, push_cast, Nat.reduceEqDiff, Nat.reduceBEq, Nat.reduceBNe, Nat.reduceAdd, Nat.reduceMul, Nat.reduceLT, Nat.reduceLeDiff, Nat.reduceSub, reduceCtorEq, Int.reduceToNat, ↓reduceIte]))
    all_goals first
      | omega
      | exact back_rd hrl bs _ _
      | trace_state
def roomD (bs : List Int) : Leg × Int := ((anyS (bs.take 2000) 0).1, [pickV (bs.take 2000) (anyS (bs.take 2000) 0).2 3, -1, 3].getD ((pickV (bs.take 2000) ((anyS (bs.take 2000) 0).2 + 1) 12 * 3).tdiv 12).toNat 0)
theorem rd_take {bs : List Int} (hb : ∀ x, x ∈ bs → 0 ≤ x ∧ x ≤ 255) (p : Int) (h0 : 0 ≤ p) (h1 : p ≤ 1000000000) : Rd (bs.take 2000) p := ⟨fun x hx => hb x (List.mem_of_mem_take hx), by rw [List.length_take]; omega, h0, h1⟩
theorem drawLegRoom_gives (bs : List Int) (h : Hp) (hb : ∀ x, x ∈ bs → 0 ≤ x ∧ x ≤ 255) : Gives Try.prog 26 [.slice (bs.map (.int .u8)) .no] h (.tup [(roomD bs).1.d, .int .i64 (roomD bs).2]) := by
  have hR := fun p h0 h1 => rd_take hb p h0 h1
  have hA := anyS_place (bs := bs.take 2000) (p := 0) (hR _ (by omega) (by omega)) (by omega)
  have hG := fun (r : Nat) g q1 q2 => l14AnyLeg_gives (bs.take 2000) 0 r g q1 q2 (hR _ (by omega) (by omega)) (by omega)
  have hO := l1Open_gives bs
  rw [roomD]
  generalize bs.take 2000 = cs at hR hA hG hO
  generalize anyS cs 0 = s at hA hG
  obtain ⟨l, u⟩ := s
  simp only at hA hG ⊢
  have v1 := pickV_range (hR u (by omega) (by omega)) 3 (by omega)
  have v2 := pickV_range (hR (u + 1) (by omega) (by omega)) 12 (by omega)
  have w1 : IntKind.i64.wrap (pickV cs (u + 1) 12 * 3) = pickV cs (u + 1) 12 * 3 := wrap_id (by omega) (by omega)
  have w2 : 0 ≤ (pickV cs (u + 1) 12 * 3).tdiv 12 ∧ (pickV cs (u + 1) 12 * 3).tdiv 12 < 3 := by
    rw [Int.tdiv_eq_ediv_of_nonneg (by omega)]
    omega
  have w3 : IntKind.i64.wrap ((pickV cs (u + 1) 12 * 3).tdiv 12) = (pickV cs (u + 1) 12 * 3).tdiv 12 := wrap_id (by omega) (by omega)
  refine meets_of [] mixed Try.func26 rfl (by kernel_rfl) (by kernel_rfl) (by rw [Try.ntmps26]; simp only [List.length_cons, List.length_nil]; omega) (fun hf => ?_)
  rw [Try.results26]
  clear hf
  try simp -implicitDefEqProofs only [lenMax, w1, w3, getD3i, push_cast, Nat.reduceEqDiff, Nat.reduceBEq, Nat.reduceBNe, Nat.reduceAdd, Nat.reduceMul, Nat.reduceLT, Nat.reduceLeDiff, Nat.reduceSub, reduceCtorEq, Int.reduceToNat, ↓reduceIte]
  repeat'
    (first
     | (refine uYes ?_; first | exact List.mem_cons_self | (simp only [List.mem_cons, List.not_mem_nil, or_false, true_or, or_true]; done))
     | (refine uNo (by kernel_rfl))
     | (refine flatMk ?_; kernel_rfl)
     | (refine And.intro ?_ ?_)
     | (intro hx)
     | ((first
         | (refine callGF ?_)
         | (refine callQGF ?_)
         | (refine skipG ?_)
         | (refine callM (hO _) ?_)
         | (refine inX_mkU [h.length + 1] [h.length] (by kernel_rfl) (by simp) ?_)
         | (refine callXR (r := h.length + 1) (by simp) (by simp) (fun h' hr' hl' => hG _ h' (hr'.trans (ob_app h _ 1)) hl') ?_)
         | (refine callXR (r := h.length + 1) (by simp) (by simp) (fun h' hr' hl' => pick_gives cs _ _ _ h' (hr'.trans (ob_app h _ 1)) hl' (hR _ (by omega) (by omega))) ?_)); simp -implicitDefEqProofs only [lenMax, w1, w3, getD3i, push_cast, Nat.reduceEqDiff, Nat.reduceBEq, Nat.reduceBNe, Nat.reduceAdd, Nat.reduceMul, Nat.reduceLT, Nat.reduceLeDiff, Nat.reduceSub, reduceCtorEq, Int.reduceToNat, ↓reduceIte]))
  all_goals first
    | omega
    | trace_state
end Go.Proofs.Ytmehbbepppjikaa
