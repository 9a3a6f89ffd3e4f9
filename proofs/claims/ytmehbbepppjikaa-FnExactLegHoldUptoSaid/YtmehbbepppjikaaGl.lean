/- Contracts of functions of the program (Gl). -/
import Derived.Test.YtmehbbepppjikaaGk
import Derived.Test.YtmehbbepppjikaaGd
import Derived.Test.YtmehbbepppjikaaGh
import Derived.Test.YtmehbbepppjikaaGi

namespace Go.Proofs.Ytmehbbepppjikaa
open Go.Av
set_option maxRecDepth 10000
set_option maxHeartbeats 1000000
set_option linter.unusedSimpArgs false
set_option linter.unusedVariables false

theorem wsIn_gives (n lo hi : Int) (h : Hp) : Gives Try.prog 29 [.int .i64 n, .int .i64 lo, .int .i64 hi] h (.bool (decide (lo ≤ n) && decide (n ≤ hi))) := by
  refine meets_of [] mixed Try.func29 rfl (by kernel_rfl) (by kernel_rfl) (by rw [Try.ntmps29]; simp only [List.length_cons, List.length_nil]; omega) (fun hf => ?_)
  rw [Try.results29]
  try simp -implicitDefEqProofs only [push_cast, Nat.reduceEqDiff, Nat.reduceBEq, Nat.reduceBNe, Nat.reduceAdd, Nat.reduceMul, Nat.reduceLT, Nat.reduceLeDiff, Nat.reduceSub, reduceCtorEq, Int.reduceToNat, ↓reduceIte]
  repeat'
    (first
     | (refine uYes ?_; first | exact List.mem_cons_self | (simp only [List.mem_cons, List.not_mem_nil, or_false, true_or, or_true]; done))
     | (refine uNo (by kernel_rfl))
     | (refine flatMk ?_; kernel_rfl)
     | (refine And.intro ?_ ?_)
     | (intro hx)
     | ((first
         | (refine callGF ?_)
         | (refine callQGF ?_)
         | (refine skipG ?_)
         | (refine callS (l1In_gives _ _ _ _) ?_)
         | (refine callQ (l1In_gives _ _ _ _) ?_)
         | (refine callG (fun hc => (l1In_gives _ _ _ _)) ?_)
         | (refine callQG (fun hc => (l1In_gives _ _ _ _)) ?_)); simp -implicitDefEqProofs only [push_cast, Nat.reduceEqDiff, Nat.reduceBEq, Nat.reduceBNe, Nat.reduceAdd, Nat.reduceMul, Nat.reduceLT, Nat.reduceLeDiff, Nat.reduceSub, reduceCtorEq, Int.reduceToNat, ↓reduceIte]))
  all_goals grind
theorem legRoomV_bad {l : Leg} {c : Int} (h : (legB l && inB c 0 2) = false) : legRoomV l c = 0 := by
  rw [legRoomV, h]; rfl
theorem legRoomV_good {l : Leg} {c : Int} (hb : legB l = true) (hc : inB c 0 2 = true) : 0 ≤ legRoomV l c ∧ legRoomV l c ≤ l.limits.getD c.toNat 0 ∧ (c ≠ 0 → legRoomV l c ≤ legRoomV l (c - 1)) := by
  have hp := legP_of hb
  have h1 := inB_iff.1 hc
  have h2 := hp.roomW (k := c.toNat) (by omega)
  rw [legRoomV, hb, hc]
  simp only [Bool.and_self, if_true]
  refine ⟨h2.2.1, h2.2.2, fun h0 => ?_⟩
  have hc' : inB (c - 1) 0 2 = true := inB_iff.2 (by omega)
  rw [legRoomV, hb, hc']
  simp only [Bool.and_self, if_true]
  obtain ⟨k, rfl⟩ : ∃ k : Nat, c = k + 1 := ⟨(c - 1).toNat, by omega⟩
  rw [show ((k : Int) + 1).toNat = k + 1 by omega, show ((k : Int) + 1 - 1).toNat = k by omega]
  exact Int.min_le_left _ _
theorem legRoomV_bad' {l : Leg} {c : Int} (h : legB l = false ∨ (0 ≤ c → 2 < c)) : legRoomV l c = 0 := by
  refine legRoomV_bad ?_
  rw [Bool.and_eq_false_iff]
  refine h.imp id fun hc => ?_
  cases e : inB c 0 2 with
  | false => rfl
  | true =>
    have := inB_iff.1 e
    omega
theorem legRoomV_good' {l : Leg} {c : Int} (h : legB l = true ∧ 0 ≤ c ∧ c ≤ 2) : l.limits.length = 3 ∧ 0 ≤ legRoomV l c ∧ legRoomV l c ≤ l.limits.getD c.toNat 0 ∧ (c ≠ 0 → legRoomV l c ≤ legRoomV l (IntKind.i64.wrap (c - 1))) := by
  rw [wrap_id (by omega) (by omega)]
  exact ⟨(legP_of h.1).limits, legRoomV_good h.1 (inB_iff.2 h.2)⟩
end Go.Proofs.Ytmehbbepppjikaa

namespace Go.Proofs.Ytmehbbepppjikaa
open Go.Av
set_option maxRecDepth 10000
set_option maxHeartbeats 1000000
set_option linter.unusedSimpArgs false
set_option linter.unusedVariables false

theorem fnLegRoom_gives (bs : List Int) (h : Hp) (hb : ∀ x, x ∈ bs → 0 ≤ x ∧ x ≤ 255) : Gives Try.prog 4 [.slice (bs.map (.int .u8)) .no] h (.bool true) := by
  have hD := fun g => drawLegRoom_gives bs g hb
  generalize roomD bs = s at hD
  obtain ⟨l, c⟩ := s
  simp only at hD
  refine meets_of [] mixed Try.func4 rfl (by kernel_rfl) (by kernel_rfl) (by rw [Try.ntmps4]; simp only [List.length_cons, List.length_nil]; omega) (fun hf => ?_)
  rw [Try.results4]
  clear hf
  have hbad := legRoomV_bad' (l := l) (c := c)
  have hgood := legRoomV_good' (l := l) (c := c)
  try simp -implicitDefEqProofs only [← legB_spec, push_cast, Nat.reduceEqDiff, Nat.reduceBEq, Nat.reduceBNe, Nat.reduceAdd, Nat.reduceMul, Nat.reduceLT, Nat.reduceLeDiff, Nat.reduceSub, reduceCtorEq, Int.reduceToNat, ↓reduceIte]
  repeat'
    (first
     | (refine uYes ?_; first | exact List.mem_cons_self | (simp only [List.mem_cons, List.not_mem_nil, or_false, true_or, or_true]; done))
     | (refine uNo (by kernel_rfl))
     | (refine flatMk ?_; kernel_rfl)
     | (refine And.intro ?_ ?_)
     | (intro hx)
     | ((first
         | (refine callGF ?_)
         | (refine callQGF ?_)
         | (refine skipG ?_)
         | (refine callS (hD _) ?_)
         | (refine callQ (hD _) ?_)
         | (refine callG (fun hc => (hD _)) ?_)
         | (refine callQG (fun hc => (hD _)) ?_)
         | (refine callS (implLegRoom_gives l _ _) ?_)
         | (refine callQ (implLegRoom_gives l _ _) ?_)
         | (refine callG (fun hc => (implLegRoom_gives l _ _)) ?_)
         | (refine callQG (fun hc => (implLegRoom_gives l _ _)) ?_)
         | (refine callS (specLegRoom_gives l _ _) ?_)
         | (refine callQ (specLegRoom_gives l _ _) ?_)
         | (refine callG (fun hc => (specLegRoom_gives l _ _)) ?_)
         | (refine callQG (fun hc => (specLegRoom_gives l _ _)) ?_)
         | (refine callS (implLegOk_gives l _) ?_)
         | (refine callQ (implLegOk_gives l _) ?_)
         | (refine callG (fun hc => (implLegOk_gives l _)) ?_)
         | (refine callQG (fun hc => (implLegOk_gives l _)) ?_)
         | (refine callS (specLegOk_gives l _) ?_)
         | (refine callQ (specLegOk_gives l _) ?_)
         | (refine callG (fun hc => (specLegOk_gives l _)) ?_)
         | (refine callQG (fun hc => (specLegOk_gives l _)) ?_)
         | (refine callS (wsIn_gives _ _ _ _) ?_)
         | (refine callQ (wsIn_gives _ _ _ _) ?_)
         | (refine callG (fun hc => (wsIn_gives _ _ _ _)) ?_)
         | (refine callQG (fun hc => (wsIn_gives _ _ _ _)) ?_)); simp -implicitDefEqProofs only [← legB_spec, push_cast, Nat.reduceEqDiff, Nat.reduceBEq, Nat.reduceBNe, Nat.reduceAdd, Nat.reduceMul, Nat.reduceLT, Nat.reduceLeDiff, Nat.reduceSub, reduceCtorEq, Int.reduceToNat, ↓reduceIte]))
  all_goals first
    | (have := hgood (by assumption); omega)
    | exact hbad (by assumption)
    | (rw [bne_self_eq_false] at hx; cases hx)
    | trace_state
end Go.Proofs.Ytmehbbepppjikaa

namespace Go.Proofs.Ytmehbbepppjikaa
open Go.Av
set_option maxRecDepth 10000
set_option maxHeartbeats 1000000
set_option linter.unusedSimpArgs false
set_option linter.unusedVariables false

theorem drawLegDrop_gives (bs : List Int) (h : Hp) (hb : ∀ x, x ∈ bs → 0 ≤ x ∧ x ≤ 255) : Gives Try.prog 46 [.slice (bs.map (.int .u8)) .no] h (.tup [(keepD bs).1.d, .int .i64 (keepD bs).2]) := by
  have hG := fun g => drawLegKeep_gives bs g hb
  generalize keepD bs = s at hG
  refine meets_of [] mixed Try.func46 rfl (by kernel_rfl) (by kernel_rfl) (by rw [Try.ntmps46]; simp only [List.length_cons, List.length_nil]; omega) (fun hf => ?_)
  rw [Try.results46]
  clear hf
  try simp -implicitDefEqProofs only [push_cast, Nat.reduceEqDiff, Nat.reduceBEq, Nat.reduceBNe, Nat.reduceAdd, Nat.reduceMul, Nat.reduceLT, Nat.reduceLeDiff, Nat.reduceSub, reduceCtorEq, Int.reduceToNat, ↓reduceIte]
  repeat'
    (first
     | (refine uYes ?_; first | exact List.mem_cons_self | (simp only [List.mem_cons, List.not_mem_nil, or_false, true_or, or_true]; done))
     | (refine uNo (by kernel_rfl))
     | (refine flatMk ?_; kernel_rfl)
     | (refine And.intro ?_ ?_)
     | (intro hx)
     | ((first
         | (refine callGF ?_)
         | (refine callQGF ?_)
         | (refine skipG ?_)
         | (refine callS (hG _) ?_)
         | (refine callQ (hG _) ?_)
         | (refine callG (fun hc => (hG _)) ?_)
         | (refine callQG (fun hc => (hG _)) ?_)); simp -implicitDefEqProofs only [push_cast, Nat.reduceEqDiff, Nat.reduceBEq, Nat.reduceBNe, Nat.reduceAdd, Nat.reduceMul, Nat.reduceLT, Nat.reduceLeDiff, Nat.reduceSub, reduceCtorEq, Int.reduceToNat, ↓reduceIte]))
  all_goals trace_state
theorem wsInts_gives (a b : List Int) (h : Hp) : Gives Try.prog 49 [.slice (a.map (.int .i64)) .no, .slice (b.map (.int .i64)) .no] h (.bool (decide (a = b))) := by
  refine meets_of [] mixed Try.func49 rfl (by kernel_rfl) (by kernel_rfl) (by rw [Try.ntmps49]; simp only [List.length_cons, List.length_nil]; omega) (fun hf => ?_)
  rw [Try.results49]
  have hl : a.length ≤ 1073741824 := by
    have := hf (.slice (a.map (.int .i64)) .no) (by simp)
    simpa [fitsD, flen, lenMax] using this
  clear hf
  try simp -implicitDefEqProofs only [push_cast, Nat.reduceEqDiff, Nat.reduceBEq, Nat.reduceBNe, Nat.reduceAdd, Nat.reduceMul, Nat.reduceLT, Nat.reduceLeDiff, Nat.reduceSub, reduceCtorEq, Int.reduceToNat, ↓reduceIte]
  repeat'
    (first
     | (refine uYes ?_; first | exact List.mem_cons_self | (simp only [List.mem_cons, List.not_mem_nil, or_false, true_or, or_true]; done))
     | (refine uNo (by kernel_rfl))
     | (refine flatMk ?_; kernel_rfl)
     | (refine And.intro ?_ ?_)
     | (intro hx)
     | ((first
         | (refine callGF ?_)
         | (refine callQGF ?_)
         | (refine skipG ?_)
         | (refine callS (l1In_gives _ _ _ _) ?_)
         | (refine callQ (l1In_gives _ _ _ _) ?_)
         | (refine callG (fun hc => (l1In_gives _ _ _ _)) ?_)
         | (refine callQG (fun hc => (l1In_gives _ _ _ _)) ?_)); simp -implicitDefEqProofs only [push_cast, Nat.reduceEqDiff, Nat.reduceBEq, Nat.reduceBNe, Nat.reduceAdd, Nat.reduceMul, Nat.reduceLT, Nat.reduceLeDiff, Nat.reduceSub, reduceCtorEq, Int.reduceToNat, ↓reduceIte]))
  · exact (decide_eq_false (fun e => hx (by rw [e]))).symm
  refine ev_loop0 [] (fun k : Nat => [(0, .slice (a.map (.int .i64)) .no), (1, .slice (b.map (.int .i64)) .no), (5, .int .i64 k)]) (fun k => k ≤ a.length ∧ ∀ i, i < k → a.getD i 0 = b.getD i 0) (fun k => a.length - k) 0 trivial ⟨Nat.zero_le _, fun i hi => absurd hi (Nat.not_lt_zero i)⟩ ?_ ?_
  · exact ⟨rfl, [], by simp -implicitDefEqProofs only [Int.natCast_add, Int.cast_ofNat_Int, List.length_nil, Nat.le_refl, WeakTo, tokSts, tokOks, List.append_cancel_left_eq, exists_eq_left', exists_eq_left, List.append_cancel_left_eq, List.take_length, ObCl, and_true, true_and, push_cast, Nat.reduceEqDiff, Nat.reduceBEq, Nat.reduceBNe, Nat.reduceAdd, Nat.reduceMul, Nat.reduceLT, Nat.reduceLeDiff, Nat.reduceSub, reduceCtorEq, Int.reduceToNat, ↓reduceIte]⟩
  · intro k hk
    have hw : IntKind.i64.wrap ((k : Int) + 1) = k + 1 := wrap_id (by omega) (by omega)
    try simp -implicitDefEqProofs only [hw, push_cast, Nat.reduceEqDiff, Nat.reduceBEq, Nat.reduceBNe, Nat.reduceAdd, Nat.reduceMul, Nat.reduceLT, Nat.reduceLeDiff, Nat.reduceSub, reduceCtorEq, Int.reduceToNat, ↓reduceIte]
    repeat'
      (first
       | (refine uYes ?_; first | exact List.mem_cons_self | (simp only [List.mem_cons, List.not_mem_nil, or_false, true_or, or_true]; done))
       | (refine uNo (by kernel_rfl))
       | (refine flatMk ?_; kernel_rfl)
       | (refine And.intro ?_ ?_)
       | (intro hx)
       | ((first
           | (refine callGF ?_)
           | (refine callQGF ?_)
           | (refine skipG ?_)
           | (refine callS (l1In_gives _ _ _ _) ?_)
           | (refine callQ (l1In_gives _ _ _ _) ?_)
           | (refine callG (fun hc => (l1In_gives _ _ _ _)) ?_)
           | (refine callQG (fun hc => (l1In_gives _ _ _ _)) ?_)); simp -implicitDefEqProofs only [hw, push_cast, Nat.reduceEqDiff, Nat.reduceBEq, Nat.reduceBNe, Nat.reduceAdd, Nat.reduceMul, Nat.reduceLT, Nat.reduceLeDiff, Nat.reduceSub, reduceCtorEq, Int.reduceToNat, ↓reduceIte]))
    all_goals first
      | omega
      | (refine round_mk0 (k + 1) ⟨by omega, fun i hi => ?_⟩ (by omega) ⟨[], ?_⟩
         · by_cases e : i = k
           · exact e ▸ hx
           · exact hk.2 i (by omega)
         · simp -implicitDefEqProofs only [hw, Int.natCast_add, Int.cast_ofNat_Int, List.length_nil, Nat.le_refl, WeakTo, tokSts, tokOks, List.append_cancel_left_eq, exists_eq_left', exists_eq_left, List.append_cancel_left_eq, List.take_length, ObCl, and_true, true_and, push_cast, Nat.reduceEqDiff, Nat.reduceBEq, Nat.reduceBNe, Nat.reduceAdd, Nat.reduceMul, Nat.reduceLT, Nat.reduceLeDiff, Nat.reduceSub, reduceCtorEq, Int.reduceToNat, ↓reduceIte])
      | exact (decide_eq_false (fun e => hx (by rw [e]))).symm
      | (refine (decide_eq_true (List.ext_getElem (by omega) (fun i h1 h2 => ?_))).symm
         have := hk.2 i (by omega)
         simpa [List.getD_eq_getElem?_getD, List.getElem?_eq_getElem, h1, h2] using this)
      | trace_state
end Go.Proofs.Ytmehbbepppjikaa

namespace Go.Proofs.Ytmehbbepppjikaa
open Go.Av
set_option maxRecDepth 10000
set_option maxHeartbeats 1000000
set_option linter.unusedSimpArgs false
set_option linter.unusedVariables false

theorem wsLeg_gives (a : Leg) (h : Hp) : Gives Try.prog 44 [a.d, a.d] h (.bool true) := by
  refine meets_of [] mixed Try.func44 rfl (by kernel_rfl) (by kernel_rfl) (by rw [Try.ntmps44]; simp only [List.length_cons, List.length_nil]; omega) (fun hf => ?_)
  rw [Try.results44]
  obtain ⟨_, _, _, hf1, hf2, hf3, hf4⟩ := Leg.fit (hf a.d (by simp))
  clear hf
  try simp -implicitDefEqProofs only [push_cast, Nat.reduceEqDiff, Nat.reduceBEq, Nat.reduceBNe, Nat.reduceAdd, Nat.reduceMul, Nat.reduceLT, Nat.reduceLeDiff, Nat.reduceSub, reduceCtorEq, Int.reduceToNat, ↓reduceIte]
  repeat'
    (first
     | (refine uYes ?_; first | exact List.mem_cons_self | (simp only [List.mem_cons, List.not_mem_nil, or_false, true_or, or_true]; done))
     | (refine uNo (by kernel_rfl))
     | (refine flatMk ?_; kernel_rfl)
     | (refine And.intro ?_ ?_)
     | (intro hx)
     | ((first
         | (refine callGF ?_)
         | (refine callQGF ?_)
         | (refine skipG ?_)
         | (refine callS (wsInts_gives _ _ _) ?_)
         | (refine callQ (wsInts_gives _ _ _) ?_)
         | (refine callG (fun hc => (wsInts_gives _ _ _)) ?_)
         | (refine callQG (fun hc => (wsInts_gives _ _ _)) ?_)); simp -implicitDefEqProofs only [push_cast, Nat.reduceEqDiff, Nat.reduceBEq, Nat.reduceBNe, Nat.reduceAdd, Nat.reduceMul, Nat.reduceLT, Nat.reduceLeDiff, Nat.reduceSub, reduceCtorEq, Int.reduceToNat, ↓reduceIte]))
  refine ev_loop [] (fun k : Nat => [(2, .ptr h.length 0), (3, .ptr (h.length + 1) 0), (5, .int .i64 k)])
    (fun _ => [.row a.cs, .row a.cs]) (fun k => k ≤ a.holds.length) (fun k => a.holds.length - k) 0 trivial (Nat.zero_le _) ?_ ?_
  · refine ⟨2, by simp, by simp [tokSts], ?_⟩
    simp -implicitDefEqProofs only [Int.natCast_add, Int.cast_ofNat_Int, List.length_nil, Nat.le_refl, WeakTo, tokSts, tokOks, List.append_cancel_left_eq, exists_eq_left', exists_eq_left, List.append_cancel_left_eq, List.take_length, ObCl, and_true, true_and, push_cast, Nat.reduceEqDiff, Nat.reduceBEq, Nat.reduceBNe, Nat.reduceAdd, Nat.reduceMul, Nat.reduceLT, Nat.reduceLeDiff, Nat.reduceSub, reduceCtorEq, Int.reduceToNat, ↓reduceIte]
    omega
  · intro k hk
    have hw : IntKind.i64.wrap ((k : Int) + 1) = k + 1 := wrap_id (by omega) (by omega)
    try simp -implicitDefEqProofs only [hw, push_cast, Nat.reduceEqDiff, Nat.reduceBEq, Nat.reduceBNe, Nat.reduceAdd, Nat.reduceMul, Nat.reduceLT, Nat.reduceLeDiff, Nat.reduceSub, reduceCtorEq, Int.reduceToNat, ↓reduceIte]
    repeat'
      (first
       | (refine uYes ?_; first | exact List.mem_cons_self | (simp only [List.mem_cons, List.not_mem_nil, or_false, true_or, or_true]; done))
       | (refine uNo (by kernel_rfl))
       | (refine flatMk ?_; kernel_rfl)
       | (refine And.intro ?_ ?_)
       | (intro hx)
       | ((first
           | (refine callGF ?_)
           | (refine callQGF ?_)
           | (refine skipG ?_)
           | (refine callS (in_gives ..) ?_)
           | (refine callQ (in_gives ..) ?_)
           | (refine callG (fun hc => (in_gives ..)) ?_)
           | (refine callQG (fun hc => (in_gives ..)) ?_)); simp -implicitDefEqProofs only [hw, push_cast, Nat.reduceEqDiff, Nat.reduceBEq, Nat.reduceBNe, Nat.reduceAdd, Nat.reduceMul, Nat.reduceLT, Nat.reduceLeDiff, Nat.reduceSub, reduceCtorEq, Int.reduceToNat, ↓reduceIte]))
    all_goals first
      | omega
      | (refine round_mk (k + 1) (by omega) (by omega) ?_
         simp -implicitDefEqProofs only [hw, Int.natCast_add, Int.cast_ofNat_Int, List.length_nil, Nat.le_refl, WeakTo, tokSts, tokOks, List.append_cancel_left_eq, exists_eq_left', exists_eq_left, List.append_cancel_left_eq, List.take_length, ObCl, and_true, true_and, push_cast, Nat.reduceEqDiff, Nat.reduceBEq, Nat.reduceBNe, Nat.reduceAdd, Nat.reduceMul, Nat.reduceLT, Nat.reduceLeDiff, Nat.reduceSub, reduceCtorEq, Int.reduceToNat, ↓reduceIte]
         omega)
      | trace_state
end Go.Proofs.Ytmehbbepppjikaa

namespace Go.Proofs.Ytmehbbepppjikaa
open Go.Av
set_option maxRecDepth 10000
set_option maxHeartbeats 1000000
set_option linter.unusedSimpArgs false
set_option linter.unusedVariables false

theorem holds_len (xs : List Hold) : (xs.flatMap Hold.cs).length = xs.length * 3 := flatMap_length (f := Hold.cs) (m := 3) (fun _ => rfl) xs
theorem rp_holds {h rows : Hp} {k n : Nat} {xs : List Hold} (hr : ob rows k = .row (xs.flatMap Hold.cs)) (hn : n = xs.length) : rowPart (h ++ rows) (h.length + k) 3 0 n = xs.flatMap Hold.cs := by
  subst hn
  rw [rowPart, ob_app, hr]
  show ((xs.flatMap Hold.cs).drop (0 * 3)).take (xs.length * 3) = _
  rw [Nat.zero_mul, List.drop_zero, List.take_of_length_le (by rw [holds_len]; exact Nat.le_refl _)]
theorem chunk_holds (xs : List Hold) (n : Nat) (hn : n = xs.length) : chunk true 3 n (xs.flatMap Hold.cs) = xs.map Hold.d :=
  chunk_map (g := Hold.d) (ag := true) (m := 3) (by omega) (fun _ => rfl) (fun _ => rfl) xs n hn
theorem implLegDrop_gives (l : Leg) (n : Int) (h : Hp) : Gives Try.prog 47 [l.d, .int .i64 n] h (if legB l then dropL l n else default).d := by
  cases hb : legB l with
  | false => exact implLegDrop_bad l n h hb
  | true =>
    show Gives _ _ _ _ (dropL l n).d
    rw [← settleL_drop]
    generalize e : settleL l n false = l'
    refine meets_of [] mixed Try.func47 rfl (by kernel_rfl) (by kernel_rfl) (by rw [Try.ntmps47]; simp only [List.length_cons, List.length_nil]; omega) (fun hf => ?_)
    rw [Try.results47]
    clear hf
    have q2 : ∀ a b, rowPart (h ++ [a, b, .row (l'.limits.map (.int .i64)), .row (l'.sold.map (.int .i64)), .row (l'.bids.map (.int .i64)), .row (l'.holds.flatMap Hold.cs)]) (h.length + 2) 1 0 l'.limits.length = l'.limits.map (.int .i64) := fun _ _ => rp_ints rfl rfl
    have q3 : ∀ a b, rowPart (h ++ [a, b, .row (l'.limits.map (.int .i64)), .row (l'.sold.map (.int .i64)), .row (l'.bids.map (.int .i64)), .row (l'.holds.flatMap Hold.cs)]) (h.length + 3) 1 0 l'.sold.length = l'.sold.map (.int .i64) := fun _ _ => rp_ints rfl rfl
    have q4 : ∀ a b, rowPart (h ++ [a, b, .row (l'.limits.map (.int .i64)), .row (l'.sold.map (.int .i64)), .row (l'.bids.map (.int .i64)), .row (l'.holds.flatMap Hold.cs)]) (h.length + 4) 1 0 l'.bids.length = l'.bids.map (.int .i64) := fun _ _ => rp_ints rfl rfl
    have q5 : ∀ a b, rowPart (h ++ [a, b, .row (l'.limits.map (.int .i64)), .row (l'.sold.map (.int .i64)), .row (l'.bids.map (.int .i64)), .row (l'.holds.flatMap Hold.cs)]) (h.length + 5) 3 0 l'.holds.length = l'.holds.flatMap Hold.cs := fun _ _ => rp_holds rfl rfl
    try simp -implicitDefEqProofs only [Leg.dv, Leg.dvc, Leg.rows, Nat.add_assoc, lenMax, q2, q3, q4, q5, chunk_ints _ _ rfl, chunk_holds _ _ rfl, holds_len, push_cast, Nat.reduceEqDiff, Nat.reduceBEq, Nat.reduceBNe, Nat.reduceAdd, Nat.reduceMul, Nat.reduceLT, Nat.reduceLeDiff, Nat.reduceSub, reduceCtorEq, Int.reduceToNat, ↓reduceIte]
    repeat'
      (first
       | (refine uYes ?_; first | exact List.mem_cons_self | (simp only [List.mem_cons, List.not_mem_nil, or_false, true_or, or_true]; done))
       | (refine uNo (by kernel_rfl))
       | (refine flatMk ?_; kernel_rfl)
       | (refine And.intro ?_ ?_)
       | (intro hx)
       | ((first
           | (refine callGF ?_)
           | (refine callQGF ?_)
           | (refine skipG ?_)
           | (refine callM (e ▸ settledR l n false _ hb) ?_)); simp -implicitDefEqProofs only [Leg.dv, Leg.dvc, Leg.rows, Nat.add_assoc, lenMax, q2, q3, q4, q5, chunk_ints _ _ rfl, chunk_holds _ _ rfl, holds_len, push_cast, Nat.reduceEqDiff, Nat.reduceBEq, Nat.reduceBNe, Nat.reduceAdd, Nat.reduceMul, Nat.reduceLT, Nat.reduceLeDiff, Nat.reduceSub, reduceCtorEq, Int.reduceToNat, ↓reduceIte]))
    all_goals first
      | omega
      | rfl
      | exact ints_cl _ _ _ hx
      | exact holds_cl _ _ _ hx
      | exact ints_c1 _ _ hx
      | exact holds_c1 _ _ hx
      | exact chunk_ints _ _ (by simp)
      | exact flat_holds _ _ hx
      | (obtain ⟨y, _, rfl⟩ := List.mem_map.1 hx; rfl)
      | trace_state
theorem implLegKeep_gives (l : Leg) (n : Int) (h : Hp) : Gives Try.prog 43 [l.d, .int .i64 n] h (if legB l then keepL l n else default).d := by
  cases hb : legB l with
  | false => exact implLegKeep_bad l n h hb
  | true =>
    show Gives _ _ _ _ (keepL l n).d
    rw [← settleL_keep]
    generalize e : settleL l n true = l'
    refine meets_of [] mixed Try.func43 rfl (by kernel_rfl) (by kernel_rfl) (by rw [Try.ntmps43]; simp only [List.length_cons, List.length_nil]; omega) (fun hf => ?_)
    rw [Try.results43]
    clear hf
    have q2 : ∀ a b, rowPart (h ++ [a, b, .row (l'.limits.map (.int .i64)), .row (l'.sold.map (.int .i64)), .row (l'.bids.map (.int .i64)), .row (l'.holds.flatMap Hold.cs)]) (h.length + 2) 1 0 l'.limits.length = l'.limits.map (.int .i64) := fun _ _ => rp_ints rfl rfl
    have q3 : ∀ a b, rowPart (h ++ [a, b, .row (l'.limits.map (.int .i64)), .row (l'.sold.map (.int .i64)), .row (l'.bids.map (.int .i64)), .row (l'.holds.flatMap Hold.cs)]) (h.length + 3) 1 0 l'.sold.length = l'.sold.map (.int .i64) := fun _ _ => rp_ints rfl rfl
    have q4 : ∀ a b, rowPart (h ++ [a, b, .row (l'.limits.map (.int .i64)), .row (l'.sold.map (.int .i64)), .row (l'.bids.map (.int .i64)), .row (l'.holds.flatMap Hold.cs)]) (h.length + 4) 1 0 l'.bids.length = l'.bids.map (.int .i64) := fun _ _ => rp_ints rfl rfl
    have q5 : ∀ a b, rowPart (h ++ [a, b, .row (l'.limits.map (.int .i64)), .row (l'.sold.map (.int .i64)), .row (l'.bids.map (.int .i64)), .row (l'.holds.flatMap Hold.cs)]) (h.length + 5) 3 0 l'.holds.length = l'.holds.flatMap Hold.cs := fun _ _ => rp_holds rfl rfl
    try simp -implicitDefEqProofs only [Leg.dv, Leg.dvc, Leg.rows, Nat.add_assoc, lenMax, q2, q3, q4, q5, chunk_ints _ _ rfl, chunk_holds _ _ rfl, holds_len, push_cast, Nat.reduceEqDiff, Nat.reduceBEq, Nat.reduceBNe, Nat.reduceAdd, Nat.reduceMul, Nat.reduceLT, Nat.reduceLeDiff, Nat.reduceSub, reduceCtorEq, Int.reduceToNat, ↓reduceIte]
    repeat'
      (first
       | (refine uYes ?_; first | exact List.mem_cons_self | (simp only [List.mem_cons, List.not_mem_nil, or_false, true_or, or_true]; done))
       | (refine uNo (by kernel_rfl))
       | (refine flatMk ?_; kernel_rfl)
       | (refine And.intro ?_ ?_)
       | (intro hx)
       | ((first
           | (refine callGF ?_)
           | (refine callQGF ?_)
           | (refine skipG ?_)
           | (refine callM (e ▸ settledR l n true _ hb) ?_)); simp -implicitDefEqProofs only [Leg.dv, Leg.dvc, Leg.rows, Nat.add_assoc, lenMax, q2, q3, q4, q5, chunk_ints _ _ rfl, chunk_holds _ _ rfl, holds_len, push_cast, Nat.reduceEqDiff, Nat.reduceBEq, Nat.reduceBNe, Nat.reduceAdd, Nat.reduceMul, Nat.reduceLT, Nat.reduceLeDiff, Nat.reduceSub, reduceCtorEq, Int.reduceToNat, ↓reduceIte]))
    all_goals first
      | omega
      | rfl
      | exact ints_cl _ _ _ hx
      | exact holds_cl _ _ _ hx
      | exact ints_c1 _ _ hx
      | exact holds_c1 _ _ hx
      | exact chunk_ints _ _ (by simp)
      | exact flat_holds _ _ hx
      | (obtain ⟨y, _, rfl⟩ := List.mem_map.1 hx; rfl)
      | trace_state
end Go.Proofs.Ytmehbbepppjikaa

namespace Go.Proofs.Ytmehbbepppjikaa
open Go.Av
set_option maxRecDepth 10000
set_option maxHeartbeats 1000000
set_option linter.unusedSimpArgs false
set_option linter.unusedVariables false

theorem erase_len {α : Type} (xs : List α) {k : Nat} (hk : k < xs.length) : (xs.eraseIdx k).length = xs.length - 1 := by
  rw [List.length_eraseIdx, if_pos hk]
theorem there_eq {l : Leg} {n : Int} (h : thereB l n = true) : (l.holds.getD (placeN l n) default).txn = n := by
  simp only [thereB, Bool.and_eq_true, decide_eq_true_eq] at h
  exact h.2
theorem not_there {l : Leg} (h : LegP l) {n : Int} (ht : thereB l n = false) : ∀ i, i < l.holds.length → (l.holds.getD i default).txn ≠ n := by
  intro i hi e
  have hp : placeN l n = i := whileN_at default (by omega) (fun j hj => decide_eq_true (by have := h.rises hj hi; omega)) (fun _ => decide_eq_false (by omega))
  rw [thereB, hp, decide_eq_true hi, decide_eq_true e] at ht
  cases ht
theorem gone {l x : Leg} (h : LegP l) {n : Int} (hx : x.holds = if thereB l n then l.holds.eraseIdx (placeN l n) else l.holds) : ∀ i, i < x.holds.length → (x.holds.getD i default).txn ≠ n := by
  intro i hi
  cases ht : thereB l n with
  | false =>
    rw [ht] at hx
    rw [hx] at hi ⊢
    exact not_there h ht i hi
  | true =>
    rw [ht, if_pos rfl] at hx
    rw [hx] at hi ⊢
    have hk := thereB_t ht
    have he := there_eq ht
    rw [erase_len _ hk] at hi
    rw [getD_erase]
    split
    · rename_i hik
      have := h.rises hik hk
      omega
    · have := h.rises (i := placeN l n) (j := i + 1) (by omega) (by omega)
      omega
theorem there_gone {x : Leg} {n : Int} (h : ∀ i, i < x.holds.length → (x.holds.getD i default).txn ≠ n) : thereB x n = false := by
  cases e : thereB x n with
  | false => rfl
  | true => exact absurd (there_eq e) (h _ (thereB_t e))
theorem dropL_holds (l : Leg) (n : Int) : (dropL l n).holds = if thereB l n then l.holds.eraseIdx (placeN l n) else l.holds := by
  rw [dropL]; split <;> rfl
theorem keepL_holds (l : Leg) (n : Int) : (keepL l n).holds = if thereB l n then l.holds.eraseIdx (placeN l n) else l.holds := by
  rw [keepL]; split <;> rfl
theorem dropL_sold (l : Leg) (n : Int) : (dropL l n).sold = l.sold := by
  rw [dropL]; split <;> rfl
theorem dropL_facts {l : Leg} (hb : legB l = true) (n : Int) : legB (dropL l n) = true ∧ (dropL l n).sold = l.sold ∧ (l.holds.length : Int) - 1 ≤ (dropL l n).holds.length ∧ dropL (dropL l n) n = dropL l n ∧ keepL (dropL l n) n = dropL l n := by
  have hp := legP_of hb
  have ht := there_gone (gone hp (dropL_holds l n))
  refine ⟨(drop_ok hp n).mk_leg, dropL_sold l n, ?_, ?_, ?_⟩
  · rw [dropL_holds]
    split
    · rename_i h1
      rw [erase_len _ (thereB_t h1)]
      omega
    · omega
  · rw [dropL, ht]; rfl
  · rw [keepL, ht]; rfl

def sumK (a b : List Int) : Nat → Int
  | 0 => 0
  | k + 1 => sumK a b k + a.getD k 0 - b.getD k 0
def heldK (l : Leg) (n : Int) : Nat → Int
  | 0 => 0
  | k + 1 => if (l.holds.getD k default).txn = n then (l.holds.getD k default).seats else heldK l n k
theorem sumK_range {a b : List Int} (ha : ∀ i, 0 ≤ a.getD i 0 ∧ a.getD i 0 ≤ 9) (hb : ∀ i, 0 ≤ b.getD i 0 ∧ b.getD i 0 ≤ 9) : ∀ k : Nat, -9 * k ≤ sumK a b k ∧ sumK a b k ≤ 9 * k
  | 0 => by simp [sumK]
  | k + 1 => by
    have := sumK_range ha hb k
    have := ha k
    have := hb k
    simp only [sumK]
    omega
theorem heldK_none {l : Leg} {n : Int} : ∀ {k : Nat}, (∀ i, i < k → (l.holds.getD i default).txn ≠ n) → heldK l n k = 0
  | 0, _ => rfl
  | k + 1, h => by rw [heldK, if_neg (h k (by omega)), heldK_none fun i hi => h i (by omega)]
theorem heldK_at {l : Leg} (h : LegP l) {n : Int} (ht : thereB l n = true) : ∀ {k : Nat}, k ≤ l.holds.length → placeN l n < k → heldK l n k = (l.holds.getD (placeN l n) default).seats
  | 0, _, h0 => absurd h0 (by omega)
  | k + 1, hk, h0 => by
    rw [heldK]
    by_cases e : placeN l n = k
    · rw [← e, if_pos (there_eq ht)]
    · have h1 := h.rises (i := placeN l n) (j := k) (by omega) (by omega)
      have h2 := there_eq ht
      rw [if_neg (by omega), heldK_at h ht (by omega) (by omega)]
theorem sold_range {l : Leg} (h : LegP l) (i : Nat) : 0 ≤ l.sold.getD i 0 ∧ l.sold.getD i 0 ≤ 9 := by
  have hc := h.cap
  rw [List.getD_eq_getElem?_getD]
  by_cases hi : i < l.sold.length
  · rw [List.getElem?_eq_getElem hi]
    have := h.sol _ (List.getElem_mem hi)
    simp only [Option.getD_some]
    omega
  · rw [List.getElem?_eq_none (by omega)]
    simp
theorem keepL_facts {l : Leg} (hb : legB l = true) (n : Int) : legB (keepL l n) = true ∧ (keepL l n).sold.length = 3 ∧ sumK (keepL l n).sold l.sold 3 = heldK l n l.holds.length ∧ ∀ i, i < (keepL l n).holds.length → ((keepL l n).holds.getD i default).txn ≠ n := by
  have hp := legP_of hb
  obtain ⟨k1, k2⟩ := keep_ok hp n
  refine ⟨k1.mk_leg, k1.sold, ?_, gone hp (keepL_holds l n)⟩
  cases ht : thereB l n with
  | false =>
    rw [heldK_none (not_there hp ht), show (keepL l n).sold = l.sold by rw [keepL, ht]; rfl]
    simp only [sumK]
    omega
  | true =>
    have hk := thereB_t ht
    obtain ⟨c0, c1⟩ := hp.cls hk
    have e := k2 ht
    rw [heldK_at hp ht (Nat.le_refl _) hk, show (keepL l n).sold = soldV l (placeN l n) true by rw [keepL, ht]; rfl, e]
    have hs := hp.sold
    generalize (l.holds.getD (placeN l n) default).seats = s
    generalize (l.holds.getD (placeN l n) default).cls = c at c0 c1
    have hc : c.toNat < l.sold.length := by omega
    simp only [sumK]
    rw [getD_set _ hc, getD_set _ hc, getD_set _ hc]
    have hcc : c.toNat = 0 ∨ c.toNat = 1 ∨ c.toNat = 2 := by omega
    rcases hcc with e | e | e <;> rw [e] <;> simp <;> omega
end Go.Proofs.Ytmehbbepppjikaa

namespace Go.Proofs.Ytmehbbepppjikaa
open Go.Av
set_option maxRecDepth 10000
set_option maxHeartbeats 1000000
set_option linter.unusedSimpArgs false
set_option linter.unusedVariables false

theorem fnLegDrop_gives (bs : List Int) (h : Hp) (hb : ∀ x, x ∈ bs → 0 ≤ x ∧ x ≤ 255) : Gives Try.prog 10 [.slice (bs.map (.int .u8)) .no] h (.bool true) := by
  have hD := fun g => drawLegDrop_gives bs g hb
  generalize keepD bs = s at hD
  obtain ⟨l, n⟩ := s
  simp only at hD
  have hI := fun g => implLegDrop_gives l n g
  have hS := fun g => specLegDrop_gives l n g
  cases hl : legB l with
  | false =>
    rw [hl] at hI hS
    replace hI : ∀ g, Gives Try.prog 47 [l.d, .int .i64 n] g (Leg.d default) := hI
    replace hS : ∀ g, Gives Try.prog 48 [l.d, .int .i64 n] g (Leg.d default) := hS
    refine meets_of [] mixed Try.func10 rfl (by kernel_rfl) (by kernel_rfl) (by rw [Try.ntmps10]; simp only [List.length_cons, List.length_nil]; omega) (fun hf => ?_)
    rw [Try.results10]
    clear hf
    try simp -implicitDefEqProofs only [← legB_spec, hl, push_cast, Nat.reduceEqDiff, Nat.reduceBEq, Nat.reduceBNe, Nat.reduceAdd, Nat.reduceMul, Nat.reduceLT, Nat.reduceLeDiff, Nat.reduceSub, reduceCtorEq, Int.reduceToNat, ↓reduceIte]
    repeat'
      (first
       | (refine uYes ?_; first | exact List.mem_cons_self | (simp only [List.mem_cons, List.not_mem_nil, or_false, true_or, or_true]; done))
       | (refine uNo (by kernel_rfl))
       | (refine flatMk ?_; kernel_rfl)
       | (refine And.intro ?_ ?_)
       | (intro hx)
       | ((first
           | (refine callGF ?_)
           | (refine callQGF ?_)
           | (refine skipG ?_)
           | (refine callS (hD _) ?_)
           | (refine callQ (hD _) ?_)
           | (refine callG (fun hc => (hD _)) ?_)
           | (refine callQG (fun hc => (hD _)) ?_)
           | (refine callS (hI _) ?_)
           | (refine callQ (hI _) ?_)
           | (refine callG (fun hc => (hI _)) ?_)
           | (refine callQG (fun hc => (hI _)) ?_)
           | (refine callS (hS _) ?_)
           | (refine callQ (hS _) ?_)
           | (refine callG (fun hc => (hS _)) ?_)
           | (refine callQG (fun hc => (hS _)) ?_)
           | (refine callS (wsLeg_gives default _) ?_)
           | (refine callQ (wsLeg_gives default _) ?_)
           | (refine callG (fun hc => (wsLeg_gives default _)) ?_)
           | (refine callQG (fun hc => (wsLeg_gives default _)) ?_)
           | (refine callS (implLegOk_gives l _) ?_)
           | (refine callQ (implLegOk_gives l _) ?_)
           | (refine callG (fun hc => (implLegOk_gives l _)) ?_)
           | (refine callQG (fun hc => (implLegOk_gives l _)) ?_)
           | (refine callS (specLegOk_gives l _) ?_)
           | (refine callQ (specLegOk_gives l _) ?_)
           | (refine callG (fun hc => (specLegOk_gives l _)) ?_)
           | (refine callQG (fun hc => (specLegOk_gives l _)) ?_)); simp -implicitDefEqProofs only [← legB_spec, hl, push_cast, Nat.reduceEqDiff, Nat.reduceBEq, Nat.reduceBNe, Nat.reduceAdd, Nat.reduceMul, Nat.reduceLT, Nat.reduceLeDiff, Nat.reduceSub, reduceCtorEq, Int.reduceToNat, ↓reduceIte]))
    all_goals first
      | omega
      | rfl
      | (cases hx; done)
      | trace_state
  | true =>
    rw [hl] at hI hS
    replace hI : ∀ g, Gives Try.prog 47 [l.d, .int .i64 n] g (dropL l n).d := hI
    replace hS : ∀ g, Gives Try.prog 48 [l.d, .int .i64 n] g (dropL l n).d := hS
    obtain ⟨x1, x2, x3, x4, x5⟩ := dropL_facts hl n
    generalize dropL l n = x at hI hS x1 x2 x3 x4 x5
    have hJ : ∀ g, Gives Try.prog 47 [x.d, .int .i64 n] g x.d := fun g => by
      have := implLegDrop_gives x n g
      rwa [x1, if_pos rfl, x4] at this
    have hK : ∀ g, Gives Try.prog 43 [x.d, .int .i64 n] g x.d := fun g => by
      have := implLegKeep_gives x n g
      rwa [x1, if_pos rfl, x5] at this
    have hn := (legP_of hl).holds
    have hw : IntKind.i64.wrap ((l.holds.length : Int) - 1) = (l.holds.length : Int) - 1 := wrap_id (by omega) (by omega)
    have hx2 : decide (x.sold = l.sold) = true := decide_eq_true x2
    have hge : decide ((l.holds.length : Int) - 1 ≤ (x.holds.length : Int)) = true := decide_eq_true x3
    refine meets_of [] mixed Try.func10 rfl (by kernel_rfl) (by kernel_rfl) (by rw [Try.ntmps10]; simp only [List.length_cons, List.length_nil]; omega) (fun hf => ?_)
    rw [Try.results10]
    clear hf
    try simp -implicitDefEqProofs only [← legB_spec, hl, x1, hx2, hw, hge, push_cast, Nat.reduceEqDiff, Nat.reduceBEq, Nat.reduceBNe, Nat.reduceAdd, Nat.reduceMul, Nat.reduceLT, Nat.reduceLeDiff, Nat.reduceSub, reduceCtorEq, Int.reduceToNat, ↓reduceIte]
    repeat'
      (first
       | (refine uYes ?_; first | exact List.mem_cons_self | (simp only [List.mem_cons, List.not_mem_nil, or_false, true_or, or_true]; done))
       | (refine uNo (by kernel_rfl))
       | (refine flatMk ?_; kernel_rfl)
       | (refine And.intro ?_ ?_)
       | (intro hx)
       | ((first
           | (refine callGF ?_)
           | (refine callQGF ?_)
           | (refine skipG ?_)
           | (refine callS (hD _) ?_)
           | (refine callQ (hD _) ?_)
           | (refine callG (fun hc => (hD _)) ?_)
           | (refine callQG (fun hc => (hD _)) ?_)
           | (refine callS (hI _) ?_)
           | (refine callQ (hI _) ?_)
           | (refine callG (fun hc => (hI _)) ?_)
           | (refine callQG (fun hc => (hI _)) ?_)
           | (refine callS (hS _) ?_)
           | (refine callQ (hS _) ?_)
           | (refine callG (fun hc => (hS _)) ?_)
           | (refine callQG (fun hc => (hS _)) ?_)
           | (refine callS (wsLeg_gives x _) ?_)
           | (refine callQ (wsLeg_gives x _) ?_)
           | (refine callG (fun hc => (wsLeg_gives x _)) ?_)
           | (refine callQG (fun hc => (wsLeg_gives x _)) ?_)
           | (refine callS (implLegOk_gives l _) ?_)
           | (refine callQ (implLegOk_gives l _) ?_)
           | (refine callG (fun hc => (implLegOk_gives l _)) ?_)
           | (refine callQG (fun hc => (implLegOk_gives l _)) ?_)
           | (refine callS (specLegOk_gives l _) ?_)
           | (refine callQ (specLegOk_gives l _) ?_)
           | (refine callG (fun hc => (specLegOk_gives l _)) ?_)
           | (refine callQG (fun hc => (specLegOk_gives l _)) ?_)
           | (refine callS (implLegOk_gives x _) ?_)
           | (refine callQ (implLegOk_gives x _) ?_)
           | (refine callG (fun hc => (implLegOk_gives x _)) ?_)
           | (refine callQG (fun hc => (implLegOk_gives x _)) ?_)
           | (refine callS (wsInts_gives _ _ _) ?_)
           | (refine callQ (wsInts_gives _ _ _) ?_)
           | (refine callG (fun hc => (wsInts_gives _ _ _)) ?_)
           | (refine callQG (fun hc => (wsInts_gives _ _ _)) ?_)
           | (refine callS (hJ _) ?_)
           | (refine callQ (hJ _) ?_)
           | (refine callG (fun hc => (hJ _)) ?_)
           | (refine callQG (fun hc => (hJ _)) ?_)
           | (refine callS (hK _) ?_)
           | (refine callQ (hK _) ?_)
           | (refine callG (fun hc => (hK _)) ?_)
           | (refine callQG (fun hc => (hK _)) ?_)); simp -implicitDefEqProofs only [← legB_spec, hl, x1, hx2, hw, hge, push_cast, Nat.reduceEqDiff, Nat.reduceBEq, Nat.reduceBNe, Nat.reduceAdd, Nat.reduceMul, Nat.reduceLT, Nat.reduceLeDiff, Nat.reduceSub, reduceCtorEq, Int.reduceToNat, ↓reduceIte]))
    all_goals first
      | omega
      | rfl
      | (cases hx; done)
      | trace_state
end Go.Proofs.Ytmehbbepppjikaa

namespace Go.Proofs.Ytmehbbepppjikaa
open Go.Av
set_option maxRecDepth 10000
set_option maxHeartbeats 1000000
set_option linter.unusedSimpArgs false
set_option linter.unusedVariables false

theorem fnLegKeep_bad (bs : List Int) (l : Leg) (n : Int) (h : Hp) (hD : ∀ g, Gives Try.prog 42 [.slice (bs.map (.int .u8)) .no] g (.tup [l.d, .int .i64 n])) (hl : legB l = false) : Gives Try.prog 9 [.slice (bs.map (.int .u8)) .no] h (.bool true) := by
  have hI := fun g => implLegKeep_gives l n g
  have hS := fun g => specLegKeep_gives l n g (fun e => by rw [hl] at e; cases e)
  rw [hl] at hI hS
  replace hI : ∀ g, Gives Try.prog 43 [l.d, .int .i64 n] g (Leg.d default) := hI
  replace hS : ∀ g, Gives Try.prog 45 [l.d, .int .i64 n] g (Leg.d default) := hS
  refine meets_of [] mixed Try.func9 rfl (by kernel_rfl) (by kernel_rfl) (by rw [Try.ntmps9]; simp only [List.length_cons, List.length_nil]; omega) (fun hf => ?_)
  rw [Try.results9]
  clear hf
  try simp -implicitDefEqProofs only [← legB_spec, hl, push_cast, Nat.reduceEqDiff, Nat.reduceBEq, Nat.reduceBNe, Nat.reduceAdd, Nat.reduceMul, Nat.reduceLT, Nat.reduceLeDiff, Nat.reduceSub, reduceCtorEq, Int.reduceToNat, ↓reduceIte]
  repeat'
    (first
     | (refine uYes ?_; first | exact List.mem_cons_self | (simp only [List.mem_cons, List.not_mem_nil, or_false, true_or, or_true]; done))
     | (refine uNo (by kernel_rfl))
     | (refine flatMk ?_; kernel_rfl)
     | (refine And.intro ?_ ?_)
     | (intro hx)
     | ((first
         | (refine callGF ?_)
         | (refine callQGF ?_)
         | (refine skipG ?_)
         | (refine callS (hD _) ?_)
         | (refine callQ (hD _) ?_)
         | (refine callG (fun hc => (hD _)) ?_)
         | (refine callQG (fun hc => (hD _)) ?_)
         | (refine callS (hI _) ?_)
         | (refine callQ (hI _) ?_)
         | (refine callG (fun hc => (hI _)) ?_)
         | (refine callQG (fun hc => (hI _)) ?_)
         | (refine callS (hS _) ?_)
         | (refine callQ (hS _) ?_)
         | (refine callG (fun hc => (hS _)) ?_)
         | (refine callQG (fun hc => (hS _)) ?_)
         | (refine callS (wsLeg_gives default _) ?_)
         | (refine callQ (wsLeg_gives default _) ?_)
         | (refine callG (fun hc => (wsLeg_gives default _)) ?_)
         | (refine callQG (fun hc => (wsLeg_gives default _)) ?_)
         | (refine callS (implLegOk_gives l _) ?_)
         | (refine callQ (implLegOk_gives l _) ?_)
         | (refine callG (fun hc => (implLegOk_gives l _)) ?_)
         | (refine callQG (fun hc => (implLegOk_gives l _)) ?_)
         | (refine callS (specLegOk_gives l _) ?_)
         | (refine callQ (specLegOk_gives l _) ?_)
         | (refine callG (fun hc => (specLegOk_gives l _)) ?_)
         | (refine callQG (fun hc => (specLegOk_gives l _)) ?_)); simp -implicitDefEqProofs only [← legB_spec, hl, push_cast, Nat.reduceEqDiff, Nat.reduceBEq, Nat.reduceBNe, Nat.reduceAdd, Nat.reduceMul, Nat.reduceLT, Nat.reduceLeDiff, Nat.reduceSub, reduceCtorEq, Int.reduceToNat, ↓reduceIte]))
  all_goals first
    | omega
    | rfl
    | (cases hx; done)
    | trace_state
theorem fnLegKeep_ok (bs : List Int) (l : Leg) (n : Int) (h : Hp) (hD : ∀ g, Gives Try.prog 42 [.slice (bs.map (.int .u8)) .no] g (.tup [l.d, .int .i64 n])) (hl : legB l = true) : Gives Try.prog 9 [.slice (bs.map (.int .u8)) .no] h (.bool true) := by
  have hp := legP_of hl
  have hI := fun g => implLegKeep_gives l n g
  have hS := fun g => specLegKeep_gives l n g (fun _ ht => hp.cls (thereB_t ht))
  rw [hl] at hI hS
  replace hI : ∀ g, Gives Try.prog 43 [l.d, .int .i64 n] g (keepL l n).d := hI
  replace hS : ∀ g, Gives Try.prog 45 [l.d, .int .i64 n] g (keepL l n).d := hS
  obtain ⟨x1, x2, x3, x4⟩ := keepL_facts hl n
  generalize keepL l n = x at hI hS x1 x2 x3 x4
  have hpx := legP_of x1
  have hn := hp.holds
  have hnx := hpx.holds
  have hls := hp.sold
  have hr := sumK_range (sold_range hpx) (sold_range hp)
  have ra := sold_range hpx
  have rb := sold_range hp
  refine meets_of [] mixed Try.func9 rfl (by kernel_rfl) (by kernel_rfl) (by rw [Try.ntmps9]; simp only [List.length_cons, List.length_nil]; omega) (fun hf => ?_)
  rw [Try.results9]
  clear hf
  try simp -implicitDefEqProofs only [← legB_spec, hl, x1, push_cast, Nat.reduceEqDiff, Nat.reduceBEq, Nat.reduceBNe, Nat.reduceAdd, Nat.reduceMul, Nat.reduceLT, Nat.reduceLeDiff, Nat.reduceSub, reduceCtorEq, Int.reduceToNat, ↓reduceIte]
  repeat'
    (first
     | (refine uYes ?_; first | exact List.mem_cons_self | (simp only [List.mem_cons, List.not_mem_nil, or_false, true_or, or_true]; done))
     | (refine uNo (by kernel_rfl))
     | (refine flatMk ?_; kernel_rfl)
     | (refine And.intro ?_ ?_)
     | (intro hx)
     | ((first
         | (refine callGF ?_)
         | (refine callQGF ?_)
         | (refine skipG ?_)
         | (refine callS (hD _) ?_)
         | (refine callQ (hD _) ?_)
         | (refine callG (fun hc => (hD _)) ?_)
         | (refine callQG (fun hc => (hD _)) ?_)
         | (refine callS (hI _) ?_)
         | (refine callQ (hI _) ?_)
         | (refine callG (fun hc => (hI _)) ?_)
         | (refine callQG (fun hc => (hI _)) ?_)
         | (refine callS (hS _) ?_)
         | (refine callQ (hS _) ?_)
         | (refine callG (fun hc => (hS _)) ?_)
         | (refine callQG (fun hc => (hS _)) ?_)
         | (refine callS (wsLeg_gives x _) ?_)
         | (refine callQ (wsLeg_gives x _) ?_)
         | (refine callG (fun hc => (wsLeg_gives x _)) ?_)
         | (refine callQG (fun hc => (wsLeg_gives x _)) ?_)
         | (refine callS (implLegOk_gives l _) ?_)
         | (refine callQ (implLegOk_gives l _) ?_)
         | (refine callG (fun hc => (implLegOk_gives l _)) ?_)
         | (refine callQG (fun hc => (implLegOk_gives l _)) ?_)
         | (refine callS (specLegOk_gives l _) ?_)
         | (refine callQ (specLegOk_gives l _) ?_)
         | (refine callG (fun hc => (specLegOk_gives l _)) ?_)
         | (refine callQG (fun hc => (specLegOk_gives l _)) ?_)
         | (refine callS (implLegOk_gives x _) ?_)
         | (refine callQ (implLegOk_gives x _) ?_)
         | (refine callG (fun hc => (implLegOk_gives x _)) ?_)
         | (refine callQG (fun hc => (implLegOk_gives x _)) ?_)); simp -implicitDefEqProofs only [← legB_spec, hl, x1, push_cast, Nat.reduceEqDiff, Nat.reduceBEq, Nat.reduceBNe, Nat.reduceAdd, Nat.reduceMul, Nat.reduceLT, Nat.reduceLeDiff, Nat.reduceSub, reduceCtorEq, Int.reduceToNat, ↓reduceIte]))
  all_goals try first
    | omega
    | rfl
    | (cases hx; done)
  refine ev_loop [] (fun k : Nat => [(3, .ptr h.length 0), (4, .int .i64 n), (5, .ptr (h.length + 1) 0), (6, .int .i64 (sumK x.sold l.sold k)), (7, .int .i64 k)])
    (fun _ => [.row l.cs, .row x.cs]) (fun k => k ≤ 3) (fun k => 3 - k) 0 trivial (Nat.zero_le _) ?_ ?_
  · refine ⟨2, by simp, by simp [tokSts], ?_⟩
    simp -implicitDefEqProofs only [sumK, Int.natCast_add, Int.cast_ofNat_Int, List.length_nil, Nat.le_refl, WeakTo, tokSts, tokOks, List.append_cancel_left_eq, exists_eq_left', exists_eq_left, List.append_cancel_left_eq, List.take_length, ObCl, and_true, true_and, push_cast, Nat.reduceEqDiff, Nat.reduceBEq, Nat.reduceBNe, Nat.reduceAdd, Nat.reduceMul, Nat.reduceLT, Nat.reduceLeDiff, Nat.reduceSub, reduceCtorEq, Int.reduceToNat, ↓reduceIte]
    omega
  · intro k hk
    have hw : IntKind.i64.wrap ((k : Int) + 1) = k + 1 := wrap_id (by omega) (by omega)
    have r1 := hr k
    have r2 := ra k
    have r3 := rb k
    have hw1 : IntKind.i64.wrap (sumK x.sold l.sold k + x.sold.getD k 0) = sumK x.sold l.sold k + x.sold.getD k 0 := wrap_id (by omega) (by omega)
    have hw2 : IntKind.i64.wrap (sumK x.sold l.sold k + x.sold.getD k 0 - l.sold.getD k 0) = sumK x.sold l.sold (k + 1) := wrap_id (by omega) (by omega)
    try simp -implicitDefEqProofs only [hw, hw1, hw2, push_cast, Nat.reduceEqDiff, Nat.reduceBEq, Nat.reduceBNe, Nat.reduceAdd, Nat.reduceMul, Nat.reduceLT, Nat.reduceLeDiff, Nat.reduceSub, reduceCtorEq, Int.reduceToNat, ↓reduceIte]
    repeat'
      (first
       | (refine uYes ?_; first | exact List.mem_cons_self | (simp only [List.mem_cons, List.not_mem_nil, or_false, true_or, or_true]; done))
       | (refine uNo (by kernel_rfl))
       | (refine flatMk ?_; kernel_rfl)
       | (refine And.intro ?_ ?_)
       | (intro hx)
       | ((first
           | (refine callGF ?_)
           | (refine callQGF ?_)
           | (refine skipG ?_)
           | (refine callS (in_gives ..) ?_)
           | (refine callQ (in_gives ..) ?_)
           | (refine callG (fun hc => (in_gives ..)) ?_)
           | (refine callQG (fun hc => (in_gives ..)) ?_)); simp -implicitDefEqProofs only [hw, hw1, hw2, push_cast, Nat.reduceEqDiff, Nat.reduceBEq, Nat.reduceBNe, Nat.reduceAdd, Nat.reduceMul, Nat.reduceLT, Nat.reduceLeDiff, Nat.reduceSub, reduceCtorEq, Int.reduceToNat, ↓reduceIte]))
    all_goals try first
      | omega
      | (refine round_mk (k + 1) (by omega) (by omega) ?_
         simp -implicitDefEqProofs only [hw, hw1, hw2, Int.natCast_add, Int.cast_ofNat_Int, List.length_nil, Nat.le_refl, WeakTo, tokSts, tokOks, List.append_cancel_left_eq, exists_eq_left', exists_eq_left, List.append_cancel_left_eq, List.take_length, ObCl, and_true, true_and, push_cast, Nat.reduceEqDiff, Nat.reduceBEq, Nat.reduceBNe, Nat.reduceAdd, Nat.reduceMul, Nat.reduceLT, Nat.reduceLeDiff, Nat.reduceSub, reduceCtorEq, Int.reduceToNat, ↓reduceIte]
         omega)
    obtain rfl : k = 3 := by omega
    refine ev_loop [] (fun j : Nat => [(3, .ptr h.length 0), (4, .int .i64 n), (5, .ptr (h.length + 1) 0), (6, .int .i64 (sumK x.sold l.sold 3)), (8, .int .i64 (heldK l n j)), (9, .int .i64 j)])
      (fun _ => [.row l.cs, .row x.cs]) (fun j => j ≤ l.holds.length) (fun j => l.holds.length - j) 0 trivial (Nat.zero_le _) ?_ ?_
    · refine ⟨2, by simp, by simp [tokSts], ?_⟩
      simp -implicitDefEqProofs only [heldK, Int.natCast_add, Int.cast_ofNat_Int, List.length_nil, Nat.le_refl, WeakTo, tokSts, tokOks, List.append_cancel_left_eq, exists_eq_left', exists_eq_left, List.append_cancel_left_eq, List.take_length, ObCl, and_true, true_and, push_cast, Nat.reduceEqDiff, Nat.reduceBEq, Nat.reduceBNe, Nat.reduceAdd, Nat.reduceMul, Nat.reduceLT, Nat.reduceLeDiff, Nat.reduceSub, reduceCtorEq, Int.reduceToNat, ↓reduceIte]
      omega
    · intro j hj
      have hv : IntKind.i64.wrap ((j : Int) + 1) = j + 1 := wrap_id (by omega) (by omega)
      try simp -implicitDefEqProofs only [hv, push_cast, Nat.reduceEqDiff, Nat.reduceBEq, Nat.reduceBNe, Nat.reduceAdd, Nat.reduceMul, Nat.reduceLT, Nat.reduceLeDiff, Nat.reduceSub, reduceCtorEq, Int.reduceToNat, ↓reduceIte]
      repeat'
        (first
         | (refine uYes ?_; first | exact List.mem_cons_self | (simp only [List.mem_cons, List.not_mem_nil, or_false, true_or, or_true]; done))
         | (refine uNo (by kernel_rfl))
         | (refine flatMk ?_; kernel_rfl)
         | (refine And.intro ?_ ?_)
         | (intro hx)
         | ((first
             | (refine callGF ?_)
             | (refine callQGF ?_)
             | (refine skipG ?_)
             | (refine callS (in_gives ..) ?_)
             | (refine callQ (in_gives ..) ?_)
             | (refine callG (fun hc => (in_gives ..)) ?_)
             | (refine callQG (fun hc => (in_gives ..)) ?_)); simp -implicitDefEqProofs only [hv, push_cast, Nat.reduceEqDiff, Nat.reduceBEq, Nat.reduceBNe, Nat.reduceAdd, Nat.reduceMul, Nat.reduceLT, Nat.reduceLeDiff, Nat.reduceSub, reduceCtorEq, Int.reduceToNat, ↓reduceIte]))
      all_goals try first
        | omega
        | (refine round_mk (j + 1) (by omega) (by omega) ?_
           simp -implicitDefEqProofs only [hv, heldK, hx, if_true, if_false, Int.natCast_add, Int.cast_ofNat_Int, List.length_nil, Nat.le_refl, WeakTo, tokSts, tokOks, List.append_cancel_left_eq, exists_eq_left', exists_eq_left, List.append_cancel_left_eq, List.take_length, ObCl, and_true, true_and, push_cast, Nat.reduceEqDiff, Nat.reduceBEq, Nat.reduceBNe, Nat.reduceAdd, Nat.reduceMul, Nat.reduceLT, Nat.reduceLeDiff, Nat.reduceSub, reduceCtorEq, Int.reduceToNat, ↓reduceIte]
           omega)
      obtain rfl : j = l.holds.length := by omega
      refine ev_loop [] (fun m : Nat => [(3, .ptr h.length 0), (4, .int .i64 n), (5, .ptr (h.length + 1) 0), (6, .int .i64 (sumK x.sold l.sold 3)), (8, .int .i64 (heldK l n l.holds.length)), (10, .int .i64 m)])
        (fun _ => [.row l.cs, .row x.cs]) (fun m => m ≤ x.holds.length) (fun m => x.holds.length - m) 0 trivial (Nat.zero_le _) ?_ ?_
      · refine ⟨2, by simp, by simp [tokSts], ?_⟩
        simp -implicitDefEqProofs only [Int.natCast_add, Int.cast_ofNat_Int, List.length_nil, Nat.le_refl, WeakTo, tokSts, tokOks, List.append_cancel_left_eq, exists_eq_left', exists_eq_left, List.append_cancel_left_eq, List.take_length, ObCl, and_true, true_and, push_cast, Nat.reduceEqDiff, Nat.reduceBEq, Nat.reduceBNe, Nat.reduceAdd, Nat.reduceMul, Nat.reduceLT, Nat.reduceLeDiff, Nat.reduceSub, reduceCtorEq, Int.reduceToNat, ↓reduceIte]
        omega
      · intro m hm
        have hu : IntKind.i64.wrap ((m : Int) + 1) = m + 1 := wrap_id (by omega) (by omega)
        try simp -implicitDefEqProofs only [hu, x1, x3, push_cast, Nat.reduceEqDiff, Nat.reduceBEq, Nat.reduceBNe, Nat.reduceAdd, Nat.reduceMul, Nat.reduceLT, Nat.reduceLeDiff, Nat.reduceSub, reduceCtorEq, Int.reduceToNat, ↓reduceIte]
        repeat'
          (first
           | (refine uYes ?_; first | exact List.mem_cons_self | (simp only [List.mem_cons, List.not_mem_nil, or_false, true_or, or_true]; done))
           | (refine uNo (by kernel_rfl))
           | (refine flatMk ?_; kernel_rfl)
           | (refine And.intro ?_ ?_)
           | (intro hx)
           | ((first
               | (refine callGF ?_)
               | (refine callQGF ?_)
               | (refine skipG ?_)
               | (refine callS (implLegOk_gives x _) ?_)
               | (refine callQ (implLegOk_gives x _) ?_)
               | (refine callG (fun hc => (implLegOk_gives x _)) ?_)
               | (refine callQG (fun hc => (implLegOk_gives x _)) ?_)); simp -implicitDefEqProofs only [hu, x1, x3, push_cast, Nat.reduceEqDiff, Nat.reduceBEq, Nat.reduceBNe, Nat.reduceAdd, Nat.reduceMul, Nat.reduceLT, Nat.reduceLeDiff, Nat.reduceSub, reduceCtorEq, Int.reduceToNat, ↓reduceIte]))
        all_goals first
          | omega
          | (refine round_mk (m + 1) (by omega) (by omega) ?_
             simp -implicitDefEqProofs only [hu, Int.natCast_add, Int.cast_ofNat_Int, List.length_nil, Nat.le_refl, WeakTo, tokSts, tokOks, List.append_cancel_left_eq, exists_eq_left', exists_eq_left, List.append_cancel_left_eq, List.take_length, ObCl, and_true, true_and, push_cast, Nat.reduceEqDiff, Nat.reduceBEq, Nat.reduceBNe, Nat.reduceAdd, Nat.reduceMul, Nat.reduceLT, Nat.reduceLeDiff, Nat.reduceSub, reduceCtorEq, Int.reduceToNat, ↓reduceIte]
             omega)
          | exact absurd hx (x4 m (by omega))
          | trace_state
theorem fnLegKeep_gives (bs : List Int) (h : Hp) (hb : ∀ x, x ∈ bs → 0 ≤ x ∧ x ≤ 255) : Gives Try.prog 9 [.slice (bs.map (.int .u8)) .no] h (.bool true) := by
  have hD := fun g => drawLegKeep_gives bs g hb
  cases hl : legB (keepD bs).1 with
  | false => exact fnLegKeep_bad bs _ _ h hD hl
  | true => exact fnLegKeep_ok bs _ _ h hD hl
end Go.Proofs.Ytmehbbepppjikaa
