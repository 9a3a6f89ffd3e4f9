/- Contracts of functions of the program (Gl). -/
import Derived.Test.YtdoclnjmcmdfdaaGreatDoorGk
import Derived.Test.YtdoclnjmcmdfdaaGreatDoorGd
import Derived.Test.YtdoclnjmcmdfdaaGreatDoorGh
import Derived.Test.YtdoclnjmcmdfdaaGreatDoorGi

namespace Go.Proofs.YtdoclnjmcmdfdaaGreatDoor
set_option linter.unusedSectionVars false
open Go.Av
variable [Av.Start]
set_option maxRecDepth 10000
set_option maxHeartbeats 1000000
set_option linter.unusedSimpArgs false
set_option linter.unusedVariables false

omit [Av.Start] in
theorem legRoomV_bad {l : Leg} {c : Int} (h : (legB l && inB c 0 2) = false) : legRoomV l c = 0 := by
  rw [legRoomV, h]; rfl
theorem legRoomV_good {l : Leg} {c : Int} (hb : legB l = true) (hc : inB c 0 2 = true) : 0 ≤ legRoomV l c ∧ legRoomV l c ≤ l.limits.getD c.toNat 0 ∧ (c ≠ 0 → legRoomV l c ≤ legRoomV l (c - 1)) := by
  have hp := legP_of hb
  have h1 := inB_iff.1 hc
  have h2 := hp.roomW (k := c.toNat) (by omega)
  rw [legRoomV, hb, hc]
  simp only [Bool.and_self, if_true]
  refine ⟨h2.2.1, h2.2.2, fun h0 => ?_⟩
  have hc' : inB (c - 1) 0 2 = true := inB_iff.2 (by omega)
  rw [legRoomV, hb, hc']
  simp only [Bool.and_self, if_true]
  obtain ⟨k, rfl⟩ : ∃ k : Nat, c = k + 1 := ⟨(c - 1).toNat, by omega⟩
  rw [show ((k : Int) + 1).toNat = k + 1 by omega, show ((k : Int) + 1 - 1).toNat = k by omega]
  exact Int.min_le_left _ _
omit [Av.Start] in
theorem legRoomV_bad' {l : Leg} {c : Int} (h : legB l = false ∨ (0 ≤ c → 2 < c)) : legRoomV l c = 0 := by
  refine legRoomV_bad ?_
  rw [Bool.and_eq_false_iff]
  refine h.imp id fun hc => ?_
  cases e : inB c 0 2 with
  | false => rfl
  | true =>
    have := inB_iff.1 e
    omega
theorem legRoomV_good' {l : Leg} {c : Int} (h : legB l = true ∧ 0 ≤ c ∧ c ≤ 2) : l.limits.length = 3 ∧ 0 ≤ legRoomV l c ∧ legRoomV l c ≤ l.limits.getD c.toNat 0 ∧ (c ≠ 0 → legRoomV l c ≤ legRoomV l (IntKind.i64.wrap (c - 1))) := by
  rw [wrap_id (by omega) (by omega)]
  exact ⟨(legP_of h.1).limits, legRoomV_good h.1 (inB_iff.2 h.2)⟩
end Go.Proofs.YtdoclnjmcmdfdaaGreatDoor

namespace Go.Proofs.YtdoclnjmcmdfdaaGreatDoor
set_option linter.unusedSectionVars false
open Go.Av
variable [Av.Start]
set_option maxRecDepth 10000
set_option maxHeartbeats 1000000
set_option linter.unusedSimpArgs false
set_option linter.unusedVariables false

end Go.Proofs.YtdoclnjmcmdfdaaGreatDoor

namespace Go.Proofs.YtdoclnjmcmdfdaaGreatDoor
set_option linter.unusedSectionVars false
open Go.Av
variable [Av.Start]
set_option maxRecDepth 10000
set_option maxHeartbeats 1000000
set_option linter.unusedSimpArgs false
set_option linter.unusedVariables false

theorem wsInts_gives (a b : List Int) (h : Hp) : Gives Tryz.prog 42 [.slice (a.map (.int .i64)) .no, .slice (b.map (.int .i64)) .no] h (.bool (decide (a = b))) := by
  refine meets_of [] mixed Tryz.func42 rfl (by kernel_rfl) (by kernel_rfl) (by rw [Tryz.ntmps42]; simp only [List.length_cons, List.length_nil]; omega) (fun hf => ?_)
  rw [Tryz.results42]
  have hl : a.length ≤ 1073741824 := by
    have := hf (.slice (a.map (.int .i64)) .no) (by simp)
    simpa [fitsD, flen, lenMax] using this
  clear hf
  try simp -implicitDefEqProofs only [push_cast, Nat.reduceEqDiff, Nat.reduceBEq, Nat.reduceBNe, Nat.reduceAdd, Nat.reduceMul, Nat.reduceLT, Nat.reduceLeDiff, Nat.reduceSub, reduceCtorEq, Int.reduceToNat, ↓reduceIte]
  repeat'
    (first
     | (refine uYes ?_; first | exact List.mem_cons_self | (simp only [List.mem_cons, List.not_mem_nil, or_false, true_or, or_true]; done))
     | (refine uNo (by kernel_rfl))
     | (refine flatMk ?_; kernel_rfl)
     | (refine And.intro ?_ ?_)
     | (intro hx)
     | ((first
         | (refine callGF ?_)
         | (refine callQGF ?_)
         | (refine skipG ?_)
         | (refine callS (l1In_gives _ _ _ _) ?_)
         | (refine callQ (l1In_gives _ _ _ _) ?_)
         | (refine callG (fun hc => (l1In_gives _ _ _ _)) ?_)
         | (refine callQG (fun hc => (l1In_gives _ _ _ _)) ?_)); simp -implicitDefEqProofs only [push_cast, Nat.reduceEqDiff, Nat.reduceBEq, Nat.reduceBNe, Nat.reduceAdd, Nat.reduceMul, Nat.reduceLT, Nat.reduceLeDiff, Nat.reduceSub, reduceCtorEq, Int.reduceToNat, ↓reduceIte]))
  · exact (decide_eq_false (fun e => hx (by rw [e]))).symm
  refine ev_loop0 [] (fun k : Nat => [(0, .slice (a.map (.int .i64)) .no), (1, .slice (b.map (.int .i64)) .no), (5, .int .i64 k)]) (fun k => k ≤ a.length ∧ ∀ i, i < k → a.getD i 0 = b.getD i 0) (fun k => a.length - k) 0 trivial ⟨Nat.zero_le _, fun i hi => absurd hi (Nat.not_lt_zero i)⟩ ?_ ?_
  · exact ⟨rfl, [], by simp -implicitDefEqProofs only [Int.natCast_add, Int.cast_ofNat_Int, List.length_nil, Nat.le_refl, WeakTo, tokSts, tokOks, List.append_cancel_left_eq, exists_eq_left', exists_eq_left, List.append_cancel_left_eq, List.take_length, ObCl, and_true, true_and, push_cast, Nat.reduceEqDiff, Nat.reduceBEq, Nat.reduceBNe, Nat.reduceAdd, Nat.reduceMul, Nat.reduceLT, Nat.reduceLeDiff, Nat.reduceSub, reduceCtorEq, Int.reduceToNat, ↓reduceIte]⟩
  · intro k hk
    have hw : IntKind.i64.wrap ((k : Int) + 1) = k + 1 := wrap_id (by omega) (by omega)
    try simp -implicitDefEqProofs only [hw, push_cast, Nat.reduceEqDiff, Nat.reduceBEq, Nat.reduceBNe, Nat.reduceAdd, Nat.reduceMul, Nat.reduceLT, Nat.reduceLeDiff, Nat.reduceSub, reduceCtorEq, Int.reduceToNat, ↓reduceIte]
    repeat'
      (first
       | (refine uYes ?_; first | exact List.mem_cons_self | (simp only [List.mem_cons, List.not_mem_nil, or_false, true_or, or_true]; done))
       | (refine uNo (by kernel_rfl))
       | (refine flatMk ?_; kernel_rfl)
       | (refine And.intro ?_ ?_)
       | (intro hx)
       | ((first
           | (refine callGF ?_)
           | (refine callQGF ?_)
           | (refine skipG ?_)
           | (refine callS (l1In_gives _ _ _ _) ?_)
           | (refine callQ (l1In_gives _ _ _ _) ?_)
           | (refine callG (fun hc => (l1In_gives _ _ _ _)) ?_)
           | (refine callQG (fun hc => (l1In_gives _ _ _ _)) ?_)); simp -implicitDefEqProofs only [hw, push_cast, Nat.reduceEqDiff, Nat.reduceBEq, Nat.reduceBNe, Nat.reduceAdd, Nat.reduceMul, Nat.reduceLT, Nat.reduceLeDiff, Nat.reduceSub, reduceCtorEq, Int.reduceToNat, ↓reduceIte]))
    all_goals first
      | omega
      | (refine round_mk0 (k + 1) ⟨by omega, fun i hi => ?_⟩ (by omega) ⟨[], ?_⟩
         · by_cases e : i = k
           · exact e ▸ hx
           · exact hk.2 i (by omega)
         · simp -implicitDefEqProofs only [hw, Int.natCast_add, Int.cast_ofNat_Int, List.length_nil, Nat.le_refl, WeakTo, tokSts, tokOks, List.append_cancel_left_eq, exists_eq_left', exists_eq_left, List.append_cancel_left_eq, List.take_length, ObCl, and_true, true_and, push_cast, Nat.reduceEqDiff, Nat.reduceBEq, Nat.reduceBNe, Nat.reduceAdd, Nat.reduceMul, Nat.reduceLT, Nat.reduceLeDiff, Nat.reduceSub, reduceCtorEq, Int.reduceToNat, ↓reduceIte])
      | exact (decide_eq_false (fun e => hx (by rw [e]))).symm
      | (refine (decide_eq_true (List.ext_getElem (by omega) (fun i h1 h2 => ?_))).symm
         have := hk.2 i (by omega)
         simpa [List.getD_eq_getElem?_getD, List.getElem?_eq_getElem, h1, h2] using this)
      | trace_state
end Go.Proofs.YtdoclnjmcmdfdaaGreatDoor

namespace Go.Proofs.YtdoclnjmcmdfdaaGreatDoor
set_option linter.unusedSectionVars false
open Go.Av
variable [Av.Start]
set_option maxRecDepth 10000
set_option maxHeartbeats 1000000
set_option linter.unusedSimpArgs false
set_option linter.unusedVariables false

theorem wsLeg_gives (a : Leg) (h : Hp) : Gives Tryz.prog 17 [a.d, a.d] h (.bool true) := by
  refine meets_of [] mixed Tryz.func17 rfl (by kernel_rfl) (by kernel_rfl) (by rw [Tryz.ntmps17]; simp only [List.length_cons, List.length_nil]; omega) (fun hf => ?_)
  rw [Tryz.results17]
  obtain ⟨_, _, _, hf1, hf2, hf3, hf4⟩ := Leg.fit (hf a.d (by simp))
  clear hf
  try simp -implicitDefEqProofs only [push_cast, Nat.reduceEqDiff, Nat.reduceBEq, Nat.reduceBNe, Nat.reduceAdd, Nat.reduceMul, Nat.reduceLT, Nat.reduceLeDiff, Nat.reduceSub, reduceCtorEq, Int.reduceToNat, ↓reduceIte]
  repeat'
    (first
     | (refine uYes ?_; first | exact List.mem_cons_self | (simp only [List.mem_cons, List.not_mem_nil, or_false, true_or, or_true]; done))
     | (refine uNo (by kernel_rfl))
     | (refine flatMk ?_; kernel_rfl)
     | (refine And.intro ?_ ?_)
     | (intro hx)
     | ((first
         | (refine callGF ?_)
         | (refine callQGF ?_)
         | (refine skipG ?_)
         | (refine callS (wsInts_gives _ _ _) ?_)
         | (refine callQ (wsInts_gives _ _ _) ?_)
         | (refine callG (fun hc => (wsInts_gives _ _ _)) ?_)
         | (refine callQG (fun hc => (wsInts_gives _ _ _)) ?_)); simp -implicitDefEqProofs only [push_cast, Nat.reduceEqDiff, Nat.reduceBEq, Nat.reduceBNe, Nat.reduceAdd, Nat.reduceMul, Nat.reduceLT, Nat.reduceLeDiff, Nat.reduceSub, reduceCtorEq, Int.reduceToNat, ↓reduceIte]))
  refine ev_loop [] (fun k : Nat => [(2, .ptr h.length 0), (3, .ptr (h.length + 1) 0), (5, .int .i64 k)])
    (fun _ => [.row a.cs, .row a.cs]) (fun k => k ≤ a.holds.length) (fun k => a.holds.length - k) 0 trivial (Nat.zero_le _) ?_ ?_
  · refine ⟨2, by simp, by simp [tokSts], ?_⟩
    simp -implicitDefEqProofs only [Int.natCast_add, Int.cast_ofNat_Int, List.length_nil, Nat.le_refl, WeakTo, tokSts, tokOks, List.append_cancel_left_eq, exists_eq_left', exists_eq_left, List.append_cancel_left_eq, List.take_length, ObCl, and_true, true_and, push_cast, Nat.reduceEqDiff, Nat.reduceBEq, Nat.reduceBNe, Nat.reduceAdd, Nat.reduceMul, Nat.reduceLT, Nat.reduceLeDiff, Nat.reduceSub, reduceCtorEq, Int.reduceToNat, ↓reduceIte]
    omega
  · intro k hk
    have hw : IntKind.i64.wrap ((k : Int) + 1) = k + 1 := wrap_id (by omega) (by omega)
    try simp -implicitDefEqProofs only [hw, push_cast, Nat.reduceEqDiff, Nat.reduceBEq, Nat.reduceBNe, Nat.reduceAdd, Nat.reduceMul, Nat.reduceLT, Nat.reduceLeDiff, Nat.reduceSub, reduceCtorEq, Int.reduceToNat, ↓reduceIte]
    repeat'
      (first
       | (refine uYes ?_; first | exact List.mem_cons_self | (simp only [List.mem_cons, List.not_mem_nil, or_false, true_or, or_true]; done))
       | (refine uNo (by kernel_rfl))
       | (refine flatMk ?_; kernel_rfl)
       | (refine And.intro ?_ ?_)
       | (intro hx)
       | ((first
           | (refine callGF ?_)
           | (refine callQGF ?_)
           | (refine skipG ?_)
           | (refine callS (in_gives ..) ?_)
           | (refine callQ (in_gives ..) ?_)
           | (refine callG (fun hc => (in_gives ..)) ?_)
           | (refine callQG (fun hc => (in_gives ..)) ?_)); simp -implicitDefEqProofs only [hw, push_cast, Nat.reduceEqDiff, Nat.reduceBEq, Nat.reduceBNe, Nat.reduceAdd, Nat.reduceMul, Nat.reduceLT, Nat.reduceLeDiff, Nat.reduceSub, reduceCtorEq, Int.reduceToNat, ↓reduceIte]))
    all_goals first
      | omega
      | (refine round_mk (k + 1) (by omega) (by omega) ?_
         simp -implicitDefEqProofs only [hw, Int.natCast_add, Int.cast_ofNat_Int, List.length_nil, Nat.le_refl, WeakTo, tokSts, tokOks, List.append_cancel_left_eq, exists_eq_left', exists_eq_left, List.append_cancel_left_eq, List.take_length, ObCl, and_true, true_and, push_cast, Nat.reduceEqDiff, Nat.reduceBEq, Nat.reduceBNe, Nat.reduceAdd, Nat.reduceMul, Nat.reduceLT, Nat.reduceLeDiff, Nat.reduceSub, reduceCtorEq, Int.reduceToNat, ↓reduceIte]
         omega)
      | trace_state
end Go.Proofs.YtdoclnjmcmdfdaaGreatDoor

namespace Go.Proofs.YtdoclnjmcmdfdaaGreatDoor
set_option linter.unusedSectionVars false
open Go.Av
variable [Av.Start]
set_option maxRecDepth 10000
set_option maxHeartbeats 1000000
set_option linter.unusedSimpArgs false
set_option linter.unusedVariables false

omit [Av.Start] in
theorem holds_len (xs : List Hold) : (xs.flatMap Hold.cs).length = xs.length * 3 := flatMap_length (f := Hold.cs) (m := 3) (fun _ => rfl) xs
theorem rp_holds {h rows : Hp} {k n : Nat} {xs : List Hold} (hr : ob rows k = .row (xs.flatMap Hold.cs)) (hn : n = xs.length) : rowPart (h ++ rows) (h.length + k) 3 0 n = xs.flatMap Hold.cs := by
  subst hn
  rw [rowPart, ob_app, hr]
  show ((xs.flatMap Hold.cs).drop (0 * 3)).take (xs.length * 3) = _
  rw [Nat.zero_mul, List.drop_zero, List.take_of_length_le (by rw [holds_len]; exact Nat.le_refl _)]
omit [Av.Start] in
theorem chunk_holds (xs : List Hold) (n : Nat) (hn : n = xs.length) : chunk true 3 n (xs.flatMap Hold.cs) = xs.map Hold.d :=
  chunk_map (g := Hold.d) (ag := true) (m := 3) (by omega) (fun _ => rfl) (fun _ => rfl) xs n hn
end Go.Proofs.YtdoclnjmcmdfdaaGreatDoor

namespace Go.Proofs.YtdoclnjmcmdfdaaGreatDoor
set_option linter.unusedSectionVars false
open Go.Av
variable [Av.Start]
set_option maxRecDepth 10000
set_option maxHeartbeats 1000000
set_option linter.unusedSimpArgs false
set_option linter.unusedVariables false

omit [Av.Start] in
theorem erase_len {α : Type} (xs : List α) {k : Nat} (hk : k < xs.length) : (xs.eraseIdx k).length = xs.length - 1 := by
  rw [List.length_eraseIdx, if_pos hk]
omit [Av.Start] in
theorem there_eq {l : Leg} {n : Int} (h : thereB l n = true) : (l.holds.getD (placeN l n) default).txn = n := by
  simp only [thereB, Bool.and_eq_true, decide_eq_true_eq] at h
  exact h.2
omit [Av.Start] in
theorem not_there {l : Leg} (h : LegP l) {n : Int} (ht : thereB l n = false) : ∀ i, i < l.holds.length → (l.holds.getD i default).txn ≠ n := by
  intro i hi e
  have hp : placeN l n = i := whileN_at default (by omega) (fun j hj => decide_eq_true (by have := h.rises hj hi; omega)) (fun _ => decide_eq_false (by omega))
  rw [thereB, hp, decide_eq_true hi, decide_eq_true e] at ht
  cases ht
theorem gone {l x : Leg} (h : LegP l) {n : Int} (hx : x.holds = if thereB l n then l.holds.eraseIdx (placeN l n) else l.holds) : ∀ i, i < x.holds.length → (x.holds.getD i default).txn ≠ n := by
  intro i hi
  cases ht : thereB l n with
  | false =>
    rw [ht] at hx
    rw [hx] at hi ⊢
    exact not_there h ht i hi
  | true =>
    rw [ht, if_pos rfl] at hx
    rw [hx] at hi ⊢
    have hk := thereB_t ht
    have he := there_eq ht
    rw [erase_len _ hk] at hi
    rw [getD_erase]
    split
    · rename_i hik
      have := h.rises hik hk
      omega
    · have := h.rises (i := placeN l n) (j := i + 1) (by omega) (by omega)
      omega
omit [Av.Start] in
theorem there_gone {x : Leg} {n : Int} (h : ∀ i, i < x.holds.length → (x.holds.getD i default).txn ≠ n) : thereB x n = false := by
  cases e : thereB x n with
  | false => rfl
  | true => exact absurd (there_eq e) (h _ (thereB_t e))
omit [Av.Start] in
theorem dropL_holds (l : Leg) (n : Int) : (dropL l n).holds = if thereB l n then l.holds.eraseIdx (placeN l n) else l.holds := by
  rw [dropL]; split <;> rfl
omit [Av.Start] in
theorem keepL_holds (l : Leg) (n : Int) : (keepL l n).holds = if thereB l n then l.holds.eraseIdx (placeN l n) else l.holds := by
  rw [keepL]; split <;> rfl
omit [Av.Start] in
theorem dropL_sold (l : Leg) (n : Int) : (dropL l n).sold = l.sold := by
  rw [dropL]; split <;> rfl
theorem dropL_facts {l : Leg} (hb : legB l = true) (n : Int) : legB (dropL l n) = true ∧ (dropL l n).sold = l.sold ∧ (l.holds.length : Int) - 1 ≤ (dropL l n).holds.length ∧ dropL (dropL l n) n = dropL l n ∧ keepL (dropL l n) n = dropL l n := by
  have hp := legP_of hb
  have ht := there_gone (gone hp (dropL_holds l n))
  refine ⟨(drop_ok hp n).mk_leg, dropL_sold l n, ?_, ?_, ?_⟩
  · rw [dropL_holds]
    split
    · rename_i h1
      rw [erase_len _ (thereB_t h1)]
      omega
    · omega
  · rw [dropL, ht]; rfl
  · rw [keepL, ht]; rfl

def sumK (a b : List Int) : Nat → Int
  | 0 => 0
  | k + 1 => sumK a b k + a.getD k 0 - b.getD k 0
def heldK (l : Leg) (n : Int) : Nat → Int
  | 0 => 0
  | k + 1 => if (l.holds.getD k default).txn = n then (l.holds.getD k default).seats else heldK l n k
omit [Av.Start] in
theorem sumK_range {a b : List Int} (ha : ∀ i, 0 ≤ a.getD i 0 ∧ a.getD i 0 ≤ 9) (hb : ∀ i, 0 ≤ b.getD i 0 ∧ b.getD i 0 ≤ 9) : ∀ k : Nat, -9 * k ≤ sumK a b k ∧ sumK a b k ≤ 9 * k
  | 0 => by simp [sumK]
  | k + 1 => by
    have := sumK_range ha hb k
    have := ha k
    have := hb k
    simp only [sumK]
    omega
omit [Av.Start] in
theorem heldK_none {l : Leg} {n : Int} : ∀ {k : Nat}, (∀ i, i < k → (l.holds.getD i default).txn ≠ n) → heldK l n k = 0
  | 0, _ => rfl
  | k + 1, h => by rw [heldK, if_neg (h k (by omega)), heldK_none fun i hi => h i (by omega)]
omit [Av.Start] in
theorem heldK_at {l : Leg} (h : LegP l) {n : Int} (ht : thereB l n = true) : ∀ {k : Nat}, k ≤ l.holds.length → placeN l n < k → heldK l n k = (l.holds.getD (placeN l n) default).seats
  | 0, _, h0 => absurd h0 (by omega)
  | k + 1, hk, h0 => by
    rw [heldK]
    by_cases e : placeN l n = k
    · rw [← e, if_pos (there_eq ht)]
    · have h1 := h.rises (i := placeN l n) (j := k) (by omega) (by omega)
      have h2 := there_eq ht
      rw [if_neg (by omega), heldK_at h ht (by omega) (by omega)]
omit [Av.Start] in
theorem sold_range {l : Leg} (h : LegP l) (i : Nat) : 0 ≤ l.sold.getD i 0 ∧ l.sold.getD i 0 ≤ 9 := by
  have hc := h.cap
  rw [List.getD_eq_getElem?_getD]
  by_cases hi : i < l.sold.length
  · rw [List.getElem?_eq_getElem hi]
    have := h.sol _ (List.getElem_mem hi)
    simp only [Option.getD_some]
    omega
  · rw [List.getElem?_eq_none (by omega)]
    simp
theorem keepL_facts {l : Leg} (hb : legB l = true) (n : Int) : legB (keepL l n) = true ∧ (keepL l n).sold.length = 3 ∧ sumK (keepL l n).sold l.sold 3 = heldK l n l.holds.length ∧ ∀ i, i < (keepL l n).holds.length → ((keepL l n).holds.getD i default).txn ≠ n := by
  have hp := legP_of hb
  obtain ⟨k1, k2⟩ := keep_ok hp n
  refine ⟨k1.mk_leg, k1.sold, ?_, gone hp (keepL_holds l n)⟩
  cases ht : thereB l n with
  | false =>
    rw [heldK_none (not_there hp ht), show (keepL l n).sold = l.sold by rw [keepL, ht]; rfl]
    simp only [sumK]
    omega
  | true =>
    have hk := thereB_t ht
    obtain ⟨c0, c1⟩ := hp.cls hk
    have e := k2 ht
    rw [heldK_at hp ht (Nat.le_refl _) hk, show (keepL l n).sold = soldV l (placeN l n) true by rw [keepL, ht]; rfl, e]
    have hs := hp.sold
    generalize (l.holds.getD (placeN l n) default).seats = s
    generalize (l.holds.getD (placeN l n) default).cls = c at c0 c1
    have hc : c.toNat < l.sold.length := by omega
    simp only [sumK]
    rw [getD_set _ hc, getD_set _ hc, getD_set _ hc]
    have hcc : c.toNat = 0 ∨ c.toNat = 1 ∨ c.toNat = 2 := by omega
    rcases hcc with e | e | e <;> rw [e] <;> simp <;> omega
end Go.Proofs.YtdoclnjmcmdfdaaGreatDoor

namespace Go.Proofs.YtdoclnjmcmdfdaaGreatDoor
set_option linter.unusedSectionVars false
open Go.Av
variable [Av.Start]
set_option maxRecDepth 10000
set_option maxHeartbeats 1000000
set_option linter.unusedSimpArgs false
set_option linter.unusedVariables false

end Go.Proofs.YtdoclnjmcmdfdaaGreatDoor

namespace Go.Proofs.YtdoclnjmcmdfdaaGreatDoor
set_option linter.unusedSectionVars false
open Go.Av
variable [Av.Start]
set_option maxRecDepth 10000
set_option maxHeartbeats 1000000
set_option linter.unusedSimpArgs false
set_option linter.unusedVariables false

end Go.Proofs.YtdoclnjmcmdfdaaGreatDoor
