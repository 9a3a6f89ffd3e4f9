/- Contracts of functions of the program (Gv). -/
import Derived.Test.YthopahcgbbkblaaGreatDoorGg
import Derived.Test.YthopahcgbbkblaaGreatDoorEc

namespace Go.Proofs.YthopahcgbbkblaaGreatDoor
set_option linter.unusedSectionVars false
open Go.Av
variable [Av.Start]
set_option maxRecDepth 10000
set_option linter.unusedSimpArgs false
set_option linter.unusedVariables false

/-- how many elements at the front have a property -/
def whileN {α : Type} (p : α → Bool) : List α → Nat
  | [] => 0
  | x :: xs => if p x then whileN p xs + 1 else 0
omit [Av.Start] in
theorem whileN_le {α : Type} (p : α → Bool) : ∀ xs, whileN p xs ≤ xs.length
  | [] => Nat.le_refl _
  | x :: xs => by
    have := whileN_le p xs
    simp only [whileN, List.length_cons]
    split <;> omega
omit [Av.Start] in
theorem whileN_at {α : Type} {p : α → Bool} (d : α) : ∀ {xs : List α} {k : Nat}, k ≤ xs.length → (∀ i, i < k → p (xs.getD i d) = true) → (k < xs.length → p (xs.getD k d) = false) → whileN p xs = k
  | [], k, hk, _, _ => by simp only [List.length_nil] at hk; simp only [whileN]; omega
  | x :: xs, 0, _, _, h => by
    have h0 := h (by simp)
    simp only [List.getD_cons_zero] at h0
    simp [whileN, h0]
  | x :: xs, k + 1, hk, h, h' => by
    have h0 := h 0 (by omega)
    simp only [List.getD_cons_zero] at h0
    simp only [whileN, h0, if_true]
    rw [whileN_at d (k := k) (by simpa using hk) (fun i hi => by simpa using h (i + 1) (by omega)) (fun hi => by simpa using h' (by simpa using hi))]
omit [Av.Start] in
theorem whileN_lt {α : Type} {p : α → Bool} (d : α) : ∀ {xs : List α} {i : Nat}, i < whileN p xs → p (xs.getD i d) = true
  | [], i, h => by simp [whileN] at h
  | x :: xs, 0, h => by
    simp only [whileN] at h
    split at h
    · simpa
    · omega
  | x :: xs, i + 1, h => by
    simp only [whileN] at h
    split at h
    · simpa using whileN_lt d (xs := xs) (i := i) (by omega)
    · omega
def placeN (l : Leg) (n : Int) : Nat := whileN (fun o => decide (o.txn < n)) l.holds
def thereB (l : Leg) (n : Int) : Bool := decide (placeN l n < l.holds.length) && decide ((l.holds.getD (placeN l n) default).txn = n)
theorem l6Held_gives (l : Leg) (n : Int) (h : Hp) : Gives Tryz.prog 53 [l.d, .int .i64 n] h (.tup [.int .i64 (placeN l n), .bool (thereB l n)]) := by
  refine meets_of [] mixed Tryz.func53 rfl (by kernel_rfl) (by kernel_rfl) (by rw [Tryz.ntmps53]; simp only [List.length_cons, List.length_nil]; omega) (fun hf => ?_)
  rw [Tryz.results53]
  obtain ⟨_, _, _, _, _, hf1, hf2⟩ := Leg.fit (hf l.d (by simp))
  clear hf
  simp -implicitDefEqProofs only [push_cast, Nat.reduceEqDiff, Nat.reduceBEq, Nat.reduceBNe, Nat.reduceAdd, Nat.reduceMul, Nat.reduceLT, Nat.reduceLeDiff, Nat.reduceSub, reduceCtorEq, Int.reduceToNat, ↓reduceIte]
  refine ev_loop [] (fun k : Nat => [(1, .int .i64 n), (2, .ptr h.length 0), (6, .int .i64 k)])
    (fun _ => [.row l.cs]) (fun k => k ≤ l.holds.length ∧ ∀ i, i < k → (l.holds.getD i default).txn < n) (fun k => l.holds.length - k) 0 trivial ⟨Nat.zero_le _, fun i hi => absurd hi (Nat.not_lt_zero i)⟩ ?_ ?_
  · refine ⟨1, by simp, by simp [tokSts], ?_⟩
    simp -implicitDefEqProofs only [Int.natCast_add, Int.cast_ofNat_Int, List.length_nil, Nat.le_refl, WeakTo, tokSts, tokOks, List.append_cancel_left_eq, exists_eq_left', exists_eq_left, List.append_cancel_left_eq, List.take_length, ObCl, and_true, true_and, push_cast, Nat.reduceEqDiff, Nat.reduceBEq, Nat.reduceBNe, Nat.reduceAdd, Nat.reduceMul, Nat.reduceLT, Nat.reduceLeDiff, Nat.reduceSub, reduceCtorEq, Int.reduceToNat, ↓reduceIte]
  · intro k hk
    have hw : IntKind.i64.wrap ((k : Int) + 1) = k + 1 := wrap_id (by omega) (by omega)
    try simp -implicitDefEqProofs only [hw, push_cast, Nat.reduceEqDiff, Nat.reduceBEq, Nat.reduceBNe, Nat.reduceAdd, Nat.reduceMul, Nat.reduceLT, Nat.reduceLeDiff, Nat.reduceSub, reduceCtorEq, Int.reduceToNat, ↓reduceIte]
    repeat'
      (first
       | (refine uYes ?_; first | exact List.mem_cons_self | (simp only [List.mem_cons, List.not_mem_nil, or_false, true_or, or_true]; done))
       | (refine uNo (by kernel_rfl))
       | (refine flatMk ?_; kernel_rfl)
       | (refine And.intro ?_ ?_)
       | (intro hx)
       | ((first
           | (refine callGF ?_)
           | (refine callQGF ?_)
           | (refine skipG ?_)
           | (refine callS (in_gives ..) ?_)
           | (refine callQ (in_gives ..) ?_)
           | (refine callG (fun hc => (in_gives ..)) ?_)
           | (refine callQG (fun hc => (in_gives ..)) ?_)); simp -implicitDefEqProofs only [hw, push_cast, Nat.reduceEqDiff, Nat.reduceBEq, Nat.reduceBNe, Nat.reduceAdd, Nat.reduceMul, Nat.reduceLT, Nat.reduceLeDiff, Nat.reduceSub, reduceCtorEq, Int.reduceToNat, ↓reduceIte]))
    all_goals first
      | omega
      | (refine round_mk (k + 1) ⟨by omega, fun i hi => ?_⟩ (by omega) ?_
         · by_cases e : i = k
           · subst e; exact hx.2
           · exact hk.2 i (by omega)
         · simp -implicitDefEqProofs only [hw, Int.natCast_add, Int.cast_ofNat_Int, List.length_nil, Nat.le_refl, WeakTo, tokSts, tokOks, List.append_cancel_left_eq, exists_eq_left', exists_eq_left, List.append_cancel_left_eq, List.take_length, ObCl, and_true, true_and, push_cast, Nat.reduceEqDiff, Nat.reduceBEq, Nat.reduceBNe, Nat.reduceAdd, Nat.reduceMul, Nat.reduceLT, Nat.reduceLeDiff, Nat.reduceSub, reduceCtorEq, Int.reduceToNat, ↓reduceIte])
      | (have e : placeN l n = k := whileN_at default hk.1 (fun i hi => decide_eq_true (hk.2 i hi)) (by grind)
         simp only [thereB, e]
         try grind)
      | trace_state

omit [Av.Start] in
theorem thereB_t {l : Leg} {n : Int} (h : thereB l n = true) : placeN l n < l.holds.length := by
  simp only [thereB, Bool.and_eq_true, decide_eq_true_eq] at h
  exact h.1
def dropL (l : Leg) (n : Int) : Leg := if thereB l n then { l with holds := l.holds.eraseIdx (placeN l n) } else l
theorem l6Drop_gives (l : Leg) (n : Int) (h : Hp) : Gives Tryz.prog 57 [l.d, .int .i64 n] h (dropL l n).d := by
  cases ht : thereB l n with
  | false =>
    rw [dropL, ht]
    show Gives _ _ _ _ l.d
    refine meets_of [] mixed Tryz.func57 rfl (by kernel_rfl) (by kernel_rfl) (by rw [Tryz.ntmps57]; simp only [List.length_cons, List.length_nil]; omega) (fun hf => ?_)
    rw [Tryz.results57]
    try simp -implicitDefEqProofs only [ht, push_cast, Nat.reduceEqDiff, Nat.reduceBEq, Nat.reduceBNe, Nat.reduceAdd, Nat.reduceMul, Nat.reduceLT, Nat.reduceLeDiff, Nat.reduceSub, reduceCtorEq, Int.reduceToNat, ↓reduceIte]
    repeat'
      (first
       | (refine uYes ?_; first | exact List.mem_cons_self | (simp only [List.mem_cons, List.not_mem_nil, or_false, true_or, or_true]; done))
       | (refine uNo (by kernel_rfl))
       | (refine flatMk ?_; kernel_rfl)
       | (refine And.intro ?_ ?_)
       | (intro hx)
       | ((first
           | (refine callGF ?_)
           | (refine callQGF ?_)
           | (refine skipG ?_)
           | (refine callS (l6Held_gives l n _) ?_)
           | (refine callQ (l6Held_gives l n _) ?_)
           | (refine callG (fun hc => (l6Held_gives l n _)) ?_)
           | (refine callQG (fun hc => (l6Held_gives l n _)) ?_)); simp -implicitDefEqProofs only [ht, push_cast, Nat.reduceEqDiff, Nat.reduceBEq, Nat.reduceBNe, Nat.reduceAdd, Nat.reduceMul, Nat.reduceLT, Nat.reduceLeDiff, Nat.reduceSub, reduceCtorEq, Int.reduceToNat, ↓reduceIte]))
    all_goals rfl
  | true =>
    rw [dropL, ht]
    show Gives _ _ _ _ (Leg.d { l with holds := l.holds.eraseIdx (placeN l n) })
    refine meets_of [] mixed Tryz.func57 rfl (by kernel_rfl) (by kernel_rfl) (by rw [Tryz.ntmps57]; simp only [List.length_cons, List.length_nil]; omega) (fun hf => ?_)
    rw [Tryz.results57]
    obtain ⟨_, _, _, _, _, hf1, hf2⟩ := Leg.fit (hf l.d (by simp))
    clear hf
    have hk := thereB_t ht
    have hw : IntKind.i64.wrap ((placeN l n : Int) + 1) = placeN l n + 1 := wrap_id (by omega) (by omega)
    have hp : ((placeN l n : Int) + 1).toNat = placeN l n + 1 := by omega
    have hmin : min (placeN l n) l.holds.length = placeN l n := by omega
    try simp -implicitDefEqProofs only [ht, hw, hp, lenMax, hmin, push_cast, Nat.reduceEqDiff, Nat.reduceBEq, Nat.reduceBNe, Nat.reduceAdd, Nat.reduceMul, Nat.reduceLT, Nat.reduceLeDiff, Nat.reduceSub, reduceCtorEq, Int.reduceToNat, ↓reduceIte]
    repeat'
      (first
       | (refine uYes ?_; first | exact List.mem_cons_self | (simp only [List.mem_cons, List.not_mem_nil, or_false, true_or, or_true]; done))
       | (refine uNo (by kernel_rfl))
       | (refine flatMk ?_; kernel_rfl)
       | (refine And.intro ?_ ?_)
       | (intro hx)
       | ((first
           | (refine inX_mk [] (by kernel_rfl) (by simp) ?_)
           | (refine callGF ?_)
           | (refine callQGF ?_)
           | (refine skipG ?_)
           | (refine callS (l6Held_gives l n _) ?_)
           | (refine callQ (l6Held_gives l n _) ?_)
           | (refine callG (fun hc => (l6Held_gives l n _)) ?_)
           | (refine callQG (fun hc => (l6Held_gives l n _)) ?_)
           | (refine callXG (fun _ => (l6Held_gives l n _)) ?_)); simp -implicitDefEqProofs only [ht, hw, hp, lenMax, hmin, push_cast, Nat.reduceEqDiff, Nat.reduceBEq, Nat.reduceBNe, Nat.reduceAdd, Nat.reduceMul, Nat.reduceLT, Nat.reduceLeDiff, Nat.reduceSub, reduceCtorEq, Int.reduceToNat, ↓reduceIte]))
    all_goals first
      | omega
      | (rw [List.eraseIdx_eq_take_drop_succ, List.map_append]; done)
      | exact holds_c1 _ _ hx
      | trace_state

omit [Av.Start] in
theorem rp_ints {h rows : Hp} {k n : Nat} {xs : List Int} (hr : ob rows k = .row (xs.map (.int .i64))) (hn : n = xs.length) : rowPart (h ++ rows) (h.length + k) 1 0 n = xs.map (.int .i64) := by
  subst hn
  rw [rowPart, ob_app, hr]
  show ((xs.map (D.int .i64)).drop (0 * 1)).take (xs.length * 1) = _
  rw [Nat.zero_mul, List.drop_zero, List.take_of_length_le (by simp)]
omit [Av.Start] in
theorem chunk_ints (xs : List Int) (n : Nat) (hn : n = xs.length) : chunk false 1 n (xs.map (.int .i64)) = xs.map (.int .i64) := by
  have := chunk_map (g := D.int .i64) (ag := false) (m := 1) (by omega) (fun _ => rfl) (fun _ => rfl) xs n hn
  rwa [show xs.flatMap (fun x => (D.int .i64 x).cells) = xs.map (D.int .i64) from (List.map_eq_flatMap ..).symm] at this
def keepL (l : Leg) (n : Int) : Leg := if thereB l n then { l with sold := soldV l (placeN l n) true, holds := l.holds.eraseIdx (placeN l n) } else l
theorem l6Keep_gives (l : Leg) (n : Int) (h : Hp) (hc : thereB l n = true → 0 ≤ (l.holds.getD (placeN l n) default).cls ∧ (l.holds.getD (placeN l n) default).cls < l.sold.length) : Gives Tryz.prog 32 [l.d, .int .i64 n] h (keepL l n).d := by
  cases ht : thereB l n with
  | false =>
    rw [keepL, ht]
    show Gives _ _ _ _ l.d
    refine meets_of [] mixed Tryz.func32 rfl (by kernel_rfl) (by kernel_rfl) (by rw [Tryz.ntmps32]; simp only [List.length_cons, List.length_nil]; omega) (fun hf => ?_)
    rw [Tryz.results32]
    try simp -implicitDefEqProofs only [ht, push_cast, Nat.reduceEqDiff, Nat.reduceBEq, Nat.reduceBNe, Nat.reduceAdd, Nat.reduceMul, Nat.reduceLT, Nat.reduceLeDiff, Nat.reduceSub, reduceCtorEq, Int.reduceToNat, ↓reduceIte]
    repeat'
      (first
       | (refine uYes ?_; first | exact List.mem_cons_self | (simp only [List.mem_cons, List.not_mem_nil, or_false, true_or, or_true]; done))
       | (refine uNo (by kernel_rfl))
       | (refine flatMk ?_; kernel_rfl)
       | (refine And.intro ?_ ?_)
       | (intro hx)
       | ((first
           | (refine callGF ?_)
           | (refine callQGF ?_)
           | (refine skipG ?_)
           | (refine callS (l6Held_gives l n _) ?_)
           | (refine callQ (l6Held_gives l n _) ?_)
           | (refine callG (fun hc => (l6Held_gives l n _)) ?_)
           | (refine callQG (fun hc => (l6Held_gives l n _)) ?_)); simp -implicitDefEqProofs only [ht, push_cast, Nat.reduceEqDiff, Nat.reduceBEq, Nat.reduceBNe, Nat.reduceAdd, Nat.reduceMul, Nat.reduceLT, Nat.reduceLeDiff, Nat.reduceSub, reduceCtorEq, Int.reduceToNat, ↓reduceIte]))
    all_goals rfl
  | true =>
    have hcc := hc ht
    rw [keepL, ht]
    show Gives _ _ _ _ (Leg.d { l with sold := soldV l (placeN l n) true, holds := l.holds.eraseIdx (placeN l n) })
    have hd0 : dropL l n = { l with holds := l.holds.eraseIdx (placeN l n) } := by rw [dropL, ht]; rfl
    refine meets_of [28] mixed Tryz.func32 rfl (by kernel_rfl) (by kernel_rfl) (by rw [Tryz.ntmps32]; simp only [List.length_cons, List.length_nil]; omega) (fun hf => ?_)
    rw [Tryz.results32]
    obtain ⟨_, _, _, _, _, hf1, hf2⟩ := Leg.fit (hf l.d (by simp))
    clear hf
    have hk := thereB_t ht
    have hcn : (l.holds.getD (placeN l n) default).cls.toNat < l.sold.length := by omega
    have hip := int_part l.sold hcn
    have his := fun v => int_splice l.sold hcn v
    have hrp : ∀ a b c v, rowPart (h ++ [a, b, c, .row ((l.sold.set (l.holds.getD (placeN l n) default).cls.toNat v).map (.int .i64))]) (h.length + 3) 1 0 l.sold.length = (l.sold.set (l.holds.getD (placeN l n) default).cls.toNat v).map (.int .i64) := fun a b c v => rp_ints rfl (by simp)
    try simp -implicitDefEqProofs only [ht, hd0, hip, his, lenMax, hrp, List.length_set, push_cast, Nat.reduceEqDiff, Nat.reduceBEq, Nat.reduceBNe, Nat.reduceAdd, Nat.reduceMul, Nat.reduceLT, Nat.reduceLeDiff, Nat.reduceSub, reduceCtorEq, Int.reduceToNat, ↓reduceIte]
    repeat'
      (first
       | (refine uYes ?_; first | exact List.mem_cons_self | (simp only [List.mem_cons, List.not_mem_nil, or_false, true_or, or_true]; done))
       | (refine uNo (by kernel_rfl))
       | (refine flatMk ?_; kernel_rfl)
       | (refine And.intro ?_ ?_)
       | (intro hx)
       | ((first
           | (refine inX_mk [] (by kernel_rfl) (by simp) ?_)
           | (refine callGF ?_)
           | (refine callQGF ?_)
           | (refine skipG ?_)
           | (refine callS (l6Held_gives l n _) ?_)
           | (refine callQ (l6Held_gives l n _) ?_)
           | (refine callG (fun hc => (l6Held_gives l n _)) ?_)
           | (refine callQG (fun hc => (l6Held_gives l n _)) ?_)
           | (refine callXG (fun _ => (l6Held_gives l n _)) ?_)
           | (refine callS (l6Drop_gives l n _) ?_)
           | (refine callQ (l6Drop_gives l n _) ?_)
           | (refine callG (fun hc => (l6Drop_gives l n _)) ?_)
           | (refine callQG (fun hc => (l6Drop_gives l n _)) ?_)
           | (refine callXG (fun _ => (l6Drop_gives l n _)) ?_)); simp -implicitDefEqProofs only [ht, hd0, hip, his, lenMax, hrp, List.length_set, push_cast, Nat.reduceEqDiff, Nat.reduceBEq, Nat.reduceBNe, Nat.reduceAdd, Nat.reduceMul, Nat.reduceLT, Nat.reduceLeDiff, Nat.reduceSub, reduceCtorEq, Int.reduceToNat, ↓reduceIte]))
    all_goals first
      | omega
      | exact ints_c1 _ _ hx
      | exact ints_cl _ _ _ hx
      | exact chunk_ints _ _ (by simp)
      | (obtain ⟨y, _, rfl⟩ := List.mem_map.1 hx; rfl)
      | trace_state

theorem l6Copy_gives (l : Leg) (h : Hp) : Gives Tryz.prog 33 [l.d] h l.d := by
  refine meets_of [] mixed Tryz.func33 rfl (by kernel_rfl) (by kernel_rfl) (by rw [Tryz.ntmps33]; simp only [List.length_cons, List.length_nil]; omega) (fun hf => ?_)
  rw [Tryz.results33]
  obtain ⟨_, _, _, hf1, hf2, hf3, hf4⟩ := Leg.fit (hf l.d (by simp))
  clear hf
  try simp -implicitDefEqProofs only [lenMax, push_cast, Nat.reduceEqDiff, Nat.reduceBEq, Nat.reduceBNe, Nat.reduceAdd, Nat.reduceMul, Nat.reduceLT, Nat.reduceLeDiff, Nat.reduceSub, reduceCtorEq, Int.reduceToNat, ↓reduceIte]
  repeat'
    (first
     | (refine uYes ?_; first | exact List.mem_cons_self | (simp only [List.mem_cons, List.not_mem_nil, or_false, true_or, or_true]; done))
     | (refine uNo (by kernel_rfl))
     | (refine flatMk ?_; kernel_rfl)
     | (refine And.intro ?_ ?_)
     | (intro hx)
     | ((first
         | (refine callGF ?_)
         | (refine callQGF ?_)
         | (refine skipG ?_)
         | (refine callS (in_gives _ _ _ _) ?_)
         | (refine callQ (in_gives _ _ _ _) ?_)
         | (refine callG (fun hc => (in_gives _ _ _ _)) ?_)
         | (refine callQG (fun hc => (in_gives _ _ _ _)) ?_)); simp -implicitDefEqProofs only [lenMax, push_cast, Nat.reduceEqDiff, Nat.reduceBEq, Nat.reduceBNe, Nat.reduceAdd, Nat.reduceMul, Nat.reduceLT, Nat.reduceLeDiff, Nat.reduceSub, reduceCtorEq, Int.reduceToNat, ↓reduceIte]))
  all_goals first
    | omega
    | exact ints_c1 _ _ hx
    | exact holds_c1 _ _ hx
    | trace_state
end Go.Proofs.YthopahcgbbkblaaGreatDoor

namespace Go.Proofs.YthopahcgbbkblaaGreatDoor
set_option linter.unusedSectionVars false
open Go.Av
variable [Av.Start]
set_option maxRecDepth 10000
set_option linter.unusedSimpArgs false
set_option linter.unusedVariables false

omit [Av.Start] in
theorem LegP.rises {l : Leg} (h : LegP l) : ∀ {i j : Nat}, i < j → j < l.holds.length → (l.holds.getD i default).txn < (l.holds.getD j default).txn := by
  intro i j hij
  induction j with
  | zero => omega
  | succ j ih =>
    intro hj
    have := h.rise (j + 1) hj (by omega)
    simp only [Nat.add_sub_cancel] at this
    by_cases e : i = j
    · exact e ▸ this
    · have := ih (by omega) (by omega)
      omega
omit [Av.Start] in
theorem LegP.there_t {l : Leg} (h : LegP l) {n : Int} (ht : thereB l n = true) : heldIdx l n = placeN l n := by
  have hk := thereB_t ht
  simp only [thereB, Bool.and_eq_true, decide_eq_true_eq] at ht
  refine idxV_at default hk (fun i hi => decide_eq_false ?_) (decide_eq_true ht.2)
  have := h.rises hi hk
  omega
omit [Av.Start] in
theorem LegP.there_f {l : Leg} (h : LegP l) {n : Int} (ht : thereB l n = false) : heldIdx l n < 0 := by
  have : heldIdx l n = -1 := idxV_none default fun i hi => by
    refine decide_eq_false fun e => ?_
    have hp : placeN l n = i := whileN_at default (by omega) (fun j hj => decide_eq_true (by have := h.rises hj hi; omega)) (fun _ => decide_eq_false (by omega))
    rw [thereB, hp, decide_eq_true hi, decide_eq_true e] at ht
    cases ht
  omega
omit [Av.Start] in
theorem LegP.cls {l : Leg} (h : LegP l) {k : Nat} (hk : k < l.holds.length) : 0 ≤ (l.holds.getD k default).cls ∧ (l.holds.getD k default).cls < l.sold.length := by
  have hm : l.holds.getD k default ∈ l.holds := by
    rw [List.getD_eq_getElem?_getD, List.getElem?_eq_getElem hk]
    exact List.getElem_mem hk
  have := inB_iff.1 (h.seats _ hm).2.1
  have := h.sold
  omega
def settleL (l : Leg) (n : Int) (keep : Bool) : Leg := if thereB l n then { l with sold := soldV l (placeN l n) keep, holds := l.holds.eraseIdx (placeN l n) } else l
omit [Av.Start] in
theorem settleL_keep (l : Leg) (n : Int) : settleL l n true = keepL l n := rfl
omit [Av.Start] in
theorem settleL_drop (l : Leg) (n : Int) : settleL l n false = dropL l n := by
  rw [settleL, dropL]; rfl

omit [Av.Start] in
theorem legAt7 (h : Hp) (a b c : Ob) (l : Leg) : LegAt (h ++ [a, b, .row (l.limits.map (.int .i64)), .row (l.sold.map (.int .i64)), .row (l.bids.map (.int .i64)), .row (l.holds.flatMap Hold.cs), c]) (h.length + 2) l :=
  ⟨ob_app h _ 2, ob_app h _ 3, ob_app h _ 4, ob_app h _ 5, by simp⟩
theorem dropR7 (l : Leg) (k : Nat) (n : Int) (keep : Bool) (h : Hp) (a b : Ob) (hn : heldIdx l n = k) (hk : k < l.holds.length) (hc : 0 ≤ (l.holds.getD k default).cls ∧ (l.holds.getD k default).cls < l.sold.length) (hh : l.holds.length ≤ 1073741824) :
    Meets Tryz.prog 102 [.ptr (h.length + 6) 0, .int .i64 n, .bool keep] (h ++ [a, b, .row (l.limits.map (.int .i64)), .row (l.sold.map (.int .i64)), .row (l.bids.map (.int .i64)), .row (l.holds.flatMap Hold.cs), .row (l.dvc (h.length + 2))]) fun d' h' => d' = .tup [] ∧
      h' = h ++ [a, b, .row (l.limits.map (.int .i64)), .row ((soldV l k keep).map (.int .i64)), .row (l.bids.map (.int .i64)), .row ((l.holds.eraseIdx k).flatMap Hold.cs ++ [.int .i64 0, .int .i64 0, .int .i64 0]), .row (splice (l.dvc (h.length + 2)) 9 [.vec (h.length + 8) true 3 0 (l.holds.length - 1) (l.holds.length - 1)]),
        .row (l.holds.getD k default).cs, .row ((l.holds.eraseIdx k).flatMap Hold.cs)] := by
  have := dropR_some l (h.length + 6) (h.length + 2) k n keep _ (ob_app h _ 6) (by simp) (legAt7 h a b (.row (l.dvc (h.length + 2))) l) (.inr (by omega)) hn hk hc hh
  have e : ∀ x y z : Ob, ∀ ls : Hp, ∀ w : List Ob, ((((if keep then (h ++ ls).set (h.length + 2 + 1) x else h ++ ls).set (h.length + 2 + 3) y).set (h.length + 6) z) ++ w) = h ++ (((if keep then ls.set 3 x else ls).set 5 y).set 6 z ++ w) := fun x y z ls w => by
    rw [show h.length + 2 + 1 = h.length + 3 from rfl, show h.length + 2 + 3 = h.length + 5 from rfl]
    cases keep <;> simp only [Bool.false_eq_true, if_false, if_true, set_app, List.append_assoc]
  rw [e, List.length_append] at this
  have e2 : ∀ a b c d e f g y z : Ob, ((((if keep then [a, b, c, d, e, f, g].set 3 (.row ((soldV l k keep).map (.int .i64))) else [a, b, c, .row (l.sold.map (.int .i64)), e, f, g]).set 5 y).set 6 z)) = [a, b, c, .row ((soldV l k keep).map (.int .i64)), e, y, z] := fun a b c d e f g y z => by
    cases keep <;> rfl
  rw [e2 a b _ (.row (l.sold.map (.int .i64)))] at this
  exact this
/-- a leg's cells with its slices in four given rows -/
def Leg.at4 (l : Leg) (a b c d k : Nat) : List D := [.str l.name, .str l.src, .str l.dst, .int .i64 l.dep, .int .i64 l.arr, .int .i64 l.cap, .vec a false 1 0 l.limits.length l.limits.length, .vec b false 1 0 l.sold.length l.sold.length, .vec c false 1 0 l.bids.length l.bids.length, .vec d true 3 0 k k]
omit [Av.Start] in
theorem Leg.at4_ren (l : Leg) {n j a b c d a' b' c' d' k : Nat} (ha : ∀ ag sz len cp, Ren n j (.vec a' ag sz 0 len cp) (.vec a ag sz 0 len cp)) (hb : ∀ ag sz len cp, Ren n j (.vec b' ag sz 0 len cp) (.vec b ag sz 0 len cp)) (hc : ∀ ag sz len cp, Ren n j (.vec c' ag sz 0 len cp) (.vec c ag sz 0 len cp)) (hd : ∀ ag sz len cp, Ren n j (.vec d' ag sz 0 len cp) (.vec d ag sz 0 len cp)) :
    ∀ i (h1 : i < (l.at4 a' b' c' d' k).length) (h2 : i < (l.at4 a b c d k).length), Ren n j ((l.at4 a' b' c' d' k)[i]) ((l.at4 a b c d k)[i]) := by
  intro i h1 h2
  match i, h2 with
  | 0, _ => exact .str _
  | 1, _ => exact .str _
  | 2, _ => exact .str _
  | 3, _ => exact .int _ _
  | 4, _ => exact .int _ _
  | 5, _ => exact .int _ _
  | 6, _ => exact ha _ _ _ _
  | 7, _ => exact hb _ _ _ _
  | 8, _ => exact hc _ _ _ _
  | 9, _ => exact hd _ _ _ _
omit [Av.Start] in
theorem holds_ren' (xs : List Hold) (n k : Nat) (a b c : Int) : RenOb n k (.row (xs.flatMap Hold.cs ++ [.int .i64 a, .int .i64 b, .int .i64 c])) (.row (xs.flatMap Hold.cs ++ [.int .i64 a, .int .i64 b, .int .i64 c])) := .row _ _ rfl (fun j h1 h2 => by
  have hm := List.getElem_mem h1
  rcases List.mem_append.1 hm with hm | hm
  · obtain ⟨x, _, hd⟩ := List.mem_flatMap.1 hm
    simp only [Hold.cs, List.mem_cons, List.not_mem_nil, or_false] at hd
    rcases hd with e | e | e <;> rw [e] <;> exact .int _ _
  · simp only [List.mem_cons, List.not_mem_nil, or_false] at hm
    rcases hm with e | e | e <;> rw [e] <;> exact .int _ _)
omit [Av.Start] in
theorem hold_ren (x : Hold) (n k : Nat) : RenOb n k (.row x.cs) (.row x.cs) := .row _ _ rfl (fun j h1 h2 => by
  match j, h2 with
  | 0, _ => exact .int _ _
  | 1, _ => exact .int _ _
  | 2, _ => exact .int _ _)
end Go.Proofs.YthopahcgbbkblaaGreatDoor
