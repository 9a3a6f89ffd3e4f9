/- Contracts of functions of the program (Gv). -/
import Derived.Test.YtcmpcpigchlhpaaGg
import Derived.Test.YtcmpcpigchlhpaaEc

namespace Go.Proofs.Ytcmpcpigchlhpaa
set_option linter.unusedSectionVars false
open Go.Av
variable [Av.Start]
set_option maxRecDepth 10000
set_option linter.unusedSimpArgs false
set_option linter.unusedVariables false

/-- how many elements at the front have a property -/
def whileN {α : Type} (p : α → Bool) : List α → Nat
  | [] => 0
  | x :: xs => if p x then whileN p xs + 1 else 0
omit [Av.Start] in
theorem whileN_le {α : Type} (p : α → Bool) : ∀ xs, whileN p xs ≤ xs.length
  | [] => Nat.le_refl _
  | x :: xs => by
    have := whileN_le p xs
    simp only [whileN, List.length_cons]
    split <;> omega
omit [Av.Start] in
theorem whileN_at {α : Type} {p : α → Bool} (d : α) : ∀ {xs : List α} {k : Nat}, k ≤ xs.length → (∀ i, i < k → p (xs.getD i d) = true) → (k < xs.length → p (xs.getD k d) = false) → whileN p xs = k
  | [], k, hk, _, _ => by simp only [List.length_nil] at hk; simp only [whileN]; omega
  | x :: xs, 0, _, _, h => by
    have h0 := h (by simp)
    simp only [List.getD_cons_zero] at h0
    simp [whileN, h0]
  | x :: xs, k + 1, hk, h, h' => by
    have h0 := h 0 (by omega)
    simp only [List.getD_cons_zero] at h0
    simp only [whileN, h0, if_true]
    rw [whileN_at d (k := k) (by simpa using hk) (fun i hi => by simpa using h (i + 1) (by omega)) (fun hi => by simpa using h' (by simpa using hi))]
omit [Av.Start] in
theorem whileN_lt {α : Type} {p : α → Bool} (d : α) : ∀ {xs : List α} {i : Nat}, i < whileN p xs → p (xs.getD i d) = true
  | [], i, h => by simp [whileN] at h
  | x :: xs, 0, h => by
    simp only [whileN] at h
    split at h
    · simpa
    · omega
  | x :: xs, i + 1, h => by
    simp only [whileN] at h
    split at h
    · simpa using whileN_lt d (xs := xs) (i := i) (by omega)
    · omega
def placeN (l : Leg) (n : Int) : Nat := whileN (fun o => decide (o.txn < n)) l.holds
def thereB (l : Leg) (n : Int) : Bool := decide (placeN l n < l.holds.length) && decide ((l.holds.getD (placeN l n) default).txn = n)
omit [Av.Start] in
theorem thereB_t {l : Leg} {n : Int} (h : thereB l n = true) : placeN l n < l.holds.length := by
  simp only [thereB, Bool.and_eq_true, decide_eq_true_eq] at h
  exact h.1
def dropL (l : Leg) (n : Int) : Leg := if thereB l n then { l with holds := l.holds.eraseIdx (placeN l n) } else l
omit [Av.Start] in
theorem rp_ints {h rows : Hp} {k n : Nat} {xs : List Int} (hr : ob rows k = .row (xs.map (.int .i64))) (hn : n = xs.length) : rowPart (h ++ rows) (h.length + k) 1 0 n = xs.map (.int .i64) := by
  subst hn
  rw [rowPart, ob_app, hr]
  show ((xs.map (D.int .i64)).drop (0 * 1)).take (xs.length * 1) = _
  rw [Nat.zero_mul, List.drop_zero, List.take_of_length_le (by simp)]
omit [Av.Start] in
theorem chunk_ints (xs : List Int) (n : Nat) (hn : n = xs.length) : chunk false 1 n (xs.map (.int .i64)) = xs.map (.int .i64) := by
  have := chunk_map (g := D.int .i64) (ag := false) (m := 1) (by omega) (fun _ => rfl) (fun _ => rfl) xs n hn
  rwa [show xs.flatMap (fun x => (D.int .i64 x).cells) = xs.map (D.int .i64) from (List.map_eq_flatMap ..).symm] at this
def keepL (l : Leg) (n : Int) : Leg := if thereB l n then { l with sold := soldV l (placeN l n) true, holds := l.holds.eraseIdx (placeN l n) } else l
theorem l6Copy_gives (l : Leg) (h : Hp) : Gives Try.prog 67 [l.d] h l.d := by
  refine meets_of [] mixed Try.func67 rfl (by kernel_rfl) (by kernel_rfl) (by rw [Try.ntmps67]; simp only [List.length_cons, List.length_nil]; omega) (fun hf => ?_)
  rw [Try.results67]
  obtain ⟨_, _, _, hf1, hf2, hf3, hf4⟩ := Leg.fit (hf l.d (by simp))
  clear hf
  try simp -implicitDefEqProofs only [lenMax, push_cast, Nat.reduceEqDiff, Nat.reduceBEq, Nat.reduceBNe, Nat.reduceAdd, Nat.reduceMul, Nat.reduceLT, Nat.reduceLeDiff, Nat.reduceSub, reduceCtorEq, Int.reduceToNat, ↓reduceIte]
  repeat'
    (first
     | (refine uYes ?_; first | exact List.mem_cons_self | (simp only [List.mem_cons, List.not_mem_nil, or_false, true_or, or_true]; done))
     | (refine uNo (by kernel_rfl))
     | (refine flatMk ?_; kernel_rfl)
     | (refine And.intro ?_ ?_)
     | (intro hx)
     | ((first
         | (refine callGF ?_)
         | (refine callQGF ?_)
         | (refine skipG ?_)
         | (refine callS (in_gives _ _ _ _) ?_)
         | (refine callQ (in_gives _ _ _ _) ?_)
         | (refine callG (fun hc => (in_gives _ _ _ _)) ?_)
         | (refine callQG (fun hc => (in_gives _ _ _ _)) ?_)); simp -implicitDefEqProofs only [lenMax, push_cast, Nat.reduceEqDiff, Nat.reduceBEq, Nat.reduceBNe, Nat.reduceAdd, Nat.reduceMul, Nat.reduceLT, Nat.reduceLeDiff, Nat.reduceSub, reduceCtorEq, Int.reduceToNat, ↓reduceIte]))
  all_goals first
    | omega
    | exact ints_c1 _ _ hx
    | exact holds_c1 _ _ hx
    | trace_state
end Go.Proofs.Ytcmpcpigchlhpaa

namespace Go.Proofs.Ytcmpcpigchlhpaa
set_option linter.unusedSectionVars false
open Go.Av
variable [Av.Start]
set_option maxRecDepth 10000
set_option linter.unusedSimpArgs false
set_option linter.unusedVariables false

omit [Av.Start] in
theorem LegP.rises {l : Leg} (h : LegP l) : ∀ {i j : Nat}, i < j → j < l.holds.length → (l.holds.getD i default).txn < (l.holds.getD j default).txn := by
  intro i j hij
  induction j with
  | zero => omega
  | succ j ih =>
    intro hj
    have := h.rise (j + 1) hj (by omega)
    simp only [Nat.add_sub_cancel] at this
    by_cases e : i = j
    · exact e ▸ this
    · have := ih (by omega) (by omega)
      omega
omit [Av.Start] in
theorem LegP.there_t {l : Leg} (h : LegP l) {n : Int} (ht : thereB l n = true) : heldIdx l n = placeN l n := by
  have hk := thereB_t ht
  simp only [thereB, Bool.and_eq_true, decide_eq_true_eq] at ht
  refine idxV_at default hk (fun i hi => decide_eq_false ?_) (decide_eq_true ht.2)
  have := h.rises hi hk
  omega
omit [Av.Start] in
theorem LegP.there_f {l : Leg} (h : LegP l) {n : Int} (ht : thereB l n = false) : heldIdx l n < 0 := by
  have : heldIdx l n = -1 := idxV_none default fun i hi => by
    refine decide_eq_false fun e => ?_
    have hp : placeN l n = i := whileN_at default (by omega) (fun j hj => decide_eq_true (by have := h.rises hj hi; omega)) (fun _ => decide_eq_false (by omega))
    rw [thereB, hp, decide_eq_true hi, decide_eq_true e] at ht
    cases ht
  omega
omit [Av.Start] in
theorem LegP.cls {l : Leg} (h : LegP l) {k : Nat} (hk : k < l.holds.length) : 0 ≤ (l.holds.getD k default).cls ∧ (l.holds.getD k default).cls < l.sold.length := by
  have hm : l.holds.getD k default ∈ l.holds := by
    rw [List.getD_eq_getElem?_getD, List.getElem?_eq_getElem hk]
    exact List.getElem_mem hk
  have := inB_iff.1 (h.seats _ hm).2.1
  have := h.sold
  omega
def settleL (l : Leg) (n : Int) (keep : Bool) : Leg := if thereB l n then { l with sold := soldV l (placeN l n) keep, holds := l.holds.eraseIdx (placeN l n) } else l
omit [Av.Start] in
theorem settleL_keep (l : Leg) (n : Int) : settleL l n true = keepL l n := rfl
omit [Av.Start] in
theorem settleL_drop (l : Leg) (n : Int) : settleL l n false = dropL l n := by
  rw [settleL, dropL]; rfl

omit [Av.Start] in
theorem legAt7 (h : Hp) (a b c : Ob) (l : Leg) : LegAt (h ++ [a, b, .row (l.limits.map (.int .i64)), .row (l.sold.map (.int .i64)), .row (l.bids.map (.int .i64)), .row (l.holds.flatMap Hold.cs), c]) (h.length + 2) l :=
  ⟨ob_app h _ 2, ob_app h _ 3, ob_app h _ 4, ob_app h _ 5, by simp⟩
/-- a leg's cells with its slices in four given rows -/
def Leg.at4 (l : Leg) (a b c d k : Nat) : List D := [.str l.name, .str l.src, .str l.dst, .int .i64 l.dep, .int .i64 l.arr, .int .i64 l.cap, .vec a false 1 0 l.limits.length l.limits.length, .vec b false 1 0 l.sold.length l.sold.length, .vec c false 1 0 l.bids.length l.bids.length, .vec d true 3 0 k k]
omit [Av.Start] in
theorem Leg.at4_ren (l : Leg) {n j a b c d a' b' c' d' k : Nat} (ha : ∀ ag sz len cp, Ren n j (.vec a' ag sz 0 len cp) (.vec a ag sz 0 len cp)) (hb : ∀ ag sz len cp, Ren n j (.vec b' ag sz 0 len cp) (.vec b ag sz 0 len cp)) (hc : ∀ ag sz len cp, Ren n j (.vec c' ag sz 0 len cp) (.vec c ag sz 0 len cp)) (hd : ∀ ag sz len cp, Ren n j (.vec d' ag sz 0 len cp) (.vec d ag sz 0 len cp)) :
    ∀ i (h1 : i < (l.at4 a' b' c' d' k).length) (h2 : i < (l.at4 a b c d k).length), Ren n j ((l.at4 a' b' c' d' k)[i]) ((l.at4 a b c d k)[i]) := by
  intro i h1 h2
  match i, h2 with
  | 0, _ => exact .str _
  | 1, _ => exact .str _
  | 2, _ => exact .str _
  | 3, _ => exact .int _ _
  | 4, _ => exact .int _ _
  | 5, _ => exact .int _ _
  | 6, _ => exact ha _ _ _ _
  | 7, _ => exact hb _ _ _ _
  | 8, _ => exact hc _ _ _ _
  | 9, _ => exact hd _ _ _ _
omit [Av.Start] in
theorem holds_ren' (xs : List Hold) (n k : Nat) (a b c : Int) : RenOb n k (.row (xs.flatMap Hold.cs ++ [.int .i64 a, .int .i64 b, .int .i64 c])) (.row (xs.flatMap Hold.cs ++ [.int .i64 a, .int .i64 b, .int .i64 c])) := .row _ _ rfl (fun j h1 h2 => by
  have hm := List.getElem_mem h1
  rcases List.mem_append.1 hm with hm | hm
  · obtain ⟨x, _, hd⟩ := List.mem_flatMap.1 hm
    simp only [Hold.cs, List.mem_cons, List.not_mem_nil, or_false] at hd
    rcases hd with e | e | e <;> rw [e] <;> exact .int _ _
  · simp only [List.mem_cons, List.not_mem_nil, or_false] at hm
    rcases hm with e | e | e <;> rw [e] <;> exact .int _ _)
omit [Av.Start] in
theorem hold_ren (x : Hold) (n k : Nat) : RenOb n k (.row x.cs) (.row x.cs) := .row _ _ rfl (fun j h1 h2 => by
  match j, h2 with
  | 0, _ => exact .int _ _
  | 1, _ => exact .int _ _
  | 2, _ => exact .int _ _)
end Go.Proofs.Ytcmpcpigchlhpaa
