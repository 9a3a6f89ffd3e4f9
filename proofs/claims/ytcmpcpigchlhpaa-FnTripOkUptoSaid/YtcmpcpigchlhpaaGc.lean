/- Contracts of functions of the program (Gc). -/
import Derived.Test.YtcmpcpigchlhpaaGa
import Derived.Test.YtcmpcpigchlhpaaGb

namespace Go.Proofs.Ytcmpcpigchlhpaa
set_option linter.unusedSectionVars false
open Go.Av
variable [Av.Start]
set_option maxRecDepth 10000
set_option maxHeartbeats 1000000
set_option linter.unusedSimpArgs false
set_option linter.unusedVariables false

/-- a row of n elements of which the first k are laid -/
def fillRow {α : Type} (f : α → List D) (z : List D) (xs : List α) (k : Nat) : List D := (xs.take k).flatMap f ++ zeros z (xs.length - k)
omit [Av.Start] in
theorem zeros_length (z : List D) (n : Nat) : (zeros z n).length = n * z.length := by
  simp [zeros, List.length_flatten]
omit [Av.Start] in
theorem flatMap_length {α : Type} {f : α → List D} {m : Nat} (hf : ∀ x, (f x).length = m) : ∀ xs : List α, (xs.flatMap f).length = xs.length * m
  | [] => by simp
  | x :: xs => by rw [List.flatMap_cons, List.length_append, hf, flatMap_length hf xs, List.length_cons, Nat.succ_mul]; omega
omit [Av.Start] in
theorem fillRow_length {α : Type} {f : α → List D} {z : List D} {m : Nat} (hf : ∀ x, (f x).length = m) (hz : z.length = m) (xs : List α) {k : Nat} (hk : k ≤ xs.length) : (fillRow f z xs k).length = xs.length * m := by
  rw [fillRow, List.length_append, flatMap_length hf, zeros_length, hz, List.length_take, ← Nat.add_mul]
  congr 1
  omega
omit [Av.Start] in
theorem fillRow_zero {α : Type} (f : α → List D) (z : List D) (xs : List α) : fillRow f z xs 0 = zeros z xs.length := by simp [fillRow]
omit [Av.Start] in
theorem fillRow_splice {α : Type} {f : α → List D} {z : List D} {m : Nat} (hf : ∀ x, (f x).length = m) (hz : z.length = m) (xs : List α) (d : α) {k : Nat} (hk : k < xs.length) :
    splice (fillRow f z xs k) (k * m) (f (xs.getD k d)) = fillRow f z xs (k + 1) := by
  have h1 : ((xs.take k).flatMap f).length = k * m := by rw [flatMap_length hf, List.length_take]; congr 1; omega
  have h2 : xs.length - k = (xs.length - (k + 1)) + 1 := by omega
  rw [splice, fillRow, fillRow, take_succ_getD xs d hk, List.flatMap_append, h2, zeros, List.replicate_succ, List.flatten_cons]
  rw [List.take_append_of_le_length (by omega), List.take_of_length_le (by omega), hf, List.drop_append, List.drop_of_length_le (by omega), h1]
  rw [show k * m + m - k * m = m by omega, List.drop_append_of_le_length (by omega), List.drop_of_length_le (by omega)]
  simp [zeros]
omit [Av.Start] in
theorem chunk_map {α : Type} {g : α → D} {ag : Bool} {m : Nat} (h0 : 0 < m) (hg : ∀ x, (if ag then D.agg ((g x).cells) else ((g x).cells).headD .junk) = g x) (hm : ∀ x, (g x).cells.length = m) : ∀ (xs : List α) (n : Nat), n = xs.length → chunk ag m n (xs.flatMap fun x => (g x).cells) = xs.map g
  | [], n, h => by subst h; rfl
  | x :: xs, n, h => by
    subst h
    have hx := hg x
    rw [List.length_cons, chunk, List.flatMap_cons, List.map_cons]
    have e1 : ((g x).cells ++ xs.flatMap fun x => (g x).cells).take m = (g x).cells := by
      rw [List.take_append_of_le_length (by rw [hm]; omega), List.take_of_length_le (by rw [hm]; omega)]
    have e2 : ((g x).cells ++ xs.flatMap fun x => (g x).cells).drop m = xs.flatMap fun x => (g x).cells := by
      rw [List.drop_append, List.drop_of_length_le (by rw [hm]; omega), hm, Nat.sub_self, List.drop_zero, List.nil_append]
    rw [e1, e2, chunk_map h0 hg hm xs _ rfl]
    congr 1
    cases ag with
    | true => exact hx
    | false =>
      simp only [Bool.false_eq_true, if_false] at hx ⊢
      have hl := hm x
      cases e : (g x).cells with
      | nil => rw [e] at hl; simp at hl; omega
      | cons c cs => rw [e] at hx; exact hx
omit [Av.Start] in
theorem fillRow_full {α : Type} (f : α → List D) (z : List D) (xs : List α) : fillRow f z xs xs.length = xs.flatMap f := by simp [fillRow, zeros]
omit [Av.Start] in
theorem mem_zeros {z : List D} {n : Nat} {d : D} (h : d ∈ zeros z n) : d ∈ z := by
  simp only [zeros, List.mem_flatten, List.mem_replicate] at h
  obtain ⟨l, ⟨_, rfl⟩, hd⟩ := h
  exact hd
omit [Av.Start] in
theorem mem_fillRow {α : Type} {f : α → List D} {z : List D} {xs : List α} {k : Nat} {d : D} (h : d ∈ fillRow f z xs k) : d ∈ z ∨ ∃ x, x ∈ xs ∧ d ∈ f x := by
  rcases List.mem_append.1 h with h | h
  · obtain ⟨x, hx, hd⟩ := List.mem_flatMap.1 h
    exact .inr ⟨x, List.mem_of_mem_take hx, hd⟩
  · exact .inl (mem_zeros h)
omit [Av.Start] in
theorem take_flat {α : Type} {f : α → List D} {m : Nat} (hf : ∀ x, (f x).length = m) (xs : List α) : (xs.flatMap f).take (xs.length * m) = xs.flatMap f :=
  List.take_of_length_le (by rw [flatMap_length hf]; omega)
end Go.Proofs.Ytcmpcpigchlhpaa

namespace Go.Proofs.Ytcmpcpigchlhpaa
set_option linter.unusedSectionVars false
open Go.Av
variable [Av.Start]
set_option maxRecDepth 10000
set_option linter.unusedSimpArgs false
set_option linter.unusedVariables false

theorem toIntS_gives (a : List Int) (h : Hp) : Gives Try.prog 68 [.slice (a.map (.int .i64)) .no] h (.slice (a.map (.int .i64)) .no) := by
  refine meets_of [] mixed Try.func68 rfl (by kernel_rfl) (by kernel_rfl) (by rw [Try.ntmps68]; simp only [List.length_cons, List.length_nil]; omega) (fun hf => ?_)
  rw [Try.results68]
  have hl : a.length ≤ 1073741824 := by simpa [fitsD, flen, lenMax] using hf
  clear hf
  try simp -implicitDefEqProofs only [push_cast, Nat.reduceEqDiff, Nat.reduceBEq, Nat.reduceBNe, Nat.reduceAdd, Nat.reduceMul, Nat.reduceLT, Nat.reduceLeDiff, Nat.reduceSub, reduceCtorEq, Int.reduceToNat, ↓reduceIte]
  repeat'
    (first
     | (refine uYes ?_; first | exact List.mem_cons_self | (simp only [List.mem_cons, List.not_mem_nil, or_false, true_or, or_true]; done))
     | (refine uNo (by kernel_rfl))
     | (refine flatMk ?_; kernel_rfl)
     | (refine And.intro ?_ ?_)
     | (intro hx)
     | ((first
         | (refine callGF ?_)
         | (refine callQGF ?_)
         | (refine skipG ?_)
         | (refine callS (l1In_gives _ _ _ _) ?_)
         | (refine callQ (l1In_gives _ _ _ _) ?_)
         | (refine callG (fun hc => (l1In_gives _ _ _ _)) ?_)
         | (refine callQG (fun hc => (l1In_gives _ _ _ _)) ?_)); simp -implicitDefEqProofs only [push_cast, Nat.reduceEqDiff, Nat.reduceBEq, Nat.reduceBNe, Nat.reduceAdd, Nat.reduceMul, Nat.reduceLT, Nat.reduceLeDiff, Nat.reduceSub, reduceCtorEq, Int.reduceToNat, ↓reduceIte]))
  · omega
  · simp only [lenMax]; omega
  · omega
  refine ev_loop [] (fun k : Nat => [(0, .slice (a.map (.int .i64)) .no), (3, .vec h.length false 1 0 a.length a.length), (4, .int .i64 k)])
    (fun k => [.row (fillRow (fun x : Int => [.int .i64 x]) [.int .i64 0] a k)]) (fun k => k ≤ a.length) (fun k => a.length - k) 0 trivial (Nat.zero_le _) ?_ ?_
  · refine ⟨1, by simp, by simp [tokSts], ?_⟩
    simp -implicitDefEqProofs only [Int.natCast_add, Int.cast_ofNat_Int, List.length_nil, Nat.le_refl, WeakTo, tokSts, tokOks, List.append_cancel_left_eq, exists_eq_left', exists_eq_left, List.append_cancel_left_eq, List.take_length, ObCl, and_true, true_and, push_cast, Nat.reduceEqDiff, Nat.reduceBEq, Nat.reduceBNe, Nat.reduceAdd, Nat.reduceMul, Nat.reduceLT, Nat.reduceLeDiff, Nat.reduceSub, reduceCtorEq, Int.reduceToNat, ↓reduceIte, fillRow_zero]
    intro d hd
    rcases List.mem_singleton.1 (mem_zeros hd) with rfl
    simp only [cl_int]
  · intro k hk
    have hw : IntKind.i64.wrap ((k : Int) + 1) = k + 1 := wrap_id (by omega) (by omega)
    have hf := fillRow_length (f := fun x : Int => [.int .i64 x]) (z := [.int .i64 0]) (m := 1) (fun _ => rfl) rfl a hk
    have ht := take_flat (f := fun x : Int => [D.int .i64 x]) (m := 1) (fun _ => rfl) a
    rw [Nat.mul_one] at ht
    try simp -implicitDefEqProofs only [hw, hf, push_cast, Nat.reduceEqDiff, Nat.reduceBEq, Nat.reduceBNe, Nat.reduceAdd, Nat.reduceMul, Nat.reduceLT, Nat.reduceLeDiff, Nat.reduceSub, reduceCtorEq, Int.reduceToNat, ↓reduceIte]
    repeat'
      (first
       | (refine uYes ?_; first | exact List.mem_cons_self | (simp only [List.mem_cons, List.not_mem_nil, or_false, true_or, or_true]; done))
       | (refine uNo (by kernel_rfl))
       | (refine flatMk ?_; kernel_rfl)
       | (refine And.intro ?_ ?_)
       | (intro hx)
       | ((first
           | (refine callGF ?_)
           | (refine callQGF ?_)
           | (refine skipG ?_)
           | (refine callS (l1In_gives _ _ _ _) ?_)
           | (refine callQ (l1In_gives _ _ _ _) ?_)
           | (refine callG (fun hc => (l1In_gives _ _ _ _)) ?_)
           | (refine callQG (fun hc => (l1In_gives _ _ _ _)) ?_)); simp -implicitDefEqProofs only [hw, hf, push_cast, Nat.reduceEqDiff, Nat.reduceBEq, Nat.reduceBNe, Nat.reduceAdd, Nat.reduceMul, Nat.reduceLT, Nat.reduceLeDiff, Nat.reduceSub, reduceCtorEq, Int.reduceToNat, ↓reduceIte]))
    all_goals try omega
    · refine round_mk (k + 1) (by omega) (by omega) ?_
      have hs := fillRow_splice (f := fun x : Int => [.int .i64 x]) (z := [.int .i64 0]) (m := 1) (fun _ => rfl) rfl a 0 (k := k) (by omega)
      simp -implicitDefEqProofs only [push_cast, Nat.reduceEqDiff, Nat.reduceBEq, Nat.reduceBNe, Nat.reduceAdd, Nat.reduceMul, Nat.reduceLT, Nat.reduceLeDiff, Nat.reduceSub, reduceCtorEq, Int.reduceToNat, ↓reduceIte] at hs
      simp -implicitDefEqProofs only [hw, hs, Int.natCast_add, Int.cast_ofNat_Int, List.length_nil, Nat.le_refl, WeakTo, tokSts, tokOks, List.append_cancel_left_eq, exists_eq_left', exists_eq_left, List.append_cancel_left_eq, List.take_length, ObCl, and_true, true_and, push_cast, Nat.reduceEqDiff, Nat.reduceBEq, Nat.reduceBNe, Nat.reduceAdd, Nat.reduceMul, Nat.reduceLT, Nat.reduceLeDiff, Nat.reduceSub, reduceCtorEq, Int.reduceToNat, ↓reduceIte]
      intro d hd
      rcases mem_fillRow hd with hd | ⟨x, _, hd⟩ <;> (rcases List.mem_singleton.1 hd with rfl; simp only [cl_int])
    · obtain rfl : k = a.length := by omega
      simp -implicitDefEqProofs only [rowPart, fillRow_full, ht, push_cast, Nat.reduceEqDiff, Nat.reduceBEq, Nat.reduceBNe, Nat.reduceAdd, Nat.reduceMul, Nat.reduceLT, Nat.reduceLeDiff, Nat.reduceSub, reduceCtorEq, Int.reduceToNat, ↓reduceIte] at hx
      obtain ⟨x, _, hd⟩ := List.mem_flatMap.1 hx
      rcases List.mem_singleton.1 hd with rfl
      simp only [cl_int]
    · obtain rfl : k = a.length := by omega
      simp -implicitDefEqProofs only [rowPart, fillRow_full, ht, push_cast, Nat.reduceEqDiff, Nat.reduceBEq, Nat.reduceBNe, Nat.reduceAdd, Nat.reduceMul, Nat.reduceLT, Nat.reduceLeDiff, Nat.reduceSub, reduceCtorEq, Int.reduceToNat, ↓reduceIte] at hx
      obtain ⟨x, _, hd⟩ := List.mem_flatMap.1 hx
      rcases List.mem_singleton.1 hd with rfl
      rfl
    · obtain rfl : k = a.length := by omega
      simp -implicitDefEqProofs only [rowPart, fillRow_full, ht, push_cast, Nat.reduceEqDiff, Nat.reduceBEq, Nat.reduceBNe, Nat.reduceAdd, Nat.reduceMul, Nat.reduceLT, Nat.reduceLeDiff, Nat.reduceSub, reduceCtorEq, Int.reduceToNat, ↓reduceIte]
      exact chunk_map (g := D.int .i64) (m := 1) (by omega) (fun _ => rfl) (fun _ => rfl) a _ rfl
theorem szIntS_gives (a : List Int) (n : Int) (h : Hp) : Gives Try.prog 65 [.slice (a.map (.int .i64)) .no, .int .i64 n] h (.int .i64 (if IntKind.i64.wrap (n - a.length) < 0 then -1 else IntKind.i64.wrap (n - a.length))) := by
  refine meets_of [] mixed Try.func65 rfl (by kernel_rfl) (by kernel_rfl) (by rw [Try.ntmps65]; simp only [List.length_cons, List.length_nil]; omega) (fun hf => ?_)
  rw [Try.results65]
  try simp -implicitDefEqProofs only [push_cast, Nat.reduceEqDiff, Nat.reduceBEq, Nat.reduceBNe, Nat.reduceAdd, Nat.reduceMul, Nat.reduceLT, Nat.reduceLeDiff, Nat.reduceSub, reduceCtorEq, Int.reduceToNat, ↓reduceIte]
  repeat'
    (first
     | (refine uYes ?_; first | exact List.mem_cons_self | (simp only [List.mem_cons, List.not_mem_nil, or_false, true_or, or_true]; done))
     | (refine uNo (by kernel_rfl))
     | (refine flatMk ?_; kernel_rfl)
     | (refine And.intro ?_ ?_)
     | (intro hx)
     | ((first
         | (refine callGF ?_)
         | (refine callQGF ?_)
         | (refine skipG ?_)
         | (refine callS (l1In_gives _ _ _ _) ?_)
         | (refine callQ (l1In_gives _ _ _ _) ?_)
         | (refine callG (fun hc => (l1In_gives _ _ _ _)) ?_)
         | (refine callQG (fun hc => (l1In_gives _ _ _ _)) ?_)); simp -implicitDefEqProofs only [push_cast, Nat.reduceEqDiff, Nat.reduceBEq, Nat.reduceBNe, Nat.reduceAdd, Nat.reduceMul, Nat.reduceLT, Nat.reduceLeDiff, Nat.reduceSub, reduceCtorEq, Int.reduceToNat, ↓reduceIte]))
  all_goals grind
theorem szHoldS_gives (a : List Hold) (n : Int) (h : Hp) : Gives Try.prog 66 [.slice (a.map Hold.d) .no, .int .i64 n] h (.int .i64 (if IntKind.i64.wrap (n - a.length) < 0 then -1 else IntKind.i64.wrap (n - a.length))) := by
  refine meets_of [] mixed Try.func66 rfl (by kernel_rfl) (by kernel_rfl) (by rw [Try.ntmps66]; simp only [List.length_cons, List.length_nil]; omega) (fun hf => ?_)
  rw [Try.results66]
  try simp -implicitDefEqProofs only [push_cast, Nat.reduceEqDiff, Nat.reduceBEq, Nat.reduceBNe, Nat.reduceAdd, Nat.reduceMul, Nat.reduceLT, Nat.reduceLeDiff, Nat.reduceSub, reduceCtorEq, Int.reduceToNat, ↓reduceIte]
  repeat'
    (first
     | (refine uYes ?_; first | exact List.mem_cons_self | (simp only [List.mem_cons, List.not_mem_nil, or_false, true_or, or_true]; done))
     | (refine uNo (by kernel_rfl))
     | (refine flatMk ?_; kernel_rfl)
     | (refine And.intro ?_ ?_)
     | (intro hx)
     | ((first
         | (refine callGF ?_)
         | (refine callQGF ?_)
         | (refine skipG ?_)
         | (refine callS (l1In_gives _ _ _ _) ?_)
         | (refine callQ (l1In_gives _ _ _ _) ?_)
         | (refine callG (fun hc => (l1In_gives _ _ _ _)) ?_)
         | (refine callQG (fun hc => (l1In_gives _ _ _ _)) ?_)); simp -implicitDefEqProofs only [push_cast, Nat.reduceEqDiff, Nat.reduceBEq, Nat.reduceBNe, Nat.reduceAdd, Nat.reduceMul, Nat.reduceLT, Nat.reduceLeDiff, Nat.reduceSub, reduceCtorEq, Int.reduceToNat, ↓reduceIte]))
  all_goals grind
theorem toHoldS_gives (a : List Hold) (h : Hp) : Gives Try.prog 69 [.slice (a.map Hold.d) .no] h (.slice (a.map Hold.d) .no) := by
  refine meets_of [] mixed Try.func69 rfl (by kernel_rfl) (by kernel_rfl) (by rw [Try.ntmps69]; simp only [List.length_cons, List.length_nil]; omega) (fun hf => ?_)
  rw [Try.results69]
  have hl : a.length ≤ 1073741824 := by simpa [fitsD, flen, lenMax] using hf
  clear hf
  try simp -implicitDefEqProofs only [push_cast, Nat.reduceEqDiff, Nat.reduceBEq, Nat.reduceBNe, Nat.reduceAdd, Nat.reduceMul, Nat.reduceLT, Nat.reduceLeDiff, Nat.reduceSub, reduceCtorEq, Int.reduceToNat, ↓reduceIte]
  repeat'
    (first
     | (refine uYes ?_; first | exact List.mem_cons_self | (simp only [List.mem_cons, List.not_mem_nil, or_false, true_or, or_true]; done))
     | (refine uNo (by kernel_rfl))
     | (refine flatMk ?_; kernel_rfl)
     | (refine And.intro ?_ ?_)
     | (intro hx)
     | ((first
         | (refine callGF ?_)
         | (refine callQGF ?_)
         | (refine skipG ?_)
         | (refine callS (l1In_gives _ _ _ _) ?_)
         | (refine callQ (l1In_gives _ _ _ _) ?_)
         | (refine callG (fun hc => (l1In_gives _ _ _ _)) ?_)
         | (refine callQG (fun hc => (l1In_gives _ _ _ _)) ?_)); simp -implicitDefEqProofs only [push_cast, Nat.reduceEqDiff, Nat.reduceBEq, Nat.reduceBNe, Nat.reduceAdd, Nat.reduceMul, Nat.reduceLT, Nat.reduceLeDiff, Nat.reduceSub, reduceCtorEq, Int.reduceToNat, ↓reduceIte]))
  · omega
  · simp only [lenMax]; omega
  · omega
  refine ev_loop [] (fun k : Nat => [(0, .slice (a.map Hold.d) .no), (3, .vec h.length true 3 0 a.length a.length), (4, .int .i64 k)])
    (fun k => [.row (fillRow Hold.cs [.int .i64 0, .int .i64 0, .int .i64 0] a k)]) (fun k => k ≤ a.length) (fun k => a.length - k) 0 trivial (Nat.zero_le _) ?_ ?_
  · refine ⟨1, by simp, by simp [tokSts], ?_⟩
    simp -implicitDefEqProofs only [Int.natCast_add, Int.cast_ofNat_Int, List.length_nil, Nat.le_refl, WeakTo, tokSts, tokOks, List.append_cancel_left_eq, exists_eq_left', exists_eq_left, List.append_cancel_left_eq, List.take_length, ObCl, and_true, true_and, push_cast, Nat.reduceEqDiff, Nat.reduceBEq, Nat.reduceBNe, Nat.reduceAdd, Nat.reduceMul, Nat.reduceLT, Nat.reduceLeDiff, Nat.reduceSub, reduceCtorEq, Int.reduceToNat, ↓reduceIte, fillRow_zero]
    intro d hd
    have := mem_zeros hd
    simp only [List.mem_cons, List.not_mem_nil, or_false] at this
    rcases this with rfl | rfl | rfl <;> simp only [cl_int]
  · intro k hk
    have hw : IntKind.i64.wrap ((k : Int) + 1) = k + 1 := wrap_id (by omega) (by omega)
    have hf := fillRow_length (f := Hold.cs) (z := [.int .i64 0, .int .i64 0, .int .i64 0]) (m := 3) (fun _ => rfl) rfl a hk
    have ht := take_flat (f := Hold.cs) (m := 3) (fun _ => rfl) a
    try simp -implicitDefEqProofs only [hw, hf, push_cast, Nat.reduceEqDiff, Nat.reduceBEq, Nat.reduceBNe, Nat.reduceAdd, Nat.reduceMul, Nat.reduceLT, Nat.reduceLeDiff, Nat.reduceSub, reduceCtorEq, Int.reduceToNat, ↓reduceIte]
    repeat'
      (first
       | (refine uYes ?_; first | exact List.mem_cons_self | (simp only [List.mem_cons, List.not_mem_nil, or_false, true_or, or_true]; done))
       | (refine uNo (by kernel_rfl))
       | (refine flatMk ?_; kernel_rfl)
       | (refine And.intro ?_ ?_)
       | (intro hx)
       | ((first
           | (refine callGF ?_)
           | (refine callQGF ?_)
           | (refine skipG ?_)
           | (refine callS (toHold_gives (a.getD k default) _) ?_)
           | (refine callQ (toHold_gives (a.getD k default) _) ?_)
           | (refine callG (fun hc => (toHold_gives (a.getD k default) _)) ?_)
           | (refine callQG (fun hc => (toHold_gives (a.getD k default) _)) ?_)); simp -implicitDefEqProofs only [hw, hf, push_cast, Nat.reduceEqDiff, Nat.reduceBEq, Nat.reduceBNe, Nat.reduceAdd, Nat.reduceMul, Nat.reduceLT, Nat.reduceLeDiff, Nat.reduceSub, reduceCtorEq, Int.reduceToNat, ↓reduceIte]))
    all_goals try omega
    · refine round_mk (k + 1) (by omega) (by omega) ?_
      have hs := fillRow_splice (f := Hold.cs) (z := [.int .i64 0, .int .i64 0, .int .i64 0]) (m := 3) (fun _ => rfl) rfl a default (k := k) (by omega)
      simp -implicitDefEqProofs only [push_cast, Nat.reduceEqDiff, Nat.reduceBEq, Nat.reduceBNe, Nat.reduceAdd, Nat.reduceMul, Nat.reduceLT, Nat.reduceLeDiff, Nat.reduceSub, reduceCtorEq, Int.reduceToNat, ↓reduceIte] at hs
      simp -implicitDefEqProofs only [hw, hs, Int.natCast_add, Int.cast_ofNat_Int, List.length_nil, Nat.le_refl, WeakTo, tokSts, tokOks, List.append_cancel_left_eq, exists_eq_left', exists_eq_left, List.append_cancel_left_eq, List.take_length, ObCl, and_true, true_and, push_cast, Nat.reduceEqDiff, Nat.reduceBEq, Nat.reduceBNe, Nat.reduceAdd, Nat.reduceMul, Nat.reduceLT, Nat.reduceLeDiff, Nat.reduceSub, reduceCtorEq, Int.reduceToNat, ↓reduceIte]
      intro d hd
      rcases mem_fillRow hd with hd | ⟨x, _, hd⟩ <;> (simp only [Hold.cs, List.mem_cons, List.not_mem_nil, or_false] at hd; rcases hd with rfl | rfl | rfl <;> simp only [cl_int])
    · obtain rfl : k = a.length := by omega
      simp -implicitDefEqProofs only [rowPart, fillRow_full, push_cast, Nat.reduceEqDiff, Nat.reduceBEq, Nat.reduceBNe, Nat.reduceAdd, Nat.reduceMul, Nat.reduceLT, Nat.reduceLeDiff, Nat.reduceSub, reduceCtorEq, Int.reduceToNat, ↓reduceIte] at hx
      have hd := List.mem_of_mem_take hx
      obtain ⟨x, _, hd⟩ := List.mem_flatMap.1 hd
      simp only [Hold.cs, List.mem_cons, List.not_mem_nil, or_false] at hd
      rcases hd with rfl | rfl | rfl <;> simp only [cl_int]
    · obtain rfl : k = a.length := by omega
      rw [show rowPart (h ++ [Ob.row (fillRow Hold.cs [D.int IntKind.i64 0, D.int IntKind.i64 0, D.int IntKind.i64 0] a a.length)]) (List.length h) 3 0 a.length = a.flatMap Hold.cs from by
        simp only [rowPart, fillRow_full, ob_app0, ob_zero, rowOf, Nat.zero_mul, List.drop_zero, ht]]
      exact chunk_map (g := Hold.d) (m := 3) (by omega) (fun _ => rfl) (fun _ => rfl) a _ rfl
end Go.Proofs.Ytcmpcpigchlhpaa

namespace Go.Proofs.Ytcmpcpigchlhpaa
set_option linter.unusedSectionVars false
open Go.Av
variable [Av.Start]
set_option maxRecDepth 10000
set_option linter.unusedSimpArgs false
set_option linter.unusedVariables false

theorem toLeg_gives (l : Leg) (h : Hp) : Gives Try.prog 33 [l.d] h l.d := by
  refine meets_of [2, 3] mixed Try.func33 rfl (by kernel_rfl) (by kernel_rfl) (by rw [Try.ntmps33]; simp only [List.length_cons, List.length_nil]; omega) (fun hf => ?_)
  rw [Try.results33]
  try simp -implicitDefEqProofs only [push_cast, Nat.reduceEqDiff, Nat.reduceBEq, Nat.reduceBNe, Nat.reduceAdd, Nat.reduceMul, Nat.reduceLT, Nat.reduceLeDiff, Nat.reduceSub, reduceCtorEq, Int.reduceToNat, ↓reduceIte]
  repeat'
    (first
     | (refine uYes ?_; first | exact List.mem_cons_self | (simp only [List.mem_cons, List.not_mem_nil, or_false, true_or, or_true]; done))
     | (refine uNo (by kernel_rfl))
     | (refine flatMk ?_; kernel_rfl)
     | (refine And.intro ?_ ?_)
     | (intro hx)
     | ((first
         | (refine callGF ?_)
         | (refine callQGF ?_)
         | (refine skipG ?_)
         | (refine callS (toIntS_gives _ _) ?_)
         | (refine callQ (toIntS_gives _ _) ?_)
         | (refine callG (fun hc => (toIntS_gives _ _)) ?_)
         | (refine callQG (fun hc => (toIntS_gives _ _)) ?_)
         | (refine callS (toHoldS_gives _ _) ?_)
         | (refine callQ (toHoldS_gives _ _) ?_)
         | (refine callG (fun hc => (toHoldS_gives _ _)) ?_)
         | (refine callQG (fun hc => (toHoldS_gives _ _)) ?_)); simp -implicitDefEqProofs only [push_cast, Nat.reduceEqDiff, Nat.reduceBEq, Nat.reduceBNe, Nat.reduceAdd, Nat.reduceMul, Nat.reduceLT, Nat.reduceLeDiff, Nat.reduceSub, reduceCtorEq, Int.reduceToNat, ↓reduceIte]))
  all_goals trace_state
theorem eqHoldS_gives (a b : List Hold) (h : Hp) : Gives Try.prog 75 [.slice (a.map Hold.d) .no, .slice (b.map Hold.d) .no] h (.bool (decide (a = b))) := by
  refine meets_of [] mixed Try.func75 rfl (by kernel_rfl) (by kernel_rfl) (by rw [Try.ntmps75]; simp only [List.length_cons, List.length_nil]; omega) (fun hf => ?_)
  rw [Try.results75]
  have hl : a.length ≤ 1073741824 := by
    have := hf (.slice (a.map Hold.d) .no) (by simp)
    simpa [fitsD, flen, lenMax] using this
  clear hf
  try simp -implicitDefEqProofs only [push_cast, Nat.reduceEqDiff, Nat.reduceBEq, Nat.reduceBNe, Nat.reduceAdd, Nat.reduceMul, Nat.reduceLT, Nat.reduceLeDiff, Nat.reduceSub, reduceCtorEq, Int.reduceToNat, ↓reduceIte]
  repeat'
    (first
     | (refine uYes ?_; first | exact List.mem_cons_self | (simp only [List.mem_cons, List.not_mem_nil, or_false, true_or, or_true]; done))
     | (refine uNo (by kernel_rfl))
     | (refine flatMk ?_; kernel_rfl)
     | (refine And.intro ?_ ?_)
     | (intro hx)
     | ((first
         | (refine callGF ?_)
         | (refine callQGF ?_)
         | (refine skipG ?_)
         | (refine callS (l1In_gives _ _ _ _) ?_)
         | (refine callQ (l1In_gives _ _ _ _) ?_)
         | (refine callG (fun hc => (l1In_gives _ _ _ _)) ?_)
         | (refine callQG (fun hc => (l1In_gives _ _ _ _)) ?_)); simp -implicitDefEqProofs only [push_cast, Nat.reduceEqDiff, Nat.reduceBEq, Nat.reduceBNe, Nat.reduceAdd, Nat.reduceMul, Nat.reduceLT, Nat.reduceLeDiff, Nat.reduceSub, reduceCtorEq, Int.reduceToNat, ↓reduceIte]))
  · exact (decide_eq_false (fun e => hx (by rw [e]))).symm
  refine ev_loop0 [] (fun k : Nat => [(0, .slice (a.map Hold.d) .no), (1, .slice (b.map Hold.d) .no), (5, .int .i64 k)]) (fun k => k ≤ a.length ∧ ∀ i, i < k → a.getD i default = b.getD i default) (fun k => a.length - k) 0 trivial ⟨Nat.zero_le _, fun i hi => absurd hi (Nat.not_lt_zero i)⟩ ?_ ?_
  · exact ⟨rfl, [], by simp -implicitDefEqProofs only [Int.natCast_add, Int.cast_ofNat_Int, List.length_nil, Nat.le_refl, WeakTo, tokSts, tokOks, List.append_cancel_left_eq, exists_eq_left', exists_eq_left, List.append_cancel_left_eq, List.take_length, ObCl, and_true, true_and, push_cast, Nat.reduceEqDiff, Nat.reduceBEq, Nat.reduceBNe, Nat.reduceAdd, Nat.reduceMul, Nat.reduceLT, Nat.reduceLeDiff, Nat.reduceSub, reduceCtorEq, Int.reduceToNat, ↓reduceIte]⟩
  · intro k hk
    have hw : IntKind.i64.wrap ((k : Int) + 1) = k + 1 := wrap_id (by omega) (by omega)
    try simp -implicitDefEqProofs only [hw, push_cast, Nat.reduceEqDiff, Nat.reduceBEq, Nat.reduceBNe, Nat.reduceAdd, Nat.reduceMul, Nat.reduceLT, Nat.reduceLeDiff, Nat.reduceSub, reduceCtorEq, Int.reduceToNat, ↓reduceIte]
    repeat'
      (first
       | (refine uYes ?_; first | exact List.mem_cons_self | (simp only [List.mem_cons, List.not_mem_nil, or_false, true_or, or_true]; done))
       | (refine uNo (by kernel_rfl))
       | (refine flatMk ?_; kernel_rfl)
       | (refine And.intro ?_ ?_)
       | (intro hx)
       | ((first
           | (refine callGF ?_)
           | (refine callQGF ?_)
           | (refine skipG ?_)
           | (refine callS (eqHold_gives (a.getD k default) (b.getD k default) _) ?_)
           | (refine callQ (eqHold_gives (a.getD k default) (b.getD k default) _) ?_)
           | (refine callG (fun hc => (eqHold_gives (a.getD k default) (b.getD k default) _)) ?_)
           | (refine callQG (fun hc => (eqHold_gives (a.getD k default) (b.getD k default) _)) ?_)); simp -implicitDefEqProofs only [hw, push_cast, Nat.reduceEqDiff, Nat.reduceBEq, Nat.reduceBNe, Nat.reduceAdd, Nat.reduceMul, Nat.reduceLT, Nat.reduceLeDiff, Nat.reduceSub, reduceCtorEq, Int.reduceToNat, ↓reduceIte]))
    all_goals first
      | omega
      | (refine round_mk0 (k + 1) ⟨by omega, fun i hi => ?_⟩ (by omega) ⟨[], ?_⟩
         · by_cases e : i = k
           · subst e
             cases ha : a.getD i default
             cases hb : b.getD i default
             rw [ha, hb] at hx
             simp only at hx
             obtain ⟨⟨rfl, rfl⟩, rfl⟩ := hx
             rfl
           · exact hk.2 i (by omega)
         · simp -implicitDefEqProofs only [hw, Int.natCast_add, Int.cast_ofNat_Int, List.length_nil, Nat.le_refl, WeakTo, tokSts, tokOks, List.append_cancel_left_eq, exists_eq_left', exists_eq_left, List.append_cancel_left_eq, List.take_length, ObCl, and_true, true_and, push_cast, Nat.reduceEqDiff, Nat.reduceBEq, Nat.reduceBNe, Nat.reduceAdd, Nat.reduceMul, Nat.reduceLT, Nat.reduceLeDiff, Nat.reduceSub, reduceCtorEq, Int.reduceToNat, ↓reduceIte])
      | (refine (decide_eq_false (fun e => ?_)).symm
         subst e
         grind)
      | (refine (decide_eq_true (List.ext_getElem (by omega) (fun i h1 h2 => ?_))).symm
         have := hk.2 i (by omega)
         simpa [List.getD_eq_getElem?_getD, List.getElem?_eq_getElem, h1, h2] using this)
def szGo (n : Int) : List Nat → Int
  | [] => n
  | k :: ks => if IntKind.i64.wrap (n - k) < 0 then -1 else szGo (IntKind.i64.wrap (n - k)) ks
theorem szLeg_gives (l : Leg) (n : Int) (h : Hp) : Gives Try.prog 29 [l.d, .int .i64 n] h (.int .i64 (szGo n [l.name.length, l.src.length, l.dst.length, l.limits.length, l.sold.length, l.bids.length, l.holds.length])) := by
  refine meets_of [] mixed Try.func29 rfl (by kernel_rfl) (by kernel_rfl) (by rw [Try.ntmps29]; simp only [List.length_cons, List.length_nil]; omega) (fun hf => ?_)
  rw [Try.results29]
  try simp -implicitDefEqProofs only [push_cast, Nat.reduceEqDiff, Nat.reduceBEq, Nat.reduceBNe, Nat.reduceAdd, Nat.reduceMul, Nat.reduceLT, Nat.reduceLeDiff, Nat.reduceSub, reduceCtorEq, Int.reduceToNat, ↓reduceIte]
  repeat'
    (first
     | (refine uYes ?_; first | exact List.mem_cons_self | (simp only [List.mem_cons, List.not_mem_nil, or_false, true_or, or_true]; done))
     | (refine uNo (by kernel_rfl))
     | (refine flatMk ?_; kernel_rfl)
     | (refine And.intro ?_ ?_)
     | (intro hx)
     | ((first
         | (refine callGF ?_)
         | (refine callQGF ?_)
         | (refine skipG ?_)
         | (refine callS (szIntS_gives _ _ _) ?_)
         | (refine callQ (szIntS_gives _ _ _) ?_)
         | (refine callG (fun hc => (szIntS_gives _ _ _)) ?_)
         | (refine callQG (fun hc => (szIntS_gives _ _ _)) ?_)
         | (refine callS (szHoldS_gives _ _ _) ?_)
         | (refine callQ (szHoldS_gives _ _ _) ?_)
         | (refine callG (fun hc => (szHoldS_gives _ _ _)) ?_)
         | (refine callQG (fun hc => (szHoldS_gives _ _ _)) ?_)); simp -implicitDefEqProofs only [push_cast, Nat.reduceEqDiff, Nat.reduceBEq, Nat.reduceBNe, Nat.reduceAdd, Nat.reduceMul, Nat.reduceLT, Nat.reduceLeDiff, Nat.reduceSub, reduceCtorEq, Int.reduceToNat, ↓reduceIte]))
  all_goals (simp only [szGo]; grind)
end Go.Proofs.Ytcmpcpigchlhpaa

namespace Go.Proofs.Ytcmpcpigchlhpaa
set_option linter.unusedSectionVars false
open Go.Av
variable [Av.Start]
set_option maxRecDepth 10000
set_option linter.unusedSimpArgs false
set_option linter.unusedVariables false

def eqLegB (a b : Leg) : Bool := decide (a.name = b.name) && decide (a.src = b.src) && decide (a.dst = b.dst) && decide (a.dep = b.dep) && decide (a.arr = b.arr) && decide (a.cap = b.cap) && decide (a.limits = b.limits) && decide (a.sold = b.sold) && decide (a.bids = b.bids) && decide (a.holds = b.holds)
omit [Av.Start] in
theorem eqLegB_self (a : Leg) : eqLegB a a = true := by simp [eqLegB]
theorem eqLeg_gives (a b : Leg) (h : Hp) : Gives Try.prog 38 [a.d, b.d] h (.bool (eqLegB a b)) := by
  refine meets_of [] mixed Try.func38 rfl (by kernel_rfl) (by kernel_rfl) (by rw [Try.ntmps38]; simp only [List.length_cons, List.length_nil]; omega) (fun hf => ?_)
  rw [Try.results38]
  try simp -implicitDefEqProofs only [push_cast, Nat.reduceEqDiff, Nat.reduceBEq, Nat.reduceBNe, Nat.reduceAdd, Nat.reduceMul, Nat.reduceLT, Nat.reduceLeDiff, Nat.reduceSub, reduceCtorEq, Int.reduceToNat, ↓reduceIte]
  repeat'
    (first
     | (refine uYes ?_; first | exact List.mem_cons_self | (simp only [List.mem_cons, List.not_mem_nil, or_false, true_or, or_true]; done))
     | (refine uNo (by kernel_rfl))
     | (refine flatMk ?_; kernel_rfl)
     | (refine And.intro ?_ ?_)
     | (intro hx)
     | ((first
         | (refine callGF ?_)
         | (refine callQGF ?_)
         | (refine skipG ?_)
         | (refine callS (eqIntS_gives _ _ _) ?_)
         | (refine callQ (eqIntS_gives _ _ _) ?_)
         | (refine callG (fun hc => (eqIntS_gives _ _ _)) ?_)
         | (refine callQG (fun hc => (eqIntS_gives _ _ _)) ?_)
         | (refine callS (eqHoldS_gives _ _ _) ?_)
         | (refine callQ (eqHoldS_gives _ _ _) ?_)
         | (refine callG (fun hc => (eqHoldS_gives _ _ _)) ?_)
         | (refine callQG (fun hc => (eqHoldS_gives _ _ _)) ?_)); simp -implicitDefEqProofs only [push_cast, Nat.reduceEqDiff, Nat.reduceBEq, Nat.reduceBNe, Nat.reduceAdd, Nat.reduceMul, Nat.reduceLT, Nat.reduceLeDiff, Nat.reduceSub, reduceCtorEq, Int.reduceToNat, ↓reduceIte]))
  all_goals (simp only [eqLegB]; grind)

end Go.Proofs.Ytcmpcpigchlhpaa
