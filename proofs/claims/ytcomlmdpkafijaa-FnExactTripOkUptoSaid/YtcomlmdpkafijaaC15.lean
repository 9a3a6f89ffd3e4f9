/- Contracts of functions of the program (C15). -/
import Derived.Test.YtcomlmdpkafijaaC13
import Derived.Test.YtcomlmdpkafijaaC14

namespace Go.Proofs.Ytcomlmdpkafijaa
open Go.Av
set_option maxRecDepth 10000
set_option linter.unusedSimpArgs false
set_option linter.unusedVariables false

def sCs (s : List UInt8) : List D := [.str s]
theorem sCs_cl (n : Nat) (s : List UInt8) : ∀ d, d ∈ sCs s → Cl n d := by
  simp only [sCs, List.mem_cons, List.not_mem_nil, or_false, forall_eq, cl_str]
theorem zStr_cl (n : Nat) : ∀ d, d ∈ ([.str []] : List D) → Cl n d := by
  simp only [List.mem_cons, List.not_mem_nil, or_false, forall_eq, cl_str]
attribute [push_cast] sCs

theorem toStringS_gives (a : List (List UInt8)) (h : Hp) : Gives Try.prog 95 [.slice (a.map D.str) .no] h (.slice (a.map D.str) .no) := by
  refine meets_of [] mixed Try.func95 rfl (by kernel_rfl) (by kernel_rfl) (by rw [Try.ntmps95]; simp only [List.length_cons, List.length_nil]; omega) (fun hf => ?_)
  rw [Try.results95]
  have hl : a.length ≤ 1073741824 := by simpa [fitsD, flen, lenMax] using hf
  clear hf
  try simp -implicitDefEqProofs only [push_cast, Nat.reduceEqDiff, Nat.reduceBEq, Nat.reduceBNe, Nat.reduceAdd, Nat.reduceMul, Nat.reduceLT, Nat.reduceLeDiff, Nat.reduceSub, reduceCtorEq, Int.reduceToNat, ↓reduceIte]
  repeat'
    (first
     | (refine And.intro ?_ ?_)
     | (intro hx)
     | ((first
         | (refine callGF ?_)
         | (refine callQGF ?_)
         | (refine callS (l1In_gives _ _ _ _) ?_)
         | (refine callQ (l1In_gives _ _ _ _) ?_)
         | (refine callG (fun hc => (l1In_gives _ _ _ _)) ?_)
         | (refine callQG (fun hc => (l1In_gives _ _ _ _)) ?_)); simp -implicitDefEqProofs only [push_cast, Nat.reduceEqDiff, Nat.reduceBEq, Nat.reduceBNe, Nat.reduceAdd, Nat.reduceMul, Nat.reduceLT, Nat.reduceLeDiff, Nat.reduceSub, reduceCtorEq, Int.reduceToNat, ↓reduceIte]))
  · omega
  · simp only [lenMax]; omega
  · omega
  refine ev_loop [] (fun k : Nat => [(0, .slice (a.map D.str) .no), (3, .vec h.length false 1 0 a.length), (4, .int .i64 k)])
    (fun k => [.row (fillRow sCs [.str []] a k)]) (fun k => k ≤ a.length) (fun k => a.length - k) 0 trivial (Nat.zero_le _) ?_ ?_
  · refine ⟨1, by simp, by simp [tokSts], ?_⟩
    simp -implicitDefEqProofs only [Int.natCast_add, Int.cast_ofNat_Int, List.length_nil, Nat.le_refl, WeakTo, tokSts, tokOks, List.append_cancel_left_eq, exists_eq_left', exists_eq_left, List.append_cancel_left_eq, List.take_length, ObCl, and_true, true_and, push_cast, Nat.reduceEqDiff, Nat.reduceBEq, Nat.reduceBNe, Nat.reduceAdd, Nat.reduceMul, Nat.reduceLT, Nat.reduceLeDiff, Nat.reduceSub, reduceCtorEq, Int.reduceToNat, ↓reduceIte, fillRow_zero]
    exact fun d hd => zStr_cl _ _ (mem_zeros hd)
  · intro k hk
    have hw : IntKind.i64.wrap ((k : Int) + 1) = k + 1 := wrap_id (by omega) (by omega)
    have hf := fillRow_length (f := sCs) (z := [.str []]) (m := 1) (fun _ => rfl) rfl a hk
    have ht := take_flat (f := sCs) (m := 1) (fun _ => rfl) a
    rcases Nat.lt_or_ge k a.length with hlt | hge
    · skip
      have hs := fillRow_splice (f := sCs) (z := [.str []]) (m := 1) (fun _ => rfl) rfl a [] (k := k) (by omega)
      simp -implicitDefEqProofs only [push_cast, Nat.reduceEqDiff, Nat.reduceBEq, Nat.reduceBNe, Nat.reduceAdd, Nat.reduceMul, Nat.reduceLT, Nat.reduceLeDiff, Nat.reduceSub, reduceCtorEq, Int.reduceToNat, ↓reduceIte] at hs
      try simp -implicitDefEqProofs only [hw, hf, push_cast, Nat.reduceEqDiff, Nat.reduceBEq, Nat.reduceBNe, Nat.reduceAdd, Nat.reduceMul, Nat.reduceLT, Nat.reduceLeDiff, Nat.reduceSub, reduceCtorEq, Int.reduceToNat, ↓reduceIte]
      repeat'
        (first
         | (refine And.intro ?_ ?_)
         | (intro hx)
         | ((first
             | (refine callGF ?_)
             | (refine callQGF ?_)
             | (refine callS (l1In_gives _ _ _ _) ?_)
             | (refine callQ (l1In_gives _ _ _ _) ?_)
             | (refine callG (fun hc => (l1In_gives _ _ _ _)) ?_)
             | (refine callQG (fun hc => (l1In_gives _ _ _ _)) ?_)); simp -implicitDefEqProofs only [hw, hf, push_cast, Nat.reduceEqDiff, Nat.reduceBEq, Nat.reduceBNe, Nat.reduceAdd, Nat.reduceMul, Nat.reduceLT, Nat.reduceLeDiff, Nat.reduceSub, reduceCtorEq, Int.reduceToNat, ↓reduceIte]))
      all_goals try omega
      refine round_mk (k + 1) (by omega) (by omega) ?_
      simp -implicitDefEqProofs only [hw, hs, Int.natCast_add, Int.cast_ofNat_Int, List.length_nil, Nat.le_refl, WeakTo, tokSts, tokOks, List.append_cancel_left_eq, exists_eq_left', exists_eq_left, List.append_cancel_left_eq, List.take_length, ObCl, and_true, true_and, push_cast, Nat.reduceEqDiff, Nat.reduceBEq, Nat.reduceBNe, Nat.reduceAdd, Nat.reduceMul, Nat.reduceLT, Nat.reduceLeDiff, Nat.reduceSub, reduceCtorEq, Int.reduceToNat, ↓reduceIte]
      skip
      intro d hd
      rcases mem_fillRow hd with hd | ⟨x, _, hd⟩
      · exact zStr_cl _ _ hd
      · exact sCs_cl _ _ _ hd
    · obtain rfl : k = a.length := by omega
      have hr : rowPart (h ++ [Ob.row (fillRow sCs [.str []] a a.length)]) (List.length h) 1 0 a.length = a.flatMap sCs := by
        simp only [rowPart, fillRow_full, ob_app0, ob_zero, rowOf, Nat.zero_mul, List.drop_zero, ht]
      try simp -implicitDefEqProofs only [hw, hf, hr, push_cast, Nat.reduceEqDiff, Nat.reduceBEq, Nat.reduceBNe, Nat.reduceAdd, Nat.reduceMul, Nat.reduceLT, Nat.reduceLeDiff, Nat.reduceSub, reduceCtorEq, Int.reduceToNat, ↓reduceIte]
      repeat'
        (first
         | (refine And.intro ?_ ?_)
         | (intro hx)
         | ((first
             | (refine callGF ?_)
             | (refine callQGF ?_)
             | (refine callS (l1In_gives _ _ _ _) ?_)
             | (refine callQ (l1In_gives _ _ _ _) ?_)
             | (refine callG (fun hc => (l1In_gives _ _ _ _)) ?_)
             | (refine callQG (fun hc => (l1In_gives _ _ _ _)) ?_)); simp -implicitDefEqProofs only [hw, hf, hr, push_cast, Nat.reduceEqDiff, Nat.reduceBEq, Nat.reduceBNe, Nat.reduceAdd, Nat.reduceMul, Nat.reduceLT, Nat.reduceLeDiff, Nat.reduceSub, reduceCtorEq, Int.reduceToNat, ↓reduceIte]))
      all_goals first
        | omega
        | (obtain ⟨x, _, hd⟩ := List.mem_flatMap.1 hx
           exact sCs_cl _ _ _ hd)
        | (obtain ⟨x, _, hd⟩ := List.mem_flatMap.1 hx
           simp only [sCs, List.mem_singleton] at hd
           subst hd
           rfl)
        | exact chunk_map (g := D.str) (ag := false) (m := 1) (by omega) (fun _ => rfl) (fun _ => rfl) a _ rfl

theorem eqStringS_gives (a b : List (List UInt8)) (h : Hp) : Gives Try.prog 97 [.slice (a.map D.str) .no, .slice (b.map D.str) .no] h (.bool (decide (a = b))) := by
  refine meets_of [] mixed Try.func97 rfl (by kernel_rfl) (by kernel_rfl) (by rw [Try.ntmps97]; simp only [List.length_cons, List.length_nil]; omega) (fun hf => ?_)
  rw [Try.results97]
  have hl : a.length ≤ 1073741824 := by simpa using slice_fit (hf (.slice (a.map D.str) .no) (by simp))
  clear hf
  try simp -implicitDefEqProofs only [push_cast, Nat.reduceEqDiff, Nat.reduceBEq, Nat.reduceBNe, Nat.reduceAdd, Nat.reduceMul, Nat.reduceLT, Nat.reduceLeDiff, Nat.reduceSub, reduceCtorEq, Int.reduceToNat, ↓reduceIte]
  repeat'
    (first
     | (refine And.intro ?_ ?_)
     | (intro hx)
     | ((first
         | (refine callGF ?_)
         | (refine callQGF ?_)
         | (refine callS (l1In_gives _ _ _ _) ?_)
         | (refine callQ (l1In_gives _ _ _ _) ?_)
         | (refine callG (fun hc => (l1In_gives _ _ _ _)) ?_)
         | (refine callQG (fun hc => (l1In_gives _ _ _ _)) ?_)); simp -implicitDefEqProofs only [push_cast, Nat.reduceEqDiff, Nat.reduceBEq, Nat.reduceBNe, Nat.reduceAdd, Nat.reduceMul, Nat.reduceLT, Nat.reduceLeDiff, Nat.reduceSub, reduceCtorEq, Int.reduceToNat, ↓reduceIte]))
  · exact (decide_eq_false (fun e => hx (by rw [e]))).symm
  refine ev_loop0 [] (fun k : Nat => [(0, .slice (a.map D.str) .no), (1, .slice (b.map D.str) .no), (5, .int .i64 k)]) (fun k => k ≤ a.length ∧ ∀ i, i < k → a.getD i [] = b.getD i []) (fun k => a.length - k) 0 trivial ⟨Nat.zero_le _, fun i hi => absurd hi (Nat.not_lt_zero i)⟩ ?_ ?_
  · exact ⟨rfl, [], by simp -implicitDefEqProofs only [Int.natCast_add, Int.cast_ofNat_Int, List.length_nil, Nat.le_refl, WeakTo, tokSts, tokOks, List.append_cancel_left_eq, exists_eq_left', exists_eq_left, List.append_cancel_left_eq, List.take_length, ObCl, and_true, true_and, push_cast, Nat.reduceEqDiff, Nat.reduceBEq, Nat.reduceBNe, Nat.reduceAdd, Nat.reduceMul, Nat.reduceLT, Nat.reduceLeDiff, Nat.reduceSub, reduceCtorEq, Int.reduceToNat, ↓reduceIte]⟩
  · intro k hk
    have hw : IntKind.i64.wrap ((k : Int) + 1) = k + 1 := wrap_id (by omega) (by omega)
    try simp -implicitDefEqProofs only [hw, push_cast, Nat.reduceEqDiff, Nat.reduceBEq, Nat.reduceBNe, Nat.reduceAdd, Nat.reduceMul, Nat.reduceLT, Nat.reduceLeDiff, Nat.reduceSub, reduceCtorEq, Int.reduceToNat, ↓reduceIte]
    repeat'
      (first
       | (refine And.intro ?_ ?_)
       | (intro hx)
       | ((first
           | (refine callGF ?_)
           | (refine callQGF ?_)
           | (refine callS (l1In_gives _ _ _ _) ?_)
           | (refine callQ (l1In_gives _ _ _ _) ?_)
           | (refine callG (fun hc => (l1In_gives _ _ _ _)) ?_)
           | (refine callQG (fun hc => (l1In_gives _ _ _ _)) ?_)); simp -implicitDefEqProofs only [hw, push_cast, Nat.reduceEqDiff, Nat.reduceBEq, Nat.reduceBNe, Nat.reduceAdd, Nat.reduceMul, Nat.reduceLT, Nat.reduceLeDiff, Nat.reduceSub, reduceCtorEq, Int.reduceToNat, ↓reduceIte]))
    all_goals first
      | omega
      | (refine round_mk0 (k + 1) ⟨by omega, fun i hi => ?_⟩ (by omega) ⟨[], ?_⟩
         · by_cases e : i = k
           · exact e ▸ hx
           · exact hk.2 i (by omega)
         · simp -implicitDefEqProofs only [hw, Int.natCast_add, Int.cast_ofNat_Int, List.length_nil, Nat.le_refl, WeakTo, tokSts, tokOks, List.append_cancel_left_eq, exists_eq_left', exists_eq_left, List.append_cancel_left_eq, List.take_length, ObCl, and_true, true_and, push_cast, Nat.reduceEqDiff, Nat.reduceBEq, Nat.reduceBNe, Nat.reduceAdd, Nat.reduceMul, Nat.reduceLT, Nat.reduceLeDiff, Nat.reduceSub, reduceCtorEq, Int.reduceToNat, ↓reduceIte])
      | exact (decide_eq_false (fun e => hx (by rw [e]))).symm
      | (refine (decide_eq_true (List.ext_getElem (by omega) (fun i h1 h2 => ?_))).symm
         have := hk.2 i (by omega)
         simpa [List.getD_eq_getElem?_getD, List.getElem?_eq_getElem, h1, h2] using this)


def szS : Int → List (List UInt8) → Int
  | n, [] => n
  | n, s :: ss => if IntKind.i64.wrap (n - s.length) < 0 then -1 else szS (IntKind.i64.wrap (n - s.length)) ss
theorem szS_drop (n : Int) {xs : List (List UInt8)} {k : Nat} (h : k < xs.length) : szS n (xs.drop k) = if IntKind.i64.wrap (n - (xs.getD k []).length) < 0 then -1 else szS (IntKind.i64.wrap (n - (xs.getD k []).length)) (xs.drop (k + 1)) := by
  rw [List.drop_eq_getElem_cons h, szS, List.getD_eq_getElem?_getD, List.getElem?_eq_getElem h]
  rfl
def szSs (n : Int) (xs : List (List UInt8)) : Int := if IntKind.i64.wrap (n - xs.length) < 0 then -1 else szS (IntKind.i64.wrap (n - xs.length)) xs
theorem szStringS_gives (xs : List (List UInt8)) (n : Int) (h : Hp) : Gives Try.prog 93 [.slice (xs.map .str) .no, .int .i64 n] h (.int .i64 (szSs n xs)) := by
  refine meets_of [] mixed Try.func93 rfl (by kernel_rfl) (by kernel_rfl) (by rw [Try.ntmps93]; simp only [List.length_cons, List.length_nil]; omega) (fun hf => ?_)
  rw [Try.results93]
  have hl : xs.length ≤ 1073741824 := by simpa using slice_fit (hf (.slice (xs.map .str) .no) (by simp))
  clear hf
  rw [szSs]
  try simp -implicitDefEqProofs only [push_cast, Nat.reduceEqDiff, Nat.reduceBEq, Nat.reduceBNe, Nat.reduceAdd, Nat.reduceMul, Nat.reduceLT, Nat.reduceLeDiff, Nat.reduceSub, reduceCtorEq, Int.reduceToNat, ↓reduceIte]
  repeat'
    (first
     | (refine And.intro ?_ ?_)
     | (intro hx)
     | ((first
         | (refine callGF ?_)
         | (refine callQGF ?_)
         | (refine callS (l1In_gives _ _ _ _) ?_)
         | (refine callQ (l1In_gives _ _ _ _) ?_)
         | (refine callG (fun hc => (l1In_gives _ _ _ _)) ?_)
         | (refine callQG (fun hc => (l1In_gives _ _ _ _)) ?_)); simp -implicitDefEqProofs only [push_cast, Nat.reduceEqDiff, Nat.reduceBEq, Nat.reduceBNe, Nat.reduceAdd, Nat.reduceMul, Nat.reduceLT, Nat.reduceLeDiff, Nat.reduceSub, reduceCtorEq, Int.reduceToNat, ↓reduceIte]))
  · rw [if_pos hx]
  rw [if_neg (by omega)]
  refine ev_loop0 [] (fun x : Nat × Int => [(0, .slice (xs.map .str) .no), (1, .int .i64 x.2), (5, .int .i64 x.1)]) (fun x => x.1 ≤ xs.length ∧ szS (IntKind.i64.wrap (n - xs.length)) xs = szS x.2 (xs.drop x.1)) (fun x => xs.length - x.1) (0, IntKind.i64.wrap (n - xs.length)) trivial ⟨Nat.zero_le _, by rw [List.drop_zero]⟩ ?_ ?_
  · exact ⟨rfl, [], by simp -implicitDefEqProofs only [Int.natCast_add, Int.cast_ofNat_Int, List.length_nil, Nat.le_refl, WeakTo, tokSts, tokOks, List.append_cancel_left_eq, exists_eq_left', exists_eq_left, List.append_cancel_left_eq, List.take_length, ObCl, and_true, true_and, push_cast, Nat.reduceEqDiff, Nat.reduceBEq, Nat.reduceBNe, Nat.reduceAdd, Nat.reduceMul, Nat.reduceLT, Nat.reduceLeDiff, Nat.reduceSub, reduceCtorEq, Int.reduceToNat, ↓reduceIte]⟩
  · rintro ⟨k, m⟩ hk
    simp only at hk
    have hw : IntKind.i64.wrap ((k : Int) + 1) = k + 1 := wrap_id (by omega) (by omega)
    rcases Nat.lt_or_ge k xs.length with hlt | hge
    · have hd := szS_drop m hlt
      try simp -implicitDefEqProofs only [hw, push_cast, Nat.reduceEqDiff, Nat.reduceBEq, Nat.reduceBNe, Nat.reduceAdd, Nat.reduceMul, Nat.reduceLT, Nat.reduceLeDiff, Nat.reduceSub, reduceCtorEq, Int.reduceToNat, ↓reduceIte]
      repeat'
        (first
         | (refine And.intro ?_ ?_)
         | (intro hx)
         | ((first
             | (refine callGF ?_)
             | (refine callQGF ?_)
             | (refine callS (l1In_gives _ _ _ _) ?_)
             | (refine callQ (l1In_gives _ _ _ _) ?_)
             | (refine callG (fun hc => (l1In_gives _ _ _ _)) ?_)
             | (refine callQG (fun hc => (l1In_gives _ _ _ _)) ?_)); simp -implicitDefEqProofs only [hw, push_cast, Nat.reduceEqDiff, Nat.reduceBEq, Nat.reduceBNe, Nat.reduceAdd, Nat.reduceMul, Nat.reduceLT, Nat.reduceLeDiff, Nat.reduceSub, reduceCtorEq, Int.reduceToNat, ↓reduceIte]))
      all_goals first
        | omega
        | (refine round_mk0 (k + 1, IntKind.i64.wrap (m - (xs.getD k []).length)) ⟨by simp only; omega, ?_⟩ (by simp only; omega) ⟨[], ?_⟩
           · rw [hk.2, hd, if_neg]
             omega
           · simp -implicitDefEqProofs only [hw, Int.natCast_add, Int.cast_ofNat_Int, List.length_nil, Nat.le_refl, WeakTo, tokSts, tokOks, List.append_cancel_left_eq, exists_eq_left', exists_eq_left, List.append_cancel_left_eq, List.take_length, ObCl, and_true, true_and, push_cast, Nat.reduceEqDiff, Nat.reduceBEq, Nat.reduceBNe, Nat.reduceAdd, Nat.reduceMul, Nat.reduceLT, Nat.reduceLeDiff, Nat.reduceSub, reduceCtorEq, Int.reduceToNat, ↓reduceIte])
        | (rw [hk.2, hd, if_pos]
           omega)
    · try simp -implicitDefEqProofs only [hw, push_cast, Nat.reduceEqDiff, Nat.reduceBEq, Nat.reduceBNe, Nat.reduceAdd, Nat.reduceMul, Nat.reduceLT, Nat.reduceLeDiff, Nat.reduceSub, reduceCtorEq, Int.reduceToNat, ↓reduceIte]
      repeat'
        (first
         | (refine And.intro ?_ ?_)
         | (intro hx)
         | ((first
             | (refine callGF ?_)
             | (refine callQGF ?_)
             | (refine callS (in_gives ..) ?_)
             | (refine callQ (in_gives ..) ?_)
             | (refine callG (fun hc => (in_gives ..)) ?_)
             | (refine callQG (fun hc => (in_gives ..)) ?_)); simp -implicitDefEqProofs only [hw, push_cast, Nat.reduceEqDiff, Nat.reduceBEq, Nat.reduceBNe, Nat.reduceAdd, Nat.reduceMul, Nat.reduceLT, Nat.reduceLeDiff, Nat.reduceSub, reduceCtorEq, Int.reduceToNat, ↓reduceIte]))
      all_goals first
        | omega
        | (obtain rfl : k = xs.length := by omega
           rw [hk.2, List.drop_length, szS])
def szT (n : Int) (t : Trip) : Int := if szSs n t.legs < 0 then -1 else if IntKind.i64.wrap (szSs n t.legs - t.fare.length) < 0 then -1 else IntKind.i64.wrap (szSs n t.legs - t.fare.length)
theorem szTrip_gives (t : Trip) (n : Int) (h : Hp) : Gives Try.prog 48 [t.d, .int .i64 n] h (.int .i64 (szT n t)) := by
  refine meets_of [] mixed Try.func48 rfl (by kernel_rfl) (by kernel_rfl) (by rw [Try.ntmps48]; simp only [List.length_cons, List.length_nil]; omega) (fun hf => ?_)
  rw [Try.results48]
  clear hf
  try simp -implicitDefEqProofs only [push_cast, Nat.reduceEqDiff, Nat.reduceBEq, Nat.reduceBNe, Nat.reduceAdd, Nat.reduceMul, Nat.reduceLT, Nat.reduceLeDiff, Nat.reduceSub, reduceCtorEq, Int.reduceToNat, ↓reduceIte]
  repeat'
    (first
     | (refine And.intro ?_ ?_)
     | (intro hx)
     | ((first
         | (refine callGF ?_)
         | (refine callQGF ?_)
         | (refine callS (szStringS_gives _ _ _) ?_)
         | (refine callQ (szStringS_gives _ _ _) ?_)
         | (refine callG (fun hc => (szStringS_gives _ _ _)) ?_)
         | (refine callQG (fun hc => (szStringS_gives _ _ _)) ?_)); simp -implicitDefEqProofs only [push_cast, Nat.reduceEqDiff, Nat.reduceBEq, Nat.reduceBNe, Nat.reduceAdd, Nat.reduceMul, Nat.reduceLT, Nat.reduceLeDiff, Nat.reduceSub, reduceCtorEq, Int.reduceToNat, ↓reduceIte]))
  all_goals (simp only [szT]; grind)
theorem toTrip_gives (t : Trip) (h : Hp) : Gives Try.prog 50 [t.d] h t.d := by
  refine meets_of [] mixed Try.func50 rfl (by kernel_rfl) (by kernel_rfl) (by rw [Try.ntmps50]; simp only [List.length_cons, List.length_nil]; omega) (fun hf => ?_)
  rw [Try.results50]
  clear hf
  try simp -implicitDefEqProofs only [push_cast, Nat.reduceEqDiff, Nat.reduceBEq, Nat.reduceBNe, Nat.reduceAdd, Nat.reduceMul, Nat.reduceLT, Nat.reduceLeDiff, Nat.reduceSub, reduceCtorEq, Int.reduceToNat, ↓reduceIte]
  repeat'
    (first
     | (refine And.intro ?_ ?_)
     | ((first
         | (refine callGF ?_)
         | (refine callQGF ?_)
         | (refine callS (toStringS_gives _ _) ?_)
         | (refine callQ (toStringS_gives _ _) ?_)
         | (refine callG (fun hc => (toStringS_gives _ _)) ?_)
         | (refine callQG (fun hc => (toStringS_gives _ _)) ?_)); simp -implicitDefEqProofs only [push_cast, Nat.reduceEqDiff, Nat.reduceBEq, Nat.reduceBNe, Nat.reduceAdd, Nat.reduceMul, Nat.reduceLT, Nat.reduceLeDiff, Nat.reduceSub, reduceCtorEq, Int.reduceToNat, ↓reduceIte]))
def eqTripB (a b : Trip) : Bool := decide (a.legs = b.legs) && decide (a.fare = b.fare) && decide (a.seats = b.seats)
theorem eqTripB_self (a : Trip) : eqTripB a a = true := by
  simp [eqTripB]
theorem eqTrip_gives (a b : Trip) (h : Hp) : Gives Try.prog 52 [a.d, b.d] h (.bool (eqTripB a b)) := by
  refine meets_of [] mixed Try.func52 rfl (by kernel_rfl) (by kernel_rfl) (by rw [Try.ntmps52]; simp only [List.length_cons, List.length_nil]; omega) (fun hf => ?_)
  rw [Try.results52]
  clear hf
  try simp -implicitDefEqProofs only [push_cast, Nat.reduceEqDiff, Nat.reduceBEq, Nat.reduceBNe, Nat.reduceAdd, Nat.reduceMul, Nat.reduceLT, Nat.reduceLeDiff, Nat.reduceSub, reduceCtorEq, Int.reduceToNat, ↓reduceIte]
  repeat'
    (first
     | (refine And.intro ?_ ?_)
     | (intro hx)
     | ((first
         | (refine callGF ?_)
         | (refine callQGF ?_)
         | (refine callS (eqStringS_gives _ _ _) ?_)
         | (refine callQ (eqStringS_gives _ _ _) ?_)
         | (refine callG (fun hc => (eqStringS_gives _ _ _)) ?_)
         | (refine callQG (fun hc => (eqStringS_gives _ _ _)) ?_)); simp -implicitDefEqProofs only [push_cast, Nat.reduceEqDiff, Nat.reduceBEq, Nat.reduceBNe, Nat.reduceAdd, Nat.reduceMul, Nat.reduceLT, Nat.reduceLeDiff, Nat.reduceSub, reduceCtorEq, Int.reduceToNat, ↓reduceIte]))
  all_goals (simp only [eqTripB]; grind)

/-- where a trip's leg is -/
def tripIdx (net : List Leg) (t : Trip) (i : Nat) : Int := legIdx net (t.legs.getD i [])
def tripLeg (net : List Leg) (t : Trip) (i : Nat) : Leg := net.getD (tripIdx net t i).toNat default
def nextB (a b : Leg) : Bool := decide (a.dst = b.src) && decide (a.arr < b.dep)
def tripAt (net : List Leg) (t : Trip) (i : Nat) : Bool := decide (0 ≤ tripIdx net t i) && (decide (i = 0) || nextB (tripLeg net t (i - 1)) (tripLeg net t i))
def fitsB (net : List Leg) (t : Trip) : Bool := formB t && allB t.legs.length (tripAt net t)
theorem tripIdx_lt {net : List Leg} {t : Trip} {i : Nat} (h : 0 ≤ tripIdx net t i) : tripIdx net t i < net.length := by
  obtain ⟨k, k1, k2, _⟩ := idxV_spec (default : Leg) h
  rw [tripIdx, legIdx, k1]
  omega
theorem leg_at' {xs : List Leg} {k : Int} (h0 : 0 ≤ k) (h : k < xs.length) : (xs.map Leg.d).getD k.toNat (.agg [.str [], .str [], .str [], .int .i64 0, .int .i64 0, .int .i64 0, .slice [] .full, .slice [] .full, .slice [] .full, .slice [] .full]) = .agg (xs.getD k.toNat default).cs := leg_at (by omega)
theorem next_gives (a b : Leg) (h : Hp) : Gives Try.prog 118 [a.d, b.d] h (.bool (nextB a b)) := by
  refine meets_of [] mixed Try.func118 rfl (by kernel_rfl) (by kernel_rfl) (by rw [Try.ntmps118]; simp only [List.length_cons, List.length_nil]; omega) (fun hf => ?_)
  rw [Try.results118]
  clear hf
  try simp -implicitDefEqProofs only [push_cast, Nat.reduceEqDiff, Nat.reduceBEq, Nat.reduceBNe, Nat.reduceAdd, Nat.reduceMul, Nat.reduceLT, Nat.reduceLeDiff, Nat.reduceSub, reduceCtorEq, Int.reduceToNat, ↓reduceIte]
  repeat'
    (first
     | (refine And.intro ?_ ?_)
     | (intro hx)
     | ((first
         | (refine callGF ?_)
         | (refine callQGF ?_)
         | (refine callS (l1In_gives _ _ _ _) ?_)
         | (refine callQ (l1In_gives _ _ _ _) ?_)
         | (refine callG (fun hc => (l1In_gives _ _ _ _)) ?_)
         | (refine callQG (fun hc => (l1In_gives _ _ _ _)) ?_)); simp -implicitDefEqProofs only [push_cast, Nat.reduceEqDiff, Nat.reduceBEq, Nat.reduceBNe, Nat.reduceAdd, Nat.reduceMul, Nat.reduceLT, Nat.reduceLeDiff, Nat.reduceSub, reduceCtorEq, Int.reduceToNat, ↓reduceIte]))
  all_goals (simp only [nextB])
theorem specFits_gives (net : List Leg) (t : Trip) (h : Hp) : Gives Try.prog 94 [.slice (net.map Leg.d) .no, t.d] h (.bool (fitsB net t)) := by
  refine meets_of [] mixed Try.func94 rfl (by kernel_rfl) (by kernel_rfl) (by rw [Try.ntmps94]; simp only [List.length_cons, List.length_nil]; omega) (fun hf => ?_)
  rw [Try.results94]
  obtain ⟨hl, _⟩ := Trip.fit (hf t.d (by simp))
  clear hf
  try simp -implicitDefEqProofs only [push_cast, Nat.reduceEqDiff, Nat.reduceBEq, Nat.reduceBNe, Nat.reduceAdd, Nat.reduceMul, Nat.reduceLT, Nat.reduceLeDiff, Nat.reduceSub, reduceCtorEq, Int.reduceToNat, ↓reduceIte]
  repeat'
    (first
     | (refine And.intro ?_ ?_)
     | (intro hx)
     | ((first
         | (refine callGF ?_)
         | (refine callQGF ?_)
         | (refine callS (specForm_gives t _) ?_)
         | (refine callQ (specForm_gives t _) ?_)
         | (refine callG (fun hc => (specForm_gives t _)) ?_)
         | (refine callQG (fun hc => (specForm_gives t _)) ?_)); simp -implicitDefEqProofs only [push_cast, Nat.reduceEqDiff, Nat.reduceBEq, Nat.reduceBNe, Nat.reduceAdd, Nat.reduceMul, Nat.reduceLT, Nat.reduceLeDiff, Nat.reduceSub, reduceCtorEq, Int.reduceToNat, ↓reduceIte]))
  · simp only [fitsB, hx]; rfl
  have hform := hx
  refine ev_loop [] (fun k : Nat => [(0, .slice (net.map Leg.d) .no), (3, .ptr h.length 0), (5, .int .i64 k)]) (fun _ => [.row t.cs]) (fun k => k ≤ t.legs.length ∧ ∀ i, i < k → tripAt net t i = true) (fun k => t.legs.length - k) 0 trivial ⟨Nat.zero_le _, fun i hi => absurd hi (Nat.not_lt_zero i)⟩ ?_ ?_
  · refine ⟨1, by simp, by simp [tokSts], ?_⟩
    simp -implicitDefEqProofs only [Int.natCast_add, Int.cast_ofNat_Int, List.length_nil, Nat.le_refl, WeakTo, tokSts, tokOks, List.append_cancel_left_eq, exists_eq_left', exists_eq_left, List.append_cancel_left_eq, List.take_length, ObCl, and_true, true_and, push_cast, Nat.reduceEqDiff, Nat.reduceBEq, Nat.reduceBNe, Nat.reduceAdd, Nat.reduceMul, Nat.reduceLT, Nat.reduceLeDiff, Nat.reduceSub, reduceCtorEq, Int.reduceToNat, ↓reduceIte]
  · intro k hk
    have hw : IntKind.i64.wrap ((k : Int) + 1) = k + 1 := wrap_id (by omega) (by omega)
    have hw1 : IntKind.i64.wrap ((k : Int) - 1) = k - 1 := wrap_id (by omega) (by omega)
    have hp : ((k : Int) - 1).toNat = k - 1 := by omega
    rcases Nat.lt_or_ge k t.legs.length with hlt | hge
    · have hlo := idxV_lo (p := fun l : Leg => decide (l.name = t.legs.getD k [])) (xs := net)
      rcases Int.lt_or_le (tripIdx net t k) 0 with h0 | h0
      · have hd : decide (legIdx net (t.legs.getD k []) < 0) = true := decide_eq_true h0
        try simp -implicitDefEqProofs only [hw, hd, push_cast, Nat.reduceEqDiff, Nat.reduceBEq, Nat.reduceBNe, Nat.reduceAdd, Nat.reduceMul, Nat.reduceLT, Nat.reduceLeDiff, Nat.reduceSub, reduceCtorEq, Int.reduceToNat, ↓reduceIte]
        repeat'
          (first
           | (refine And.intro ?_ ?_)
           | (intro hx)
           | ((first
               | (refine callGF ?_)
               | (refine callQGF ?_)
               | (refine callS (specLegAt_gives net _ _) ?_)
               | (refine callQ (specLegAt_gives net _ _) ?_)
               | (refine callG (fun hc => (specLegAt_gives net _ _)) ?_)
               | (refine callQG (fun hc => (specLegAt_gives net _ _)) ?_)
               | (refine callS (next_gives default default _) ?_)
               | (refine callQ (next_gives default default _) ?_)
               | (refine callG (fun hc => (next_gives default default _)) ?_)
               | (refine callQG (fun hc => (next_gives default default _)) ?_)); simp -implicitDefEqProofs only [hw, hd, push_cast, Nat.reduceEqDiff, Nat.reduceBEq, Nat.reduceBNe, Nat.reduceAdd, Nat.reduceMul, Nat.reduceLT, Nat.reduceLeDiff, Nat.reduceSub, reduceCtorEq, Int.reduceToNat, ↓reduceIte]))
        all_goals first
          | omega
          | (have e : fitsB net t = false := by
               rw [fitsB, allB_f k hlt (by rw [tripAt, decide_eq_false (by omega)]; rfl), Bool.and_false]
             rw [e])
      · have hd : decide (legIdx net (t.legs.getD k []) < 0) = false := decide_eq_false (by rw [tripIdx] at h0; omega)
        have hi := tripIdx_lt h0
        have hL := leg_at' h0 hi
        rw [tripIdx] at hL hi
        by_cases hz : k = 0
        · have hd2 : decide (0 < (k : Int)) = false := decide_eq_false (by omega)
          try simp -implicitDefEqProofs only [hw, hd, hd2, hL, push_cast, Nat.reduceEqDiff, Nat.reduceBEq, Nat.reduceBNe, Nat.reduceAdd, Nat.reduceMul, Nat.reduceLT, Nat.reduceLeDiff, Nat.reduceSub, reduceCtorEq, Int.reduceToNat, ↓reduceIte]
          repeat'
            (first
             | (refine And.intro ?_ ?_)
             | (intro hx)
             | ((first
                 | (refine callGF ?_)
                 | (refine callQGF ?_)
                 | (refine callS (specLegAt_gives net _ _) ?_)
                 | (refine callQ (specLegAt_gives net _ _) ?_)
                 | (refine callG (fun hc => (specLegAt_gives net _ _)) ?_)
                 | (refine callQG (fun hc => (specLegAt_gives net _ _)) ?_)
                 | (refine callS (next_gives default default _) ?_)
                 | (refine callQ (next_gives default default _) ?_)
                 | (refine callG (fun hc => (next_gives default default _)) ?_)
                 | (refine callQG (fun hc => (next_gives default default _)) ?_)); simp -implicitDefEqProofs only [hw, hd, hd2, hL, push_cast, Nat.reduceEqDiff, Nat.reduceBEq, Nat.reduceBNe, Nat.reduceAdd, Nat.reduceMul, Nat.reduceLT, Nat.reduceLeDiff, Nat.reduceSub, reduceCtorEq, Int.reduceToNat, ↓reduceIte]))
          all_goals first
            | omega
            | (refine round_mk (k + 1) ⟨by omega, allB_step hk.2 ?_⟩ (by omega) ?_
               · rw [tripAt, decide_eq_true h0, decide_eq_true hz]; rfl
               · simp -implicitDefEqProofs only [hw, Int.natCast_add, Int.cast_ofNat_Int, List.length_nil, Nat.le_refl, WeakTo, tokSts, tokOks, List.append_cancel_left_eq, exists_eq_left', exists_eq_left, List.append_cancel_left_eq, List.take_length, ObCl, and_true, true_and, push_cast, Nat.reduceEqDiff, Nat.reduceBEq, Nat.reduceBNe, Nat.reduceAdd, Nat.reduceMul, Nat.reduceLT, Nat.reduceLeDiff, Nat.reduceSub, reduceCtorEq, Int.reduceToNat, ↓reduceIte])
        · have hd2 : decide (0 < (k : Int)) = true := decide_eq_true (by omega)
          have hb := hk.2 (k - 1) (by omega)
          have hb0 : 0 ≤ tripIdx net t (k - 1) := by
            rw [tripAt, Bool.and_eq_true, decide_eq_true_eq] at hb
            exact hb.1
          have hbi := tripIdx_lt hb0
          have hL2 := leg_at' hb0 hbi
          rw [tripIdx] at hL2 hbi hb0
          rw [tripIdx] at h0
          try simp -implicitDefEqProofs only [hw, hw1, hp, hd, hd2, hL, hL2, push_cast, Nat.reduceEqDiff, Nat.reduceBEq, Nat.reduceBNe, Nat.reduceAdd, Nat.reduceMul, Nat.reduceLT, Nat.reduceLeDiff, Nat.reduceSub, reduceCtorEq, Int.reduceToNat, ↓reduceIte]
          repeat'
            (first
             | (refine And.intro ?_ ?_)
             | (intro hx)
             | ((first
                 | (refine callGF ?_)
                 | (refine callQGF ?_)
                 | (refine callS (specLegAt_gives net _ _) ?_)
                 | (refine callQ (specLegAt_gives net _ _) ?_)
                 | (refine callG (fun hc => (specLegAt_gives net _ _)) ?_)
                 | (refine callQG (fun hc => (specLegAt_gives net _ _)) ?_)
                 | (refine callS (next_gives (tripLeg net t (k - 1)) (tripLeg net t k) _) ?_)
                 | (refine callQ (next_gives (tripLeg net t (k - 1)) (tripLeg net t k) _) ?_)
                 | (refine callG (fun hc => (next_gives (tripLeg net t (k - 1)) (tripLeg net t k) _)) ?_)
                 | (refine callQG (fun hc => (next_gives (tripLeg net t (k - 1)) (tripLeg net t k) _)) ?_)); simp -implicitDefEqProofs only [hw, hw1, hp, hd, hd2, hL, hL2, push_cast, Nat.reduceEqDiff, Nat.reduceBEq, Nat.reduceBNe, Nat.reduceAdd, Nat.reduceMul, Nat.reduceLT, Nat.reduceLeDiff, Nat.reduceSub, reduceCtorEq, Int.reduceToNat, ↓reduceIte]))
          all_goals first
            | omega
            | (have e : fitsB net t = false := by
                 rw [fitsB, allB_f k hlt (by rw [tripAt, hx, decide_eq_false hz]; exact Bool.and_false _), Bool.and_false]
               rw [e])
            | (refine round_mk (k + 1) ⟨by omega, allB_step hk.2 ?_⟩ (by omega) ?_
               · rw [tripAt, hx, tripIdx, decide_eq_true h0, Bool.or_true]; rfl
               · simp -implicitDefEqProofs only [hw, Int.natCast_add, Int.cast_ofNat_Int, List.length_nil, Nat.le_refl, WeakTo, tokSts, tokOks, List.append_cancel_left_eq, exists_eq_left', exists_eq_left, List.append_cancel_left_eq, List.take_length, ObCl, and_true, true_and, push_cast, Nat.reduceEqDiff, Nat.reduceBEq, Nat.reduceBNe, Nat.reduceAdd, Nat.reduceMul, Nat.reduceLT, Nat.reduceLeDiff, Nat.reduceSub, reduceCtorEq, Int.reduceToNat, ↓reduceIte])
    · try simp -implicitDefEqProofs only [hw, push_cast, Nat.reduceEqDiff, Nat.reduceBEq, Nat.reduceBNe, Nat.reduceAdd, Nat.reduceMul, Nat.reduceLT, Nat.reduceLeDiff, Nat.reduceSub, reduceCtorEq, Int.reduceToNat, ↓reduceIte]
      repeat'
        (first
         | (refine And.intro ?_ ?_)
         | (intro hx)
         | ((first
             | (refine callGF ?_)
             | (refine callQGF ?_)
             | (refine callS (in_gives ..) ?_)
             | (refine callQ (in_gives ..) ?_)
             | (refine callG (fun hc => (in_gives ..)) ?_)
             | (refine callQG (fun hc => (in_gives ..)) ?_)); simp -implicitDefEqProofs only [hw, push_cast, Nat.reduceEqDiff, Nat.reduceBEq, Nat.reduceBNe, Nat.reduceAdd, Nat.reduceMul, Nat.reduceLT, Nat.reduceLeDiff, Nat.reduceSub, reduceCtorEq, Int.reduceToNat, ↓reduceIte]))
      all_goals first
        | omega
        | (obtain rfl : k = t.legs.length := by omega
           rw [fitsB, allB_t hk.2, hform]
           rfl)

def lastCs (net : List Leg) (t : Trip) : Nat → List D
  | 0 => [.str [], .str [], .str [], .int .i64 0, .int .i64 (-1), .int .i64 0, .slice [] .full, .slice [] .full, .slice [] .full, .slice [] .full]
  | k + 1 => (tripLeg net t k).cs
theorem lastCs_cl (net : List Leg) (t : Trip) (n : Nat) : ∀ k d, d ∈ lastCs net t k → Cl n d
  | 0 => by simp only [lastCs, List.mem_cons, List.not_mem_nil, or_false, forall_eq_or_imp, forall_eq, cl_int, cl_str, cl_full, and_self, implies_true]
  | k + 1 => Leg.cl n _
theorem implFits_gives (net : List Leg) (t : Trip) (h : Hp) : Gives Try.prog 96 [t.d, .slice (net.map Leg.d) .no] h (.bool (fitsB net t)) := by
  refine meets_of [] mixed Try.func96 rfl (by kernel_rfl) (by kernel_rfl) (by rw [Try.ntmps96]; simp only [List.length_cons, List.length_nil]; omega) (fun hf => ?_)
  rw [Try.results96]
  obtain ⟨hl, _⟩ := Trip.fit (hf t.d (by simp))
  clear hf
  try simp -implicitDefEqProofs only [push_cast, Nat.reduceEqDiff, Nat.reduceBEq, Nat.reduceBNe, Nat.reduceAdd, Nat.reduceMul, Nat.reduceLT, Nat.reduceLeDiff, Nat.reduceSub, reduceCtorEq, Int.reduceToNat, ↓reduceIte]
  repeat'
    (first
     | (refine And.intro ?_ ?_)
     | (intro hx)
     | ((first
         | (refine callGF ?_)
         | (refine callQGF ?_)
         | (refine callS (formed_gives t _) ?_)
         | (refine callQ (formed_gives t _) ?_)
         | (refine callG (fun hc => (formed_gives t _)) ?_)
         | (refine callQG (fun hc => (formed_gives t _)) ?_)); simp -implicitDefEqProofs only [push_cast, Nat.reduceEqDiff, Nat.reduceBEq, Nat.reduceBNe, Nat.reduceAdd, Nat.reduceMul, Nat.reduceLT, Nat.reduceLeDiff, Nat.reduceSub, reduceCtorEq, Int.reduceToNat, ↓reduceIte]))
  · simp only [fitsB, hx]; rfl
  have hform := hx
  refine ev_loop [] (fun k : Nat => [(1, .slice (net.map Leg.d) .no), (2, .ptr h.length 0), (5, .ptr (h.length + 1) 0), (14, .slice (t.legs.map .str) .no), (15, .int .i64 t.legs.length), (16, .int .i64 k)])
    (fun k => [.row t.cs, .row (lastCs net t k)]) (fun k => k ≤ t.legs.length ∧ ∀ i, i < k → tripAt net t i = true) (fun k => t.legs.length - k) 0 trivial ⟨Nat.zero_le _, fun i hi => absurd hi (Nat.not_lt_zero i)⟩ ?_ ?_
  · refine ⟨2, by simp, by simp [tokSts], ?_⟩
    simp -implicitDefEqProofs only [lastCs, Int.natCast_add, Int.cast_ofNat_Int, List.length_nil, Nat.le_refl, WeakTo, tokSts, tokOks, List.append_cancel_left_eq, exists_eq_left', exists_eq_left, List.append_cancel_left_eq, List.take_length, ObCl, and_true, true_and, push_cast, Nat.reduceEqDiff, Nat.reduceBEq, Nat.reduceBNe, Nat.reduceAdd, Nat.reduceMul, Nat.reduceLT, Nat.reduceLeDiff, Nat.reduceSub, reduceCtorEq, Int.reduceToNat, ↓reduceIte]
    omega
  · intro k hk
    have hw : IntKind.i64.wrap ((k : Int) + 1) = k + 1 := wrap_id (by omega) (by omega)
    have hlc := lastCs_cl net t
    rcases Nat.lt_or_ge k t.legs.length with hlt | hge
    · have hlo := idxV_lo (p := fun l : Leg => decide (l.name = t.legs.getD k [])) (xs := net)
      rcases Int.lt_or_le (tripIdx net t k) 0 with h0 | h0
      · have hd : decide (legIdx net (t.legs.getD k []) < 0) = true := decide_eq_true h0
        try simp -implicitDefEqProofs only [hw, hd, push_cast, Nat.reduceEqDiff, Nat.reduceBEq, Nat.reduceBNe, Nat.reduceAdd, Nat.reduceMul, Nat.reduceLT, Nat.reduceLeDiff, Nat.reduceSub, reduceCtorEq, Int.reduceToNat, ↓reduceIte]
        repeat'
          (first
           | (refine And.intro ?_ ?_)
           | (intro hx)
           | ((first
               | (refine callGF ?_)
               | (refine callQGF ?_)
               | (refine callS (legAt_gives net _ _) ?_)
               | (refine callQ (legAt_gives net _ _) ?_)
               | (refine callG (fun hc => (legAt_gives net _ _)) ?_)
               | (refine callQG (fun hc => (legAt_gives net _ _)) ?_)); simp -implicitDefEqProofs only [hw, hd, push_cast, Nat.reduceEqDiff, Nat.reduceBEq, Nat.reduceBNe, Nat.reduceAdd, Nat.reduceMul, Nat.reduceLT, Nat.reduceLeDiff, Nat.reduceSub, reduceCtorEq, Int.reduceToNat, ↓reduceIte]))
        all_goals first
          | omega
          | (have e : fitsB net t = false := by
               rw [fitsB, allB_f k hlt (by rw [tripAt, decide_eq_false (by omega)]; rfl), Bool.and_false]
             rw [e])
      · have hd : decide (legIdx net (t.legs.getD k []) < 0) = false := decide_eq_false (by rw [tripIdx] at h0; omega)
        have hi := tripIdx_lt h0
        have hL := leg_at' h0 hi
        rw [tripIdx] at hL hi
        by_cases hz : k = 0
        · have hd2 : decide (0 < (k : Int)) = false := decide_eq_false (by omega)
          have hlast : lastCs net t k = lastCs net t 0 := by rw [hz]
          rw [lastCs] at hlast
          try simp -implicitDefEqProofs only [hw, hd, hd2, hL, hlast, push_cast, Nat.reduceEqDiff, Nat.reduceBEq, Nat.reduceBNe, Nat.reduceAdd, Nat.reduceMul, Nat.reduceLT, Nat.reduceLeDiff, Nat.reduceSub, reduceCtorEq, Int.reduceToNat, ↓reduceIte]
          repeat'
            (first
             | (refine And.intro ?_ ?_)
             | (intro hx)
             | ((first
                 | (refine callGF ?_)
                 | (refine callQGF ?_)
                 | (refine callS (legAt_gives net _ _) ?_)
                 | (refine callQ (legAt_gives net _ _) ?_)
                 | (refine callG (fun hc => (legAt_gives net _ _)) ?_)
                 | (refine callQG (fun hc => (legAt_gives net _ _)) ?_)); simp -implicitDefEqProofs only [hw, hd, hd2, hL, hlast, push_cast, Nat.reduceEqDiff, Nat.reduceBEq, Nat.reduceBNe, Nat.reduceAdd, Nat.reduceMul, Nat.reduceLT, Nat.reduceLeDiff, Nat.reduceSub, reduceCtorEq, Int.reduceToNat, ↓reduceIte]))
          all_goals first
            | omega
            | exact h0
            | (refine round_mk (k + 1) ⟨by omega, allB_step hk.2 ?_⟩ (by omega) ?_
               · rw [tripAt, decide_eq_true h0, decide_eq_true hz]; rfl
               · simp -implicitDefEqProofs only [hw, lastCs, tripLeg, tripIdx, Int.natCast_add, Int.cast_ofNat_Int, List.length_nil, Nat.le_refl, WeakTo, tokSts, tokOks, List.append_cancel_left_eq, exists_eq_left', exists_eq_left, List.append_cancel_left_eq, List.take_length, ObCl, and_true, true_and, push_cast, Nat.reduceEqDiff, Nat.reduceBEq, Nat.reduceBNe, Nat.reduceAdd, Nat.reduceMul, Nat.reduceLT, Nat.reduceLeDiff, Nat.reduceSub, reduceCtorEq, Int.reduceToNat, ↓reduceIte]
                 try omega)
        · have hd2 : decide (0 < (k : Int)) = true := decide_eq_true (by omega)
          have hlast : lastCs net t k = (tripLeg net t (k - 1)).cs := by
            obtain ⟨j, rfl⟩ : ∃ j, k = j + 1 := ⟨k - 1, by omega⟩
            rfl
          try simp -implicitDefEqProofs only [hw, hd, hd2, hL, hlast, push_cast, Nat.reduceEqDiff, Nat.reduceBEq, Nat.reduceBNe, Nat.reduceAdd, Nat.reduceMul, Nat.reduceLT, Nat.reduceLeDiff, Nat.reduceSub, reduceCtorEq, Int.reduceToNat, ↓reduceIte]
          repeat'
            (first
             | (refine And.intro ?_ ?_)
             | (intro hx)
             | ((first
                 | (refine callGF ?_)
                 | (refine callQGF ?_)
                 | (refine callS (legAt_gives net _ _) ?_)
                 | (refine callQ (legAt_gives net _ _) ?_)
                 | (refine callG (fun hc => (legAt_gives net _ _)) ?_)
                 | (refine callQG (fun hc => (legAt_gives net _ _)) ?_)); simp -implicitDefEqProofs only [hw, hd, hd2, hL, hlast, push_cast, Nat.reduceEqDiff, Nat.reduceBEq, Nat.reduceBNe, Nat.reduceAdd, Nat.reduceMul, Nat.reduceLT, Nat.reduceLeDiff, Nat.reduceSub, reduceCtorEq, Int.reduceToNat, ↓reduceIte]))
          all_goals first
            | omega
            | exact h0
            | (have e : fitsB net t = false := by
                 rw [fitsB, allB_f k hlt (by rw [tripAt, nextB, decide_eq_false hz]; simp only [tripLeg, tripIdx] at *; grind), Bool.and_false]
               rw [e])
            | (refine round_mk (k + 1) ⟨by omega, allB_step hk.2 ?_⟩ (by omega) ?_
               · rw [tripAt, nextB, decide_eq_true h0, decide_eq_false hz]; simp only [tripLeg, tripIdx] at *; grind
               · simp -implicitDefEqProofs only [hw, lastCs, tripLeg, tripIdx, Int.natCast_add, Int.cast_ofNat_Int, List.length_nil, Nat.le_refl, WeakTo, tokSts, tokOks, List.append_cancel_left_eq, exists_eq_left', exists_eq_left, List.append_cancel_left_eq, List.take_length, ObCl, and_true, true_and, push_cast, Nat.reduceEqDiff, Nat.reduceBEq, Nat.reduceBNe, Nat.reduceAdd, Nat.reduceMul, Nat.reduceLT, Nat.reduceLeDiff, Nat.reduceSub, reduceCtorEq, Int.reduceToNat, ↓reduceIte]
                 try omega)
    · try simp -implicitDefEqProofs only [hw, push_cast, Nat.reduceEqDiff, Nat.reduceBEq, Nat.reduceBNe, Nat.reduceAdd, Nat.reduceMul, Nat.reduceLT, Nat.reduceLeDiff, Nat.reduceSub, reduceCtorEq, Int.reduceToNat, ↓reduceIte]
      repeat'
        (first
         | (refine And.intro ?_ ?_)
         | (intro hx)
         | ((first
             | (refine callGF ?_)
             | (refine callQGF ?_)
             | (refine callS (in_gives ..) ?_)
             | (refine callQ (in_gives ..) ?_)
             | (refine callG (fun hc => (in_gives ..)) ?_)
             | (refine callQG (fun hc => (in_gives ..)) ?_)); simp -implicitDefEqProofs only [hw, push_cast, Nat.reduceEqDiff, Nat.reduceBEq, Nat.reduceBNe, Nat.reduceAdd, Nat.reduceMul, Nat.reduceLT, Nat.reduceLeDiff, Nat.reduceSub, reduceCtorEq, Int.reduceToNat, ↓reduceIte]))
      all_goals first
        | omega
        | (obtain rfl : k = t.legs.length := by omega
           rw [fitsB, allB_t hk.2, hform]
           rfl)

theorem implTripOk_gives (net : List Leg) (t : Trip) (h : Hp) : Gives Try.prog 51 [.slice (net.map Leg.d) .no, t.d] h (.bool (netB net && fitsB net t)) := by
  refine meets_of [] mixed Try.func51 rfl (by kernel_rfl) (by kernel_rfl) (by rw [Try.ntmps51]; simp only [List.length_cons, List.length_nil]; omega) (fun hf => ?_)
  rw [Try.results51]
  clear hf
  try simp -implicitDefEqProofs only [push_cast, Nat.reduceEqDiff, Nat.reduceBEq, Nat.reduceBNe, Nat.reduceAdd, Nat.reduceMul, Nat.reduceLT, Nat.reduceLeDiff, Nat.reduceSub, reduceCtorEq, Int.reduceToNat, ↓reduceIte]
  repeat'
    (first
     | (refine And.intro ?_ ?_)
     | (intro hx)
     | ((first
         | (refine callGF ?_)
         | (refine callQGF ?_)
         | (refine callS (implNetOk_gives net _) ?_)
         | (refine callQ (implNetOk_gives net _) ?_)
         | (refine callG (fun hc => (implNetOk_gives net _)) ?_)
         | (refine callQG (fun hc => (implNetOk_gives net _)) ?_)
         | (refine callS (implFits_gives net t _) ?_)
         | (refine callQ (implFits_gives net t _) ?_)
         | (refine callG (fun hc => (implFits_gives net t _)) ?_)
         | (refine callQG (fun hc => (implFits_gives net t _)) ?_)); simp -implicitDefEqProofs only [push_cast, Nat.reduceEqDiff, Nat.reduceBEq, Nat.reduceBNe, Nat.reduceAdd, Nat.reduceMul, Nat.reduceLT, Nat.reduceLeDiff, Nat.reduceSub, reduceCtorEq, Int.reduceToNat, ↓reduceIte]))
theorem specTripOk_gives (net : List Leg) (t : Trip) (h : Hp) : Gives Try.prog 49 [.slice (net.map Leg.d) .no, t.d] h (.bool (netB net && fitsB net t)) := by
  refine meets_of [] mixed Try.func49 rfl (by kernel_rfl) (by kernel_rfl) (by rw [Try.ntmps49]; simp only [List.length_cons, List.length_nil]; omega) (fun hf => ?_)
  rw [Try.results49]
  clear hf
  try simp -implicitDefEqProofs only [push_cast, Nat.reduceEqDiff, Nat.reduceBEq, Nat.reduceBNe, Nat.reduceAdd, Nat.reduceMul, Nat.reduceLT, Nat.reduceLeDiff, Nat.reduceSub, reduceCtorEq, Int.reduceToNat, ↓reduceIte]
  repeat'
    (first
     | (refine And.intro ?_ ?_)
     | (intro hx)
     | ((first
         | (refine callGF ?_)
         | (refine callQGF ?_)
         | (refine callS (specNetOk_gives net _) ?_)
         | (refine callQ (specNetOk_gives net _) ?_)
         | (refine callG (fun hc => (specNetOk_gives net _)) ?_)
         | (refine callQG (fun hc => (specNetOk_gives net _)) ?_)
         | (refine callS (specFits_gives net t _) ?_)
         | (refine callQ (specFits_gives net t _) ?_)
         | (refine callG (fun hc => (specFits_gives net t _)) ?_)
         | (refine callQG (fun hc => (specFits_gives net t _)) ?_)); simp -implicitDefEqProofs only [push_cast, Nat.reduceEqDiff, Nat.reduceBEq, Nat.reduceBNe, Nat.reduceAdd, Nat.reduceMul, Nat.reduceLT, Nat.reduceLeDiff, Nat.reduceSub, reduceCtorEq, Int.reduceToNat, ↓reduceIte]))
theorem fnExactTripOk_gives (net : List Leg) (t : Trip) (h : Hp) : Gives Try.prog 14 [.slice (net.map Leg.d) .no, t.d] h (.bool true) := by
  refine meets_of [] mixed Try.func14 rfl (by kernel_rfl) (by kernel_rfl) (by rw [Try.ntmps14]; simp only [List.length_cons, List.length_nil]; omega) (fun hf => ?_)
  rw [Try.results14]
  clear hf
  have he := eqSB_self eqLegB_self net
  have he2 := eqTripB_self t
  try simp -implicitDefEqProofs only [he, he2, push_cast, Nat.reduceEqDiff, Nat.reduceBEq, Nat.reduceBNe, Nat.reduceAdd, Nat.reduceMul, Nat.reduceLT, Nat.reduceLeDiff, Nat.reduceSub, reduceCtorEq, Int.reduceToNat, ↓reduceIte]
  repeat'
    (first
     | (refine And.intro ?_ ?_)
     | (intro hx)
     | ((first
         | (refine callGF ?_)
         | (refine callQGF ?_)
         | (refine callS (szLegS_gives net _ _) ?_)
         | (refine callQ (szLegS_gives net _ _) ?_)
         | (refine callG (fun hc => (szLegS_gives net _ _)) ?_)
         | (refine callQG (fun hc => (szLegS_gives net _ _)) ?_)
         | (refine callS (szTrip_gives t _ _) ?_)
         | (refine callQ (szTrip_gives t _ _) ?_)
         | (refine callG (fun hc => (szTrip_gives t _ _)) ?_)
         | (refine callQG (fun hc => (szTrip_gives t _ _)) ?_)
         | (refine callS (toLegS_gives net _) ?_)
         | (refine callQ (toLegS_gives net _) ?_)
         | (refine callG (fun hc => (toLegS_gives net _)) ?_)
         | (refine callQG (fun hc => (toLegS_gives net _)) ?_)
         | (refine callS (toTrip_gives t _) ?_)
         | (refine callQ (toTrip_gives t _) ?_)
         | (refine callG (fun hc => (toTrip_gives t _)) ?_)
         | (refine callQG (fun hc => (toTrip_gives t _)) ?_)
         | (refine callS (specTripOk_gives net t _) ?_)
         | (refine callQ (specTripOk_gives net t _) ?_)
         | (refine callG (fun hc => (specTripOk_gives net t _)) ?_)
         | (refine callQG (fun hc => (specTripOk_gives net t _)) ?_)
         | (refine callS (implTripOk_gives net t _) ?_)
         | (refine callQ (implTripOk_gives net t _) ?_)
         | (refine callG (fun hc => (implTripOk_gives net t _)) ?_)
         | (refine callQG (fun hc => (implTripOk_gives net t _)) ?_)
         | (refine callS (eqLegS_gives net net _) ?_)
         | (refine callQ (eqLegS_gives net net _) ?_)
         | (refine callG (fun hc => (eqLegS_gives net net _)) ?_)
         | (refine callQG (fun hc => (eqLegS_gives net net _)) ?_)
         | (refine callS (eqTrip_gives t t _) ?_)
         | (refine callQ (eqTrip_gives t t _) ?_)
         | (refine callG (fun hc => (eqTrip_gives t t _)) ?_)
         | (refine callQG (fun hc => (eqTrip_gives t t _)) ?_)); simp -implicitDefEqProofs only [he, he2, push_cast, Nat.reduceEqDiff, Nat.reduceBEq, Nat.reduceBNe, Nat.reduceAdd, Nat.reduceMul, Nat.reduceLT, Nat.reduceLeDiff, Nat.reduceSub, reduceCtorEq, Int.reduceToNat, ↓reduceIte]))
  all_goals grind
end Go.Proofs.Ytcomlmdpkafijaa
