/- Contracts of functions of the program (Ge). -/
import Derived.Test.YtcmpcpigchlhpaaGd

namespace Go.Proofs.Ytcmpcpigchlhpaa
set_option linter.unusedSectionVars false
open Go.Av
variable [Av.Start]
set_option maxRecDepth 10000
set_option linter.unusedSimpArgs false
set_option linter.unusedVariables false

def eqSB {α : Type} [Inhabited α] (B : α → α → Bool) (a b : List α) : Bool := decide (a.length = b.length) && allB a.length (fun i => B (a.getD i default) (b.getD i default))
omit [Av.Start] in
theorem eqSB_self {α : Type} [Inhabited α] {B : α → α → Bool} (hB : ∀ x, B x x = true) (a : List α) : eqSB B a a = true := by
  rw [eqSB, decide_eq_true rfl, allB_t (fun i _ => hB _)]
  rfl
omit [Av.Start] in
theorem Leg.cl (n : Nat) (l : Leg) : ∀ d, d ∈ l.cs → Cl n d := by
  simp only [Leg.cs, List.mem_cons, List.not_mem_nil, or_false, forall_eq_or_imp, forall_eq, cl_int, cl_str, cl_no, and_self]
omit [Av.Start] in
theorem zLeg_cl (n : Nat) : ∀ d, d ∈ ([.str [], .str [], .str [], .int .i64 0, .int .i64 0, .int .i64 0, .slice [] .full, .slice [] .full, .slice [] .full, .slice [] .full] : List D) → Cl n d := by
  simp only [List.mem_cons, List.not_mem_nil, or_false, forall_eq_or_imp, forall_eq, cl_int, cl_str, cl_full, and_self]

theorem toLegS_gives (a : List Leg) (h : Hp) : Gives Try.prog 12 [.slice (a.map Leg.d) .no] h (.slice (a.map Leg.d) .no) := by
  refine meets_of [] mixed Try.func12 rfl (by kernel_rfl) (by kernel_rfl) (by rw [Try.ntmps12]; simp only [List.length_cons, List.length_nil]; omega) (fun hf => ?_)
  rw [Try.results12]
  have hl : a.length ≤ 1073741824 := by simpa [fitsD, flen, lenMax] using hf
  clear hf
  try simp -implicitDefEqProofs only [push_cast, Nat.reduceEqDiff, Nat.reduceBEq, Nat.reduceBNe, Nat.reduceAdd, Nat.reduceMul, Nat.reduceLT, Nat.reduceLeDiff, Nat.reduceSub, reduceCtorEq, Int.reduceToNat, ↓reduceIte]
  repeat'
    (first
     | (refine uYes ?_; first | exact List.mem_cons_self | (simp only [List.mem_cons, List.not_mem_nil, or_false, true_or, or_true]; done))
     | (refine uNo (by kernel_rfl))
     | (refine flatMk ?_; kernel_rfl)
     | (refine And.intro ?_ ?_)
     | (intro hx)
     | ((first
         | (refine callGF ?_)
         | (refine callQGF ?_)
         | (refine skipG ?_)
         | (refine callS (l1In_gives _ _ _ _) ?_)
         | (refine callQ (l1In_gives _ _ _ _) ?_)
         | (refine callG (fun hc => (l1In_gives _ _ _ _)) ?_)
         | (refine callQG (fun hc => (l1In_gives _ _ _ _)) ?_)); simp -implicitDefEqProofs only [push_cast, Nat.reduceEqDiff, Nat.reduceBEq, Nat.reduceBNe, Nat.reduceAdd, Nat.reduceMul, Nat.reduceLT, Nat.reduceLeDiff, Nat.reduceSub, reduceCtorEq, Int.reduceToNat, ↓reduceIte]))
  · omega
  · simp only [lenMax]; omega
  · omega
  refine ev_loop [] (fun k : Nat => [(0, .slice (a.map Leg.d) .no), (3, .vec h.length true 10 0 a.length a.length), (4, .int .i64 k)])
    (fun k => [.row (fillRow Leg.cs [.str [], .str [], .str [], .int .i64 0, .int .i64 0, .int .i64 0, .slice [] .full, .slice [] .full, .slice [] .full, .slice [] .full] a k)]) (fun k => k ≤ a.length) (fun k => a.length - k) 0 trivial (Nat.zero_le _) ?_ ?_
  · refine ⟨1, by simp, by simp [tokSts], ?_⟩
    simp -implicitDefEqProofs only [Int.natCast_add, Int.cast_ofNat_Int, List.length_nil, Nat.le_refl, WeakTo, tokSts, tokOks, List.append_cancel_left_eq, exists_eq_left', exists_eq_left, List.append_cancel_left_eq, List.take_length, ObCl, and_true, true_and, push_cast, Nat.reduceEqDiff, Nat.reduceBEq, Nat.reduceBNe, Nat.reduceAdd, Nat.reduceMul, Nat.reduceLT, Nat.reduceLeDiff, Nat.reduceSub, reduceCtorEq, Int.reduceToNat, ↓reduceIte, fillRow_zero]
    exact fun d hd => zLeg_cl _ _ (mem_zeros hd)
  · intro k hk
    have hw : IntKind.i64.wrap ((k : Int) + 1) = k + 1 := wrap_id (by omega) (by omega)
    have hf := fillRow_length (f := Leg.cs) (z := [.str [], .str [], .str [], .int .i64 0, .int .i64 0, .int .i64 0, .slice [] .full, .slice [] .full, .slice [] .full, .slice [] .full]) (m := 10) (fun _ => rfl) rfl a hk
    have ht := take_flat (f := Leg.cs) (m := 10) (fun _ => rfl) a
    rcases Nat.lt_or_ge k a.length with hlt | hge
    · have hL := leg_at hlt
      have hs := fillRow_splice (f := Leg.cs) (z := [.str [], .str [], .str [], .int .i64 0, .int .i64 0, .int .i64 0, .slice [] .full, .slice [] .full, .slice [] .full, .slice [] .full]) (m := 10) (fun _ => rfl) rfl a default (k := k) (by omega)
      simp -implicitDefEqProofs only [push_cast, Nat.reduceEqDiff, Nat.reduceBEq, Nat.reduceBNe, Nat.reduceAdd, Nat.reduceMul, Nat.reduceLT, Nat.reduceLeDiff, Nat.reduceSub, reduceCtorEq, Int.reduceToNat, ↓reduceIte] at hs
      try simp -implicitDefEqProofs only [hw, hf, hL, push_cast, Nat.reduceEqDiff, Nat.reduceBEq, Nat.reduceBNe, Nat.reduceAdd, Nat.reduceMul, Nat.reduceLT, Nat.reduceLeDiff, Nat.reduceSub, reduceCtorEq, Int.reduceToNat, ↓reduceIte]
      repeat'
        (first
         | (refine uYes ?_; first | exact List.mem_cons_self | (simp only [List.mem_cons, List.not_mem_nil, or_false, true_or, or_true]; done))
         | (refine uNo (by kernel_rfl))
         | (refine flatMk ?_; kernel_rfl)
         | (refine And.intro ?_ ?_)
         | (intro hx)
         | ((first
             | (refine callGF ?_)
             | (refine callQGF ?_)
             | (refine skipG ?_)
             | (refine callS (toLeg_gives (a.getD k default) _) ?_)
             | (refine callQ (toLeg_gives (a.getD k default) _) ?_)
             | (refine callG (fun hc => (toLeg_gives (a.getD k default) _)) ?_)
             | (refine callQG (fun hc => (toLeg_gives (a.getD k default) _)) ?_)); simp -implicitDefEqProofs only [hw, hf, hL, push_cast, Nat.reduceEqDiff, Nat.reduceBEq, Nat.reduceBNe, Nat.reduceAdd, Nat.reduceMul, Nat.reduceLT, Nat.reduceLeDiff, Nat.reduceSub, reduceCtorEq, Int.reduceToNat, ↓reduceIte]))
      all_goals try omega
      refine round_mk (k + 1) (by omega) (by omega) ?_
      simp -implicitDefEqProofs only [hw, hs, Int.natCast_add, Int.cast_ofNat_Int, List.length_nil, Nat.le_refl, WeakTo, tokSts, tokOks, List.append_cancel_left_eq, exists_eq_left', exists_eq_left, List.append_cancel_left_eq, List.take_length, ObCl, and_true, true_and, push_cast, Nat.reduceEqDiff, Nat.reduceBEq, Nat.reduceBNe, Nat.reduceAdd, Nat.reduceMul, Nat.reduceLT, Nat.reduceLeDiff, Nat.reduceSub, reduceCtorEq, Int.reduceToNat, ↓reduceIte]
      intro d hd
      rcases mem_fillRow hd with hd | ⟨x, _, hd⟩
      · exact zLeg_cl _ _ hd
      · exact Leg.cl _ _ _ hd
    · obtain rfl : k = a.length := by omega
      have hr : rowPart (h ++ [Ob.row (fillRow Leg.cs [.str [], .str [], .str [], .int .i64 0, .int .i64 0, .int .i64 0, .slice [] .full, .slice [] .full, .slice [] .full, .slice [] .full] a a.length)]) (List.length h) 10 0 a.length = a.flatMap Leg.cs := by
        simp only [rowPart, fillRow_full, ob_app0, ob_zero, rowOf, Nat.zero_mul, List.drop_zero, ht]
      try simp -implicitDefEqProofs only [hw, hf, hr, push_cast, Nat.reduceEqDiff, Nat.reduceBEq, Nat.reduceBNe, Nat.reduceAdd, Nat.reduceMul, Nat.reduceLT, Nat.reduceLeDiff, Nat.reduceSub, reduceCtorEq, Int.reduceToNat, ↓reduceIte]
      repeat'
        (first
         | (refine uYes ?_; first | exact List.mem_cons_self | (simp only [List.mem_cons, List.not_mem_nil, or_false, true_or, or_true]; done))
         | (refine uNo (by kernel_rfl))
         | (refine flatMk ?_; kernel_rfl)
         | (refine And.intro ?_ ?_)
         | (intro hx)
         | ((first
             | (refine callGF ?_)
             | (refine callQGF ?_)
             | (refine skipG ?_)
             | (refine callS (toLeg_gives (a.getD k default) _) ?_)
             | (refine callQ (toLeg_gives (a.getD k default) _) ?_)
             | (refine callG (fun hc => (toLeg_gives (a.getD k default) _)) ?_)
             | (refine callQG (fun hc => (toLeg_gives (a.getD k default) _)) ?_)); simp -implicitDefEqProofs only [hw, hf, hr, push_cast, Nat.reduceEqDiff, Nat.reduceBEq, Nat.reduceBNe, Nat.reduceAdd, Nat.reduceMul, Nat.reduceLT, Nat.reduceLeDiff, Nat.reduceSub, reduceCtorEq, Int.reduceToNat, ↓reduceIte]))
      all_goals first
        | omega
        | (obtain ⟨x, _, hd⟩ := List.mem_flatMap.1 hx
           exact Leg.cl _ _ _ hd)
        | exact chunk_map (g := Leg.d) (m := 10) (by omega) (fun _ => rfl) (fun _ => rfl) a _ rfl

theorem eqLegS_gives (a b : List Leg) (h : Hp) : Gives Try.prog 15 [.slice (a.map Leg.d) .no, .slice (b.map Leg.d) .no] h (.bool (eqSB eqLegB a b)) := by
  refine meets_of [] mixed Try.func15 rfl (by kernel_rfl) (by kernel_rfl) (by rw [Try.ntmps15]; simp only [List.length_cons, List.length_nil]; omega) (fun hf => ?_)
  rw [Try.results15]
  have hl : a.length ≤ 1073741824 := by simpa using slice_fit (hf (.slice (a.map Leg.d) .no) (by simp))
  clear hf
  try simp -implicitDefEqProofs only [push_cast, Nat.reduceEqDiff, Nat.reduceBEq, Nat.reduceBNe, Nat.reduceAdd, Nat.reduceMul, Nat.reduceLT, Nat.reduceLeDiff, Nat.reduceSub, reduceCtorEq, Int.reduceToNat, ↓reduceIte]
  repeat'
    (first
     | (refine uYes ?_; first | exact List.mem_cons_self | (simp only [List.mem_cons, List.not_mem_nil, or_false, true_or, or_true]; done))
     | (refine uNo (by kernel_rfl))
     | (refine flatMk ?_; kernel_rfl)
     | (refine And.intro ?_ ?_)
     | (intro hx)
     | ((first
         | (refine callGF ?_)
         | (refine callQGF ?_)
         | (refine skipG ?_)
         | (refine callS (l1In_gives _ _ _ _) ?_)
         | (refine callQ (l1In_gives _ _ _ _) ?_)
         | (refine callG (fun hc => (l1In_gives _ _ _ _)) ?_)
         | (refine callQG (fun hc => (l1In_gives _ _ _ _)) ?_)); simp -implicitDefEqProofs only [push_cast, Nat.reduceEqDiff, Nat.reduceBEq, Nat.reduceBNe, Nat.reduceAdd, Nat.reduceMul, Nat.reduceLT, Nat.reduceLeDiff, Nat.reduceSub, reduceCtorEq, Int.reduceToNat, ↓reduceIte]))
  · rw [eqSB, decide_eq_false (by omega)]
    rfl
  refine ev_loop0 [] (fun k : Nat => [(0, .slice (a.map Leg.d) .no), (1, .slice (b.map Leg.d) .no), (5, .int .i64 k)]) (fun k => k ≤ a.length ∧ ∀ i, i < k → eqLegB (a.getD i default) (b.getD i default) = true) (fun k => a.length - k) 0 trivial ⟨Nat.zero_le _, fun i hi => absurd hi (Nat.not_lt_zero i)⟩ ?_ ?_
  · exact ⟨rfl, [], by simp -implicitDefEqProofs only [Int.natCast_add, Int.cast_ofNat_Int, List.length_nil, Nat.le_refl, WeakTo, tokSts, tokOks, List.append_cancel_left_eq, exists_eq_left', exists_eq_left, List.append_cancel_left_eq, List.take_length, ObCl, and_true, true_and, push_cast, Nat.reduceEqDiff, Nat.reduceBEq, Nat.reduceBNe, Nat.reduceAdd, Nat.reduceMul, Nat.reduceLT, Nat.reduceLeDiff, Nat.reduceSub, reduceCtorEq, Int.reduceToNat, ↓reduceIte]⟩
  · intro k hk
    have hw : IntKind.i64.wrap ((k : Int) + 1) = k + 1 := wrap_id (by omega) (by omega)
    rcases Nat.lt_or_ge k a.length with hlt | hge
    · have hL := leg_at hlt
      have hL2 := leg_at (xs := b) (k := k) (by omega)
      try simp -implicitDefEqProofs only [hw, hL, hL2, push_cast, Nat.reduceEqDiff, Nat.reduceBEq, Nat.reduceBNe, Nat.reduceAdd, Nat.reduceMul, Nat.reduceLT, Nat.reduceLeDiff, Nat.reduceSub, reduceCtorEq, Int.reduceToNat, ↓reduceIte]
      repeat'
        (first
         | (refine uYes ?_; first | exact List.mem_cons_self | (simp only [List.mem_cons, List.not_mem_nil, or_false, true_or, or_true]; done))
         | (refine uNo (by kernel_rfl))
         | (refine flatMk ?_; kernel_rfl)
         | (refine And.intro ?_ ?_)
         | (intro hx)
         | ((first
             | (refine callGF ?_)
             | (refine callQGF ?_)
             | (refine skipG ?_)
             | (refine callS (eqLeg_gives (a.getD k default) (b.getD k default) _) ?_)
             | (refine callQ (eqLeg_gives (a.getD k default) (b.getD k default) _) ?_)
             | (refine callG (fun hc => (eqLeg_gives (a.getD k default) (b.getD k default) _)) ?_)
             | (refine callQG (fun hc => (eqLeg_gives (a.getD k default) (b.getD k default) _)) ?_)); simp -implicitDefEqProofs only [hw, hL, hL2, push_cast, Nat.reduceEqDiff, Nat.reduceBEq, Nat.reduceBNe, Nat.reduceAdd, Nat.reduceMul, Nat.reduceLT, Nat.reduceLeDiff, Nat.reduceSub, reduceCtorEq, Int.reduceToNat, ↓reduceIte]))
      all_goals first
        | omega
        | (refine round_mk0 (k + 1) ⟨by omega, allB_step hk.2 hx⟩ (by omega) ⟨[], ?_⟩
           simp -implicitDefEqProofs only [hw, Int.natCast_add, Int.cast_ofNat_Int, List.length_nil, Nat.le_refl, WeakTo, tokSts, tokOks, List.append_cancel_left_eq, exists_eq_left', exists_eq_left, List.append_cancel_left_eq, List.take_length, ObCl, and_true, true_and, push_cast, Nat.reduceEqDiff, Nat.reduceBEq, Nat.reduceBNe, Nat.reduceAdd, Nat.reduceMul, Nat.reduceLT, Nat.reduceLeDiff, Nat.reduceSub, reduceCtorEq, Int.reduceToNat, ↓reduceIte])
        | (rw [eqSB, allB_f k hlt hx, Bool.and_false])
    · try simp -implicitDefEqProofs only [hw, push_cast, Nat.reduceEqDiff, Nat.reduceBEq, Nat.reduceBNe, Nat.reduceAdd, Nat.reduceMul, Nat.reduceLT, Nat.reduceLeDiff, Nat.reduceSub, reduceCtorEq, Int.reduceToNat, ↓reduceIte]
      repeat'
        (first
         | (refine uYes ?_; first | exact List.mem_cons_self | (simp only [List.mem_cons, List.not_mem_nil, or_false, true_or, or_true]; done))
         | (refine uNo (by kernel_rfl))
         | (refine flatMk ?_; kernel_rfl)
         | (refine And.intro ?_ ?_)
         | (intro hx)
         | ((first
             | (refine callGF ?_)
             | (refine callQGF ?_)
             | (refine skipG ?_)
             | (refine callS (l1In_gives _ _ _ _) ?_)
             | (refine callQ (l1In_gives _ _ _ _) ?_)
             | (refine callG (fun hc => (l1In_gives _ _ _ _)) ?_)
             | (refine callQG (fun hc => (l1In_gives _ _ _ _)) ?_)); simp -implicitDefEqProofs only [hw, push_cast, Nat.reduceEqDiff, Nat.reduceBEq, Nat.reduceBNe, Nat.reduceAdd, Nat.reduceMul, Nat.reduceLT, Nat.reduceLeDiff, Nat.reduceSub, reduceCtorEq, Int.reduceToNat, ↓reduceIte]))
      all_goals first
        | omega
        | (rw [eqSB, decide_eq_true (by omega), allB_t (fun i hi => hk.2 i (by omega))]
           rfl)

def szL (n : Int) (l : Leg) : Int := szGo n [l.name.length, l.src.length, l.dst.length, l.limits.length, l.sold.length, l.bids.length, l.holds.length]
def szLs : Int → List Leg → Int
  | n, [] => n
  | n, l :: ls => if szL n l < 0 then -1 else szLs (szL n l) ls
omit [Av.Start] in
theorem szLs_drop (n : Int) {net : List Leg} {k : Nat} (h : k < net.length) : szLs n (net.drop k) = if szL n (net.getD k default) < 0 then -1 else szLs (szL n (net.getD k default)) (net.drop (k + 1)) := by
  rw [List.drop_eq_getElem_cons h, szLs, List.getD_eq_getElem?_getD, List.getElem?_eq_getElem h]
  rfl
theorem szLegS_gives (net : List Leg) (n : Int) (h : Hp) : Gives Try.prog 10 [.slice (net.map Leg.d) .no, .int .i64 n] h (.int .i64 (if IntKind.i64.wrap (n - net.length) < 0 then -1 else szLs (IntKind.i64.wrap (n - net.length)) net)) := by
  refine meets_of [] mixed Try.func10 rfl (by kernel_rfl) (by kernel_rfl) (by rw [Try.ntmps10]; simp only [List.length_cons, List.length_nil]; omega) (fun hf => ?_)
  rw [Try.results10]
  have hl : net.length ≤ 1073741824 := by simpa using slice_fit (hf (.slice (net.map Leg.d) .no) (by simp))
  clear hf
  try simp -implicitDefEqProofs only [push_cast, Nat.reduceEqDiff, Nat.reduceBEq, Nat.reduceBNe, Nat.reduceAdd, Nat.reduceMul, Nat.reduceLT, Nat.reduceLeDiff, Nat.reduceSub, reduceCtorEq, Int.reduceToNat, ↓reduceIte]
  repeat'
    (first
     | (refine uYes ?_; first | exact List.mem_cons_self | (simp only [List.mem_cons, List.not_mem_nil, or_false, true_or, or_true]; done))
     | (refine uNo (by kernel_rfl))
     | (refine flatMk ?_; kernel_rfl)
     | (refine And.intro ?_ ?_)
     | (intro hx)
     | ((first
         | (refine callGF ?_)
         | (refine callQGF ?_)
         | (refine skipG ?_)
         | (refine callS (l1In_gives _ _ _ _) ?_)
         | (refine callQ (l1In_gives _ _ _ _) ?_)
         | (refine callG (fun hc => (l1In_gives _ _ _ _)) ?_)
         | (refine callQG (fun hc => (l1In_gives _ _ _ _)) ?_)); simp -implicitDefEqProofs only [push_cast, Nat.reduceEqDiff, Nat.reduceBEq, Nat.reduceBNe, Nat.reduceAdd, Nat.reduceMul, Nat.reduceLT, Nat.reduceLeDiff, Nat.reduceSub, reduceCtorEq, Int.reduceToNat, ↓reduceIte]))
  · rw [if_pos hx]
  rw [if_neg (by omega)]
  refine ev_loop0 [] (fun x : Nat × Int => [(0, .slice (net.map Leg.d) .no), (1, .int .i64 x.2), (5, .int .i64 x.1)]) (fun x => x.1 ≤ net.length ∧ szLs (IntKind.i64.wrap (n - net.length)) net = szLs x.2 (net.drop x.1)) (fun x => net.length - x.1) (0, IntKind.i64.wrap (n - net.length)) trivial ⟨Nat.zero_le _, by rw [List.drop_zero]⟩ ?_ ?_
  · exact ⟨rfl, [], by simp -implicitDefEqProofs only [Int.natCast_add, Int.cast_ofNat_Int, List.length_nil, Nat.le_refl, WeakTo, tokSts, tokOks, List.append_cancel_left_eq, exists_eq_left', exists_eq_left, List.append_cancel_left_eq, List.take_length, ObCl, and_true, true_and, push_cast, Nat.reduceEqDiff, Nat.reduceBEq, Nat.reduceBNe, Nat.reduceAdd, Nat.reduceMul, Nat.reduceLT, Nat.reduceLeDiff, Nat.reduceSub, reduceCtorEq, Int.reduceToNat, ↓reduceIte]⟩
  · rintro ⟨k, m⟩ hk
    simp only at hk
    have hw : IntKind.i64.wrap ((k : Int) + 1) = k + 1 := wrap_id (by omega) (by omega)
    rcases Nat.lt_or_ge k net.length with hlt | hge
    · have hL := leg_at hlt
      have hd := szLs_drop m hlt
      try simp -implicitDefEqProofs only [hw, hL, push_cast, Nat.reduceEqDiff, Nat.reduceBEq, Nat.reduceBNe, Nat.reduceAdd, Nat.reduceMul, Nat.reduceLT, Nat.reduceLeDiff, Nat.reduceSub, reduceCtorEq, Int.reduceToNat, ↓reduceIte]
      repeat'
        (first
         | (refine uYes ?_; first | exact List.mem_cons_self | (simp only [List.mem_cons, List.not_mem_nil, or_false, true_or, or_true]; done))
         | (refine uNo (by kernel_rfl))
         | (refine flatMk ?_; kernel_rfl)
         | (refine And.intro ?_ ?_)
         | (intro hx)
         | ((first
             | (refine callGF ?_)
             | (refine callQGF ?_)
             | (refine skipG ?_)
             | (refine callS (szLeg_gives (net.getD k default) m _) ?_)
             | (refine callQ (szLeg_gives (net.getD k default) m _) ?_)
             | (refine callG (fun hc => (szLeg_gives (net.getD k default) m _)) ?_)
             | (refine callQG (fun hc => (szLeg_gives (net.getD k default) m _)) ?_)); simp -implicitDefEqProofs only [hw, hL, push_cast, Nat.reduceEqDiff, Nat.reduceBEq, Nat.reduceBNe, Nat.reduceAdd, Nat.reduceMul, Nat.reduceLT, Nat.reduceLeDiff, Nat.reduceSub, reduceCtorEq, Int.reduceToNat, ↓reduceIte]))
      all_goals first
        | omega
        | (refine round_mk0 (k + 1, szL m (net.getD k default)) ⟨by simp only; omega, ?_⟩ (by simp only; omega) ⟨[], ?_⟩
           · rw [hk.2, hd, if_neg]
             simp only [szL]
             omega
           · simp -implicitDefEqProofs only [szL, hw, Int.natCast_add, Int.cast_ofNat_Int, List.length_nil, Nat.le_refl, WeakTo, tokSts, tokOks, List.append_cancel_left_eq, exists_eq_left', exists_eq_left, List.append_cancel_left_eq, List.take_length, ObCl, and_true, true_and, push_cast, Nat.reduceEqDiff, Nat.reduceBEq, Nat.reduceBNe, Nat.reduceAdd, Nat.reduceMul, Nat.reduceLT, Nat.reduceLeDiff, Nat.reduceSub, reduceCtorEq, Int.reduceToNat, ↓reduceIte])
        | (rw [hk.2, hd, if_pos]
           simp only [szL]
           omega)
    · try simp -implicitDefEqProofs only [hw, push_cast, Nat.reduceEqDiff, Nat.reduceBEq, Nat.reduceBNe, Nat.reduceAdd, Nat.reduceMul, Nat.reduceLT, Nat.reduceLeDiff, Nat.reduceSub, reduceCtorEq, Int.reduceToNat, ↓reduceIte]
      repeat'
        (first
         | (refine uYes ?_; first | exact List.mem_cons_self | (simp only [List.mem_cons, List.not_mem_nil, or_false, true_or, or_true]; done))
         | (refine uNo (by kernel_rfl))
         | (refine flatMk ?_; kernel_rfl)
         | (refine And.intro ?_ ?_)
         | (intro hx)
         | ((first
             | (refine callGF ?_)
             | (refine callQGF ?_)
             | (refine skipG ?_)
             | (refine callS (in_gives ..) ?_)
             | (refine callQ (in_gives ..) ?_)
             | (refine callG (fun hc => (in_gives ..)) ?_)
             | (refine callQG (fun hc => (in_gives ..)) ?_)); simp -implicitDefEqProofs only [hw, push_cast, Nat.reduceEqDiff, Nat.reduceBEq, Nat.reduceBNe, Nat.reduceAdd, Nat.reduceMul, Nat.reduceLT, Nat.reduceLeDiff, Nat.reduceSub, reduceCtorEq, Int.reduceToNat, ↓reduceIte]))
      all_goals first
        | omega
        | (obtain rfl : k = net.length := by omega
           rw [hk.2, List.drop_length, szLs])

end Go.Proofs.Ytcmpcpigchlhpaa

namespace Go.Proofs.Ytcmpcpigchlhpaa
set_option linter.unusedSectionVars false
open Go.Av
variable [Av.Start]
set_option maxRecDepth 10000
set_option linter.unusedSimpArgs false
set_option linter.unusedVariables false

structure Trip where
  legs : List (List UInt8)
  fare : List UInt8
  seats : Int
def Trip.cs (t : Trip) : List D := [.slice (t.legs.map .str) .no, .str t.fare, .int .i64 t.seats]
def Trip.d (t : Trip) : D := .agg t.cs
attribute [push_cast] Trip.cs Trip.d
omit [Av.Start] in
theorem Trip.fit {t : Trip} (h : fitsD t.d) : t.legs.length ≤ 1073741824 ∧ t.fare.length ≤ 1073741824 := by
  simpa [fitsD, Trip.d, Trip.cs, flen, lenMax] using h

theorem indexStr_gives (xs : List (List UInt8)) (s : List UInt8) (h : Hp) : Gives Try.prog 109 [.slice (xs.map .str) .no, .str s] h (.int .i64 (idxV (fun x => decide (s = x)) xs)) := by
  refine meets_of [] mixed Try.func109 rfl (by kernel_rfl) (by kernel_rfl) (by rw [Try.ntmps109]; simp only [List.length_cons, List.length_nil]; omega) (fun hf => ?_)
  rw [Try.results109]
  have hl : xs.length ≤ 1073741824 := by simpa using slice_fit (hf (.slice (xs.map .str) .no) (by simp))
  clear hf
  simp -implicitDefEqProofs only [push_cast, Nat.reduceEqDiff, Nat.reduceBEq, Nat.reduceBNe, Nat.reduceAdd, Nat.reduceMul, Nat.reduceLT, Nat.reduceLeDiff, Nat.reduceSub, reduceCtorEq, Int.reduceToNat, ↓reduceIte]
  refine ev_loop0 [] (fun k : Nat => [(0, .slice (xs.map .str) .no), (1, .str s), (7, .int .i64 xs.length), (8, .int .i64 k)]) (fun k => k ≤ xs.length ∧ ∀ i, i < k → ¬s = xs.getD i []) (fun k => xs.length - k) 0 trivial ⟨Nat.zero_le _, fun i hi => absurd hi (Nat.not_lt_zero i)⟩ ?_ ?_
  · refine ⟨rfl, [], ?_⟩
    simp -implicitDefEqProofs only [Int.natCast_add, Int.cast_ofNat_Int, List.length_nil, Nat.le_refl, WeakTo, tokSts, tokOks, List.append_cancel_left_eq, exists_eq_left', exists_eq_left, List.append_cancel_left_eq, List.take_length, ObCl, and_true, true_and, push_cast, Nat.reduceEqDiff, Nat.reduceBEq, Nat.reduceBNe, Nat.reduceAdd, Nat.reduceMul, Nat.reduceLT, Nat.reduceLeDiff, Nat.reduceSub, reduceCtorEq, Int.reduceToNat, ↓reduceIte]
  · intro k hk
    have hw : IntKind.i64.wrap ((k : Int) + 1) = k + 1 := wrap_id (by omega) (by omega)
    try simp -implicitDefEqProofs only [hw, push_cast, Nat.reduceEqDiff, Nat.reduceBEq, Nat.reduceBNe, Nat.reduceAdd, Nat.reduceMul, Nat.reduceLT, Nat.reduceLeDiff, Nat.reduceSub, reduceCtorEq, Int.reduceToNat, ↓reduceIte]
    repeat'
      (first
       | (refine uYes ?_; first | exact List.mem_cons_self | (simp only [List.mem_cons, List.not_mem_nil, or_false, true_or, or_true]; done))
       | (refine uNo (by kernel_rfl))
       | (refine flatMk ?_; kernel_rfl)
       | (refine And.intro ?_ ?_)
       | (intro hx)
       | ((first
           | (refine callGF ?_)
           | (refine callQGF ?_)
           | (refine skipG ?_)
           | (refine callS (in_gives ..) ?_)
           | (refine callQ (in_gives ..) ?_)
           | (refine callG (fun hc => (in_gives ..)) ?_)
           | (refine callQG (fun hc => (in_gives ..)) ?_)); simp -implicitDefEqProofs only [hw, push_cast, Nat.reduceEqDiff, Nat.reduceBEq, Nat.reduceBNe, Nat.reduceAdd, Nat.reduceMul, Nat.reduceLT, Nat.reduceLeDiff, Nat.reduceSub, reduceCtorEq, Int.reduceToNat, ↓reduceIte]))
    all_goals first
      | omega
      | (refine round_mk0 (k + 1) ⟨by omega, fun i hi => ?_⟩ (by omega) ⟨[], ?_⟩
         · by_cases e : i = k
           · rw [e]; exact hx
           · exact hk.2 i (by omega)
         · simp -implicitDefEqProofs only [hw, Int.natCast_add, Int.cast_ofNat_Int, List.length_nil, Nat.le_refl, WeakTo, tokSts, tokOks, List.append_cancel_left_eq, exists_eq_left', exists_eq_left, List.append_cancel_left_eq, List.take_length, ObCl, and_true, true_and, push_cast, Nat.reduceEqDiff, Nat.reduceBEq, Nat.reduceBNe, Nat.reduceAdd, Nat.reduceMul, Nat.reduceLT, Nat.reduceLeDiff, Nat.reduceSub, reduceCtorEq, Int.reduceToNat, ↓reduceIte])
      | (rw [idxV_at [] (by omega) (fun i hi => decide_eq_false (hk.2 i hi)) (decide_eq_true hx)])
      | (rw [idxV_none [] (fun i hi => decide_eq_false (hk.2 i (by omega)))])
def hasB (xs : List (List UInt8)) (s : List UInt8) : Bool := decide (0 ≤ idxV (fun x => decide (s = x)) xs)
omit [Av.Start] in
theorem hasB_iff {xs : List (List UInt8)} {s : List UInt8} : hasB xs s = true ↔ s ∈ xs := by
  rw [hasB, decide_eq_true_eq]
  constructor
  · intro h
    obtain ⟨k, k1, k2, k3, _⟩ := idxV_spec ([] : List UInt8) h
    rw [of_decide_eq_true k3, List.getD_eq_getElem?_getD, List.getElem?_eq_getElem k2]
    exact List.getElem_mem k2
  · intro h
    rw [idxV, if_pos]
    · omega
    · rw [List.any_eq_true]
      exact ⟨s, h, decide_eq_true rfl⟩
theorem containsStr_gives (xs : List (List UInt8)) (s : List UInt8) (h : Hp) : Gives Try.prog 100 [.slice (xs.map .str) .no, .str s] h (.bool (hasB xs s)) := by
  refine meets_of [] mixed Try.func100 rfl (by kernel_rfl) (by kernel_rfl) (by rw [Try.ntmps100]; simp only [List.length_cons, List.length_nil]; omega) (fun hf => ?_)
  rw [Try.results100]
  clear hf
  try simp -implicitDefEqProofs only [push_cast, Nat.reduceEqDiff, Nat.reduceBEq, Nat.reduceBNe, Nat.reduceAdd, Nat.reduceMul, Nat.reduceLT, Nat.reduceLeDiff, Nat.reduceSub, reduceCtorEq, Int.reduceToNat, ↓reduceIte]
  repeat'
    (first
     | (refine uYes ?_; first | exact List.mem_cons_self | (simp only [List.mem_cons, List.not_mem_nil, or_false, true_or, or_true]; done))
     | (refine uNo (by kernel_rfl))
     | (refine flatMk ?_; kernel_rfl)
     | (refine And.intro ?_ ?_)
     | (intro hx)
     | ((first
         | (refine callGF ?_)
         | (refine callQGF ?_)
         | (refine skipG ?_)
         | (refine callS (indexStr_gives xs s _) ?_)
         | (refine callQ (indexStr_gives xs s _) ?_)
         | (refine callG (fun hc => (indexStr_gives xs s _)) ?_)
         | (refine callQG (fun hc => (indexStr_gives xs s _)) ?_)); simp -implicitDefEqProofs only [push_cast, Nat.reduceEqDiff, Nat.reduceBEq, Nat.reduceBNe, Nat.reduceAdd, Nat.reduceMul, Nat.reduceLT, Nat.reduceLeDiff, Nat.reduceSub, reduceCtorEq, Int.reduceToNat, ↓reduceIte]))
  all_goals rfl

/-- a name, and none of those ahead of it -/
def unlikeAt (xs : List (List UInt8)) (i : Nat) : Bool := nameB (xs.getD i []) && !hasB (xs.take i) (xs.getD i [])
omit [Av.Start] in
theorem hasB_take {xs : List (List UInt8)} {s : List UInt8} {i : Nat} (hi : i ≤ xs.length) : hasB (xs.take i) s = true ↔ ∃ j, j < i ∧ xs.getD j [] = s := by
  rw [hasB_iff, List.mem_iff_getElem]
  constructor
  · rintro ⟨j, hj, e⟩
    rw [List.length_take] at hj
    refine ⟨j, by omega, ?_⟩
    rw [← e, List.getElem_take, List.getD_eq_getElem?_getD, List.getElem?_eq_getElem (by omega)]
    rfl
  · rintro ⟨j, hj, e⟩
    refine ⟨j, by rw [List.length_take]; omega, ?_⟩
    rw [← e, List.getElem_take, List.getD_eq_getElem?_getD, List.getElem?_eq_getElem (by omega)]
    rfl
theorem unlike_gives (xs : List (List UInt8)) (h : Hp) : Gives Try.prog 84 [.slice (xs.map .str) .no] h (.bool (allB xs.length (unlikeAt xs))) := by
  refine meets_of [] mixed Try.func84 rfl (by kernel_rfl) (by kernel_rfl) (by rw [Try.ntmps84]; simp only [List.length_cons, List.length_nil]; omega) (fun hf => ?_)
  rw [Try.results84]
  have hl : xs.length ≤ 1073741824 := by simpa using slice_fit (hf (.slice (xs.map .str) .no) (by simp))
  clear hf
  simp -implicitDefEqProofs only [push_cast, Nat.reduceEqDiff, Nat.reduceBEq, Nat.reduceBNe, Nat.reduceAdd, Nat.reduceMul, Nat.reduceLT, Nat.reduceLeDiff, Nat.reduceSub, reduceCtorEq, Int.reduceToNat, ↓reduceIte]
  refine ev_loop0 [] (fun k : Nat => [(0, .slice (xs.map .str) .no), (5, .slice (xs.map .str) .no), (6, .int .i64 xs.length), (7, .int .i64 k)]) (fun k => k ≤ xs.length ∧ ∀ i, i < k → unlikeAt xs i = true) (fun k => xs.length - k) 0 trivial ⟨Nat.zero_le _, fun i hi => absurd hi (Nat.not_lt_zero i)⟩ ?_ ?_
  · refine ⟨rfl, [], ?_⟩
    simp -implicitDefEqProofs only [Int.natCast_add, Int.cast_ofNat_Int, List.length_nil, Nat.le_refl, WeakTo, tokSts, tokOks, List.append_cancel_left_eq, exists_eq_left', exists_eq_left, List.append_cancel_left_eq, List.take_length, ObCl, and_true, true_and, push_cast, Nat.reduceEqDiff, Nat.reduceBEq, Nat.reduceBNe, Nat.reduceAdd, Nat.reduceMul, Nat.reduceLT, Nat.reduceLeDiff, Nat.reduceSub, reduceCtorEq, Int.reduceToNat, ↓reduceIte]
  · intro k hk
    have hw : IntKind.i64.wrap ((k : Int) + 1) = k + 1 := wrap_id (by omega) (by omega)
    try simp -implicitDefEqProofs only [hw, push_cast, Nat.reduceEqDiff, Nat.reduceBEq, Nat.reduceBNe, Nat.reduceAdd, Nat.reduceMul, Nat.reduceLT, Nat.reduceLeDiff, Nat.reduceSub, reduceCtorEq, Int.reduceToNat, ↓reduceIte]
    repeat'
      (first
       | (refine uYes ?_; first | exact List.mem_cons_self | (simp only [List.mem_cons, List.not_mem_nil, or_false, true_or, or_true]; done))
       | (refine uNo (by kernel_rfl))
       | (refine flatMk ?_; kernel_rfl)
       | (refine And.intro ?_ ?_)
       | (intro hx)
       | ((first
           | (refine callGF ?_)
           | (refine callQGF ?_)
           | (refine skipG ?_)
           | (refine callS (implName_gives _ _) ?_)
           | (refine callQ (implName_gives _ _) ?_)
           | (refine callG (fun hc => (implName_gives _ _)) ?_)
           | (refine callQG (fun hc => (implName_gives _ _)) ?_)
           | (refine callS (containsStr_gives (xs.take k) _ _) ?_)
           | (refine callQ (containsStr_gives (xs.take k) _ _) ?_)
           | (refine callG (fun hc => (containsStr_gives (xs.take k) _ _)) ?_)
           | (refine callQG (fun hc => (containsStr_gives (xs.take k) _ _)) ?_)); simp -implicitDefEqProofs only [hw, push_cast, Nat.reduceEqDiff, Nat.reduceBEq, Nat.reduceBNe, Nat.reduceAdd, Nat.reduceMul, Nat.reduceLT, Nat.reduceLeDiff, Nat.reduceSub, reduceCtorEq, Int.reduceToNat, ↓reduceIte]))
    all_goals first
      | omega
      | (refine round_mk0 (k + 1) ⟨by omega, allB_step hk.2 ?_⟩ (by omega) ⟨[], ?_⟩
         · rw [unlikeAt]; grind
         · simp -implicitDefEqProofs only [hw, Int.natCast_add, Int.cast_ofNat_Int, List.length_nil, Nat.le_refl, WeakTo, tokSts, tokOks, List.append_cancel_left_eq, exists_eq_left', exists_eq_left, List.append_cancel_left_eq, List.take_length, ObCl, and_true, true_and, push_cast, Nat.reduceEqDiff, Nat.reduceBEq, Nat.reduceBNe, Nat.reduceAdd, Nat.reduceMul, Nat.reduceLT, Nat.reduceLeDiff, Nat.reduceSub, reduceCtorEq, Int.reduceToNat, ↓reduceIte])
      | (rw [allB_f k (by omega) (by rw [unlikeAt]; grind)])
      | (obtain rfl : k = xs.length := by omega
         rw [allB_t hk.2])
def formB (t : Trip) : Bool := inB t.legs.length 1 3 && allB t.legs.length (unlikeAt t.legs) && nameB t.fare && inB t.seats 1 4
theorem formed_gives (t : Trip) (h : Hp) : Gives Try.prog 52 [t.d] h (.bool (formB t)) := by
  refine meets_of [] mixed Try.func52 rfl (by kernel_rfl) (by kernel_rfl) (by rw [Try.ntmps52]; simp only [List.length_cons, List.length_nil]; omega) (fun hf => ?_)
  rw [Try.results52]
  clear hf
  try simp -implicitDefEqProofs only [push_cast, Nat.reduceEqDiff, Nat.reduceBEq, Nat.reduceBNe, Nat.reduceAdd, Nat.reduceMul, Nat.reduceLT, Nat.reduceLeDiff, Nat.reduceSub, reduceCtorEq, Int.reduceToNat, ↓reduceIte]
  repeat'
    (first
     | (refine uYes ?_; first | exact List.mem_cons_self | (simp only [List.mem_cons, List.not_mem_nil, or_false, true_or, or_true]; done))
     | (refine uNo (by kernel_rfl))
     | (refine flatMk ?_; kernel_rfl)
     | (refine And.intro ?_ ?_)
     | (intro hx)
     | ((first
         | (refine callGF ?_)
         | (refine callQGF ?_)
         | (refine skipG ?_)
         | (refine callS (implName_gives _ _) ?_)
         | (refine callQ (implName_gives _ _) ?_)
         | (refine callG (fun hc => (implName_gives _ _)) ?_)
         | (refine callQG (fun hc => (implName_gives _ _)) ?_)
         | (refine callS (in_gives _ _ _ _) ?_)
         | (refine callQ (in_gives _ _ _ _) ?_)
         | (refine callG (fun hc => (in_gives _ _ _ _)) ?_)
         | (refine callQG (fun hc => (in_gives _ _ _ _)) ?_)
         | (refine callS (unlike_gives _ _) ?_)
         | (refine callQ (unlike_gives _ _) ?_)
         | (refine callG (fun hc => (unlike_gives _ _)) ?_)
         | (refine callQG (fun hc => (unlike_gives _ _)) ?_)); simp -implicitDefEqProofs only [push_cast, Nat.reduceEqDiff, Nat.reduceBEq, Nat.reduceBNe, Nat.reduceAdd, Nat.reduceMul, Nat.reduceLT, Nat.reduceLeDiff, Nat.reduceSub, reduceCtorEq, Int.reduceToNat, ↓reduceIte]))
  all_goals (simp only [formB]; try grind)
theorem specForm_gives (t : Trip) (h : Hp) : Gives Try.prog 53 [t.d] h (.bool (formB t)) := by
  refine meets_of [] mixed Try.func53 rfl (by kernel_rfl) (by kernel_rfl) (by rw [Try.ntmps53]; simp only [List.length_cons, List.length_nil]; omega) (fun hf => ?_)
  rw [Try.results53]
  obtain ⟨hl, _⟩ := Trip.fit (hf t.d (by simp))
  clear hf
  simp -implicitDefEqProofs only [push_cast, Nat.reduceEqDiff, Nat.reduceBEq, Nat.reduceBNe, Nat.reduceAdd, Nat.reduceMul, Nat.reduceLT, Nat.reduceLeDiff, Nat.reduceSub, reduceCtorEq, Int.reduceToNat, ↓reduceIte]
  refine ev_loop [] (fun k : Nat => [(1, .ptr h.length 0), (3, .int .i64 k)]) (fun _ => [.row t.cs]) (fun k => k ≤ t.legs.length ∧ ∀ i, i < k → unlikeAt t.legs i = true) (fun k => t.legs.length - k) 0 trivial ⟨Nat.zero_le _, fun i hi => absurd hi (Nat.not_lt_zero i)⟩ ?_ ?_
  · refine ⟨1, by simp, by simp [tokSts], ?_⟩
    simp -implicitDefEqProofs only [Int.natCast_add, Int.cast_ofNat_Int, List.length_nil, Nat.le_refl, WeakTo, tokSts, tokOks, List.append_cancel_left_eq, exists_eq_left', exists_eq_left, List.append_cancel_left_eq, List.take_length, ObCl, and_true, true_and, push_cast, Nat.reduceEqDiff, Nat.reduceBEq, Nat.reduceBNe, Nat.reduceAdd, Nat.reduceMul, Nat.reduceLT, Nat.reduceLeDiff, Nat.reduceSub, reduceCtorEq, Int.reduceToNat, ↓reduceIte]
  · intro k hk
    have hw : IntKind.i64.wrap ((k : Int) + 1) = k + 1 := wrap_id (by omega) (by omega)
    rcases Nat.lt_or_ge k t.legs.length with hlt | hge
    · try simp -implicitDefEqProofs only [hw, push_cast, Nat.reduceEqDiff, Nat.reduceBEq, Nat.reduceBNe, Nat.reduceAdd, Nat.reduceMul, Nat.reduceLT, Nat.reduceLeDiff, Nat.reduceSub, reduceCtorEq, Int.reduceToNat, ↓reduceIte]
      repeat'
        (first
         | (refine uYes ?_; first | exact List.mem_cons_self | (simp only [List.mem_cons, List.not_mem_nil, or_false, true_or, or_true]; done))
         | (refine uNo (by kernel_rfl))
         | (refine flatMk ?_; kernel_rfl)
         | (refine And.intro ?_ ?_)
         | (intro hx)
         | ((first
             | (refine callGF ?_)
             | (refine callQGF ?_)
             | (refine skipG ?_)
             | (refine callS (specName_gives _ _) ?_)
             | (refine callQ (specName_gives _ _) ?_)
             | (refine callG (fun hc => (specName_gives _ _)) ?_)
             | (refine callQG (fun hc => (specName_gives _ _)) ?_)); simp -implicitDefEqProofs only [hw, push_cast, Nat.reduceEqDiff, Nat.reduceBEq, Nat.reduceBNe, Nat.reduceAdd, Nat.reduceMul, Nat.reduceLT, Nat.reduceLeDiff, Nat.reduceSub, reduceCtorEq, Int.reduceToNat, ↓reduceIte]))
      all_goals try omega
      · have e : formB t = false := by
          simp only [formB]
          rw [allB_f k (by omega) (by rw [unlikeAt]; grind)]
          grind
        rw [e]
      rename_i hn
      refine ev_loop [] (fun j : Nat => [(1, .ptr h.length 0), (3, .int .i64 k), (4, .int .i64 j)]) (fun _ => [.row t.cs]) (fun j => j ≤ k ∧ ∀ i, i < j → ¬t.legs.getD i [] = t.legs.getD k []) (fun j => k - j) 0 trivial ⟨Nat.zero_le _, fun i hi => absurd hi (Nat.not_lt_zero i)⟩ ?_ ?_
      · refine ⟨1, by simp, by simp [tokSts], ?_⟩
        simp -implicitDefEqProofs only [Int.natCast_add, Int.cast_ofNat_Int, List.length_nil, Nat.le_refl, WeakTo, tokSts, tokOks, List.append_cancel_left_eq, exists_eq_left', exists_eq_left, List.append_cancel_left_eq, List.take_length, ObCl, and_true, true_and, push_cast, Nat.reduceEqDiff, Nat.reduceBEq, Nat.reduceBNe, Nat.reduceAdd, Nat.reduceMul, Nat.reduceLT, Nat.reduceLeDiff, Nat.reduceSub, reduceCtorEq, Int.reduceToNat, ↓reduceIte]
      · intro j hj
        have hw2 : IntKind.i64.wrap ((j : Int) + 1) = j + 1 := wrap_id (by omega) (by omega)
        have ht := hasB_take (xs := t.legs) (s := t.legs.getD k []) (i := k) (by omega)
        try simp -implicitDefEqProofs only [hw, hw2, push_cast, Nat.reduceEqDiff, Nat.reduceBEq, Nat.reduceBNe, Nat.reduceAdd, Nat.reduceMul, Nat.reduceLT, Nat.reduceLeDiff, Nat.reduceSub, reduceCtorEq, Int.reduceToNat, ↓reduceIte]
        repeat'
          (first
           | (refine uYes ?_; first | exact List.mem_cons_self | (simp only [List.mem_cons, List.not_mem_nil, or_false, true_or, or_true]; done))
           | (refine uNo (by kernel_rfl))
           | (refine flatMk ?_; kernel_rfl)
           | (refine And.intro ?_ ?_)
           | (intro hx)
           | ((first
               | (refine callGF ?_)
               | (refine callQGF ?_)
               | (refine skipG ?_)
               | (refine callS (specName_gives _ _) ?_)
               | (refine callQ (specName_gives _ _) ?_)
               | (refine callG (fun hc => (specName_gives _ _)) ?_)
               | (refine callQG (fun hc => (specName_gives _ _)) ?_)); simp -implicitDefEqProofs only [hw, hw2, push_cast, Nat.reduceEqDiff, Nat.reduceBEq, Nat.reduceBNe, Nat.reduceAdd, Nat.reduceMul, Nat.reduceLT, Nat.reduceLeDiff, Nat.reduceSub, reduceCtorEq, Int.reduceToNat, ↓reduceIte]))
        all_goals first
          | omega
          | (have e : formB t = false := by
               simp only [formB]
               rw [allB_f k (by omega) (by rw [unlikeAt, ht.2 ⟨j, by omega, hx⟩]; simp)]
               grind
             rw [e])
          | (refine round_mk (j + 1) ⟨by omega, fun i hi => ?_⟩ (by omega) ?_
             · by_cases e : i = j
               · rw [e]; exact hx
               · exact hj.2 i (by omega)
             · simp -implicitDefEqProofs only [hw2, Int.natCast_add, Int.cast_ofNat_Int, List.length_nil, Nat.le_refl, WeakTo, tokSts, tokOks, List.append_cancel_left_eq, exists_eq_left', exists_eq_left, List.append_cancel_left_eq, List.take_length, ObCl, and_true, true_and, push_cast, Nat.reduceEqDiff, Nat.reduceBEq, Nat.reduceBNe, Nat.reduceAdd, Nat.reduceMul, Nat.reduceLT, Nat.reduceLeDiff, Nat.reduceSub, reduceCtorEq, Int.reduceToNat, ↓reduceIte])
          | (refine round_mk (k + 1) ⟨by omega, allB_step hk.2 ?_⟩ (by omega) ?_
             · rw [unlikeAt]
               cases e : hasB (t.legs.take k) (t.legs.getD k []) with
               | false => grind
               | true =>
                 obtain ⟨i, hi, he⟩ := ht.1 e
                 exact absurd he (hj.2 i (by omega))
             · simp -implicitDefEqProofs only [hw, Int.natCast_add, Int.cast_ofNat_Int, List.length_nil, Nat.le_refl, WeakTo, tokSts, tokOks, List.append_cancel_left_eq, exists_eq_left', exists_eq_left, List.append_cancel_left_eq, List.take_length, ObCl, and_true, true_and, push_cast, Nat.reduceEqDiff, Nat.reduceBEq, Nat.reduceBNe, Nat.reduceAdd, Nat.reduceMul, Nat.reduceLT, Nat.reduceLeDiff, Nat.reduceSub, reduceCtorEq, Int.reduceToNat, ↓reduceIte])
    · try simp -implicitDefEqProofs only [hw, push_cast, Nat.reduceEqDiff, Nat.reduceBEq, Nat.reduceBNe, Nat.reduceAdd, Nat.reduceMul, Nat.reduceLT, Nat.reduceLeDiff, Nat.reduceSub, reduceCtorEq, Int.reduceToNat, ↓reduceIte]
      repeat'
        (first
         | (refine uYes ?_; first | exact List.mem_cons_self | (simp only [List.mem_cons, List.not_mem_nil, or_false, true_or, or_true]; done))
         | (refine uNo (by kernel_rfl))
         | (refine flatMk ?_; kernel_rfl)
         | (refine And.intro ?_ ?_)
         | (intro hx)
         | ((first
             | (refine callGF ?_)
             | (refine callQGF ?_)
             | (refine skipG ?_)
             | (refine callS (specName_gives _ _) ?_)
             | (refine callQ (specName_gives _ _) ?_)
             | (refine callG (fun hc => (specName_gives _ _)) ?_)
             | (refine callQG (fun hc => (specName_gives _ _)) ?_)
             | (refine callS (l1In_gives _ _ _ _) ?_)
             | (refine callQ (l1In_gives _ _ _ _) ?_)
             | (refine callG (fun hc => (l1In_gives _ _ _ _)) ?_)
             | (refine callQG (fun hc => (l1In_gives _ _ _ _)) ?_)); simp -implicitDefEqProofs only [hw, push_cast, Nat.reduceEqDiff, Nat.reduceBEq, Nat.reduceBNe, Nat.reduceAdd, Nat.reduceMul, Nat.reduceLT, Nat.reduceLeDiff, Nat.reduceSub, reduceCtorEq, Int.reduceToNat, ↓reduceIte]))
      all_goals first
        | omega
        | (obtain rfl : k = t.legs.length := by omega
           simp only [formB, allB_t hk.2]
           grind)
end Go.Proofs.Ytcmpcpigchlhpaa

namespace Go.Proofs.Ytcmpcpigchlhpaa
set_option linter.unusedSectionVars false
open Go.Av
variable [Av.Start]
set_option maxRecDepth 10000
set_option linter.unusedSimpArgs false
set_option linter.unusedVariables false

def sCs (s : List UInt8) : List D := [.str s]
omit [Av.Start] in
theorem sCs_cl (n : Nat) (s : List UInt8) : ∀ d, d ∈ sCs s → Cl n d := by
  simp only [sCs, List.mem_cons, List.not_mem_nil, or_false, forall_eq, cl_str]
omit [Av.Start] in
theorem zStr_cl (n : Nat) : ∀ d, d ∈ ([.str []] : List D) → Cl n d := by
  simp only [List.mem_cons, List.not_mem_nil, or_false, forall_eq, cl_str]
attribute [push_cast] sCs

def szS : Int → List (List UInt8) → Int
  | n, [] => n
  | n, s :: ss => if IntKind.i64.wrap (n - s.length) < 0 then -1 else szS (IntKind.i64.wrap (n - s.length)) ss
omit [Av.Start] in
theorem szS_drop (n : Int) {xs : List (List UInt8)} {k : Nat} (h : k < xs.length) : szS n (xs.drop k) = if IntKind.i64.wrap (n - (xs.getD k []).length) < 0 then -1 else szS (IntKind.i64.wrap (n - (xs.getD k []).length)) (xs.drop (k + 1)) := by
  rw [List.drop_eq_getElem_cons h, szS, List.getD_eq_getElem?_getD, List.getElem?_eq_getElem h]
  rfl
def szSs (n : Int) (xs : List (List UInt8)) : Int := if IntKind.i64.wrap (n - xs.length) < 0 then -1 else szS (IntKind.i64.wrap (n - xs.length)) xs
def szT (n : Int) (t : Trip) : Int := if szSs n t.legs < 0 then -1 else if IntKind.i64.wrap (szSs n t.legs - t.fare.length) < 0 then -1 else IntKind.i64.wrap (szSs n t.legs - t.fare.length)
def eqTripB (a b : Trip) : Bool := decide (a.legs = b.legs) && decide (a.fare = b.fare) && decide (a.seats = b.seats)
omit [Av.Start] in
theorem eqTripB_self (a : Trip) : eqTripB a a = true := by
  simp [eqTripB]
/-- where a trip's leg is -/
def tripIdx (net : List Leg) (t : Trip) (i : Nat) : Int := legIdx net (t.legs.getD i [])
def tripLeg (net : List Leg) (t : Trip) (i : Nat) : Leg := net.getD (tripIdx net t i).toNat default
def nextB (a b : Leg) : Bool := decide (a.dst = b.src) && decide (a.arr < b.dep)
def tripAt (net : List Leg) (t : Trip) (i : Nat) : Bool := decide (0 ≤ tripIdx net t i) && (decide (i = 0) || nextB (tripLeg net t (i - 1)) (tripLeg net t i))
def fitsB (net : List Leg) (t : Trip) : Bool := formB t && allB t.legs.length (tripAt net t)
omit [Av.Start] in
theorem tripIdx_lt {net : List Leg} {t : Trip} {i : Nat} (h : 0 ≤ tripIdx net t i) : tripIdx net t i < net.length := by
  obtain ⟨k, k1, k2, _⟩ := idxV_spec (default : Leg) h
  rw [tripIdx, legIdx, k1]
  omega
omit [Av.Start] in
theorem leg_at' {xs : List Leg} {k : Int} (h0 : 0 ≤ k) (h : k < xs.length) : (xs.map Leg.d).getD k.toNat (.agg [.str [], .str [], .str [], .int .i64 0, .int .i64 0, .int .i64 0, .slice [] .full, .slice [] .full, .slice [] .full, .slice [] .full]) = .agg (xs.getD k.toNat default).cs := leg_at (by omega)
theorem next_gives (a b : Leg) (h : Hp) : Gives Try.prog 48 [a.d, b.d] h (.bool (nextB a b)) := by
  refine meets_of [] mixed Try.func48 rfl (by kernel_rfl) (by kernel_rfl) (by rw [Try.ntmps48]; simp only [List.length_cons, List.length_nil]; omega) (fun hf => ?_)
  rw [Try.results48]
  clear hf
  try simp -implicitDefEqProofs only [push_cast, Nat.reduceEqDiff, Nat.reduceBEq, Nat.reduceBNe, Nat.reduceAdd, Nat.reduceMul, Nat.reduceLT, Nat.reduceLeDiff, Nat.reduceSub, reduceCtorEq, Int.reduceToNat, ↓reduceIte]
  repeat'
    (first
     | (refine uYes ?_; first | exact List.mem_cons_self | (simp only [List.mem_cons, List.not_mem_nil, or_false, true_or, or_true]; done))
     | (refine uNo (by kernel_rfl))
     | (refine flatMk ?_; kernel_rfl)
     | (refine And.intro ?_ ?_)
     | (intro hx)
     | ((first
         | (refine callGF ?_)
         | (refine callQGF ?_)
         | (refine skipG ?_)
         | (refine callS (l1In_gives _ _ _ _) ?_)
         | (refine callQ (l1In_gives _ _ _ _) ?_)
         | (refine callG (fun hc => (l1In_gives _ _ _ _)) ?_)
         | (refine callQG (fun hc => (l1In_gives _ _ _ _)) ?_)); simp -implicitDefEqProofs only [push_cast, Nat.reduceEqDiff, Nat.reduceBEq, Nat.reduceBNe, Nat.reduceAdd, Nat.reduceMul, Nat.reduceLT, Nat.reduceLeDiff, Nat.reduceSub, reduceCtorEq, Int.reduceToNat, ↓reduceIte]))
  all_goals (simp only [nextB])
theorem specFits_gives (net : List Leg) (t : Trip) (h : Hp) : Gives Try.prog 24 [.slice (net.map Leg.d) .no, t.d] h (.bool (fitsB net t)) := by
  refine meets_of [] mixed Try.func24 rfl (by kernel_rfl) (by kernel_rfl) (by rw [Try.ntmps24]; simp only [List.length_cons, List.length_nil]; omega) (fun hf => ?_)
  rw [Try.results24]
  obtain ⟨hl, _⟩ := Trip.fit (hf t.d (by simp))
  clear hf
  try simp -implicitDefEqProofs only [push_cast, Nat.reduceEqDiff, Nat.reduceBEq, Nat.reduceBNe, Nat.reduceAdd, Nat.reduceMul, Nat.reduceLT, Nat.reduceLeDiff, Nat.reduceSub, reduceCtorEq, Int.reduceToNat, ↓reduceIte]
  repeat'
    (first
     | (refine uYes ?_; first | exact List.mem_cons_self | (simp only [List.mem_cons, List.not_mem_nil, or_false, true_or, or_true]; done))
     | (refine uNo (by kernel_rfl))
     | (refine flatMk ?_; kernel_rfl)
     | (refine And.intro ?_ ?_)
     | (intro hx)
     | ((first
         | (refine callGF ?_)
         | (refine callQGF ?_)
         | (refine skipG ?_)
         | (refine callS (specForm_gives t _) ?_)
         | (refine callQ (specForm_gives t _) ?_)
         | (refine callG (fun hc => (specForm_gives t _)) ?_)
         | (refine callQG (fun hc => (specForm_gives t _)) ?_)); simp -implicitDefEqProofs only [push_cast, Nat.reduceEqDiff, Nat.reduceBEq, Nat.reduceBNe, Nat.reduceAdd, Nat.reduceMul, Nat.reduceLT, Nat.reduceLeDiff, Nat.reduceSub, reduceCtorEq, Int.reduceToNat, ↓reduceIte]))
  · simp only [fitsB, hx]; rfl
  have hform := hx
  refine ev_loop [] (fun k : Nat => [(0, .slice (net.map Leg.d) .no), (3, .ptr h.length 0), (5, .int .i64 k)]) (fun _ => [.row t.cs]) (fun k => k ≤ t.legs.length ∧ ∀ i, i < k → tripAt net t i = true) (fun k => t.legs.length - k) 0 trivial ⟨Nat.zero_le _, fun i hi => absurd hi (Nat.not_lt_zero i)⟩ ?_ ?_
  · refine ⟨1, by simp, by simp [tokSts], ?_⟩
    simp -implicitDefEqProofs only [Int.natCast_add, Int.cast_ofNat_Int, List.length_nil, Nat.le_refl, WeakTo, tokSts, tokOks, List.append_cancel_left_eq, exists_eq_left', exists_eq_left, List.append_cancel_left_eq, List.take_length, ObCl, and_true, true_and, push_cast, Nat.reduceEqDiff, Nat.reduceBEq, Nat.reduceBNe, Nat.reduceAdd, Nat.reduceMul, Nat.reduceLT, Nat.reduceLeDiff, Nat.reduceSub, reduceCtorEq, Int.reduceToNat, ↓reduceIte]
  · intro k hk
    have hw : IntKind.i64.wrap ((k : Int) + 1) = k + 1 := wrap_id (by omega) (by omega)
    have hw1 : IntKind.i64.wrap ((k : Int) - 1) = k - 1 := wrap_id (by omega) (by omega)
    have hp : ((k : Int) - 1).toNat = k - 1 := by omega
    rcases Nat.lt_or_ge k t.legs.length with hlt | hge
    · have hlo := idxV_lo (p := fun l : Leg => decide (l.name = t.legs.getD k [])) (xs := net)
      rcases Int.lt_or_le (tripIdx net t k) 0 with h0 | h0
      · have hd : decide (legIdx net (t.legs.getD k []) < 0) = true := decide_eq_true h0
        try simp -implicitDefEqProofs only [hw, hd, push_cast, Nat.reduceEqDiff, Nat.reduceBEq, Nat.reduceBNe, Nat.reduceAdd, Nat.reduceMul, Nat.reduceLT, Nat.reduceLeDiff, Nat.reduceSub, reduceCtorEq, Int.reduceToNat, ↓reduceIte]
        repeat'
          (first
           | (refine uYes ?_; first | exact List.mem_cons_self | (simp only [List.mem_cons, List.not_mem_nil, or_false, true_or, or_true]; done))
           | (refine uNo (by kernel_rfl))
           | (refine flatMk ?_; kernel_rfl)
           | (refine And.intro ?_ ?_)
           | (intro hx)
           | ((first
               | (refine callGF ?_)
               | (refine callQGF ?_)
               | (refine skipG ?_)
               | (refine callS (specLegAt_gives net _ _) ?_)
               | (refine callQ (specLegAt_gives net _ _) ?_)
               | (refine callG (fun hc => (specLegAt_gives net _ _)) ?_)
               | (refine callQG (fun hc => (specLegAt_gives net _ _)) ?_)
               | (refine callS (next_gives default default _) ?_)
               | (refine callQ (next_gives default default _) ?_)
               | (refine callG (fun hc => (next_gives default default _)) ?_)
               | (refine callQG (fun hc => (next_gives default default _)) ?_)); simp -implicitDefEqProofs only [hw, hd, push_cast, Nat.reduceEqDiff, Nat.reduceBEq, Nat.reduceBNe, Nat.reduceAdd, Nat.reduceMul, Nat.reduceLT, Nat.reduceLeDiff, Nat.reduceSub, reduceCtorEq, Int.reduceToNat, ↓reduceIte]))
        all_goals first
          | omega
          | (have e : fitsB net t = false := by
               rw [fitsB, allB_f k hlt (by rw [tripAt, decide_eq_false (by omega)]; rfl), Bool.and_false]
             rw [e])
      · have hd : decide (legIdx net (t.legs.getD k []) < 0) = false := decide_eq_false (by rw [tripIdx] at h0; omega)
        have hi := tripIdx_lt h0
        have hL := leg_at' h0 hi
        rw [tripIdx] at hL hi
        by_cases hz : k = 0
        · have hd2 : decide (0 < (k : Int)) = false := decide_eq_false (by omega)
          try simp -implicitDefEqProofs only [hw, hd, hd2, hL, push_cast, Nat.reduceEqDiff, Nat.reduceBEq, Nat.reduceBNe, Nat.reduceAdd, Nat.reduceMul, Nat.reduceLT, Nat.reduceLeDiff, Nat.reduceSub, reduceCtorEq, Int.reduceToNat, ↓reduceIte]
          repeat'
            (first
             | (refine uYes ?_; first | exact List.mem_cons_self | (simp only [List.mem_cons, List.not_mem_nil, or_false, true_or, or_true]; done))
             | (refine uNo (by kernel_rfl))
             | (refine flatMk ?_; kernel_rfl)
             | (refine And.intro ?_ ?_)
             | (intro hx)
             | ((first
                 | (refine callGF ?_)
                 | (refine callQGF ?_)
                 | (refine skipG ?_)
                 | (refine callS (specLegAt_gives net _ _) ?_)
                 | (refine callQ (specLegAt_gives net _ _) ?_)
                 | (refine callG (fun hc => (specLegAt_gives net _ _)) ?_)
                 | (refine callQG (fun hc => (specLegAt_gives net _ _)) ?_)
                 | (refine callS (next_gives default default _) ?_)
                 | (refine callQ (next_gives default default _) ?_)
                 | (refine callG (fun hc => (next_gives default default _)) ?_)
                 | (refine callQG (fun hc => (next_gives default default _)) ?_)); simp -implicitDefEqProofs only [hw, hd, hd2, hL, push_cast, Nat.reduceEqDiff, Nat.reduceBEq, Nat.reduceBNe, Nat.reduceAdd, Nat.reduceMul, Nat.reduceLT, Nat.reduceLeDiff, Nat.reduceSub, reduceCtorEq, Int.reduceToNat, ↓reduceIte]))
          all_goals first
            | omega
            | (refine round_mk (k + 1) ⟨by omega, allB_step hk.2 ?_⟩ (by omega) ?_
               · rw [tripAt, decide_eq_true h0, decide_eq_true hz]; rfl
               · simp -implicitDefEqProofs only [hw, Int.natCast_add, Int.cast_ofNat_Int, List.length_nil, Nat.le_refl, WeakTo, tokSts, tokOks, List.append_cancel_left_eq, exists_eq_left', exists_eq_left, List.append_cancel_left_eq, List.take_length, ObCl, and_true, true_and, push_cast, Nat.reduceEqDiff, Nat.reduceBEq, Nat.reduceBNe, Nat.reduceAdd, Nat.reduceMul, Nat.reduceLT, Nat.reduceLeDiff, Nat.reduceSub, reduceCtorEq, Int.reduceToNat, ↓reduceIte])
        · have hd2 : decide (0 < (k : Int)) = true := decide_eq_true (by omega)
          have hb := hk.2 (k - 1) (by omega)
          have hb0 : 0 ≤ tripIdx net t (k - 1) := by
            rw [tripAt, Bool.and_eq_true, decide_eq_true_eq] at hb
            exact hb.1
          have hbi := tripIdx_lt hb0
          have hL2 := leg_at' hb0 hbi
          rw [tripIdx] at hL2 hbi hb0
          rw [tripIdx] at h0
          try simp -implicitDefEqProofs only [hw, hw1, hp, hd, hd2, hL, hL2, push_cast, Nat.reduceEqDiff, Nat.reduceBEq, Nat.reduceBNe, Nat.reduceAdd, Nat.reduceMul, Nat.reduceLT, Nat.reduceLeDiff, Nat.reduceSub, reduceCtorEq, Int.reduceToNat, ↓reduceIte]
          repeat'
            (first
             | (refine uYes ?_; first | exact List.mem_cons_self | (simp only [List.mem_cons, List.not_mem_nil, or_false, true_or, or_true]; done))
             | (refine uNo (by kernel_rfl))
             | (refine flatMk ?_; kernel_rfl)
             | (refine And.intro ?_ ?_)
             | (intro hx)
             | ((first
                 | (refine callGF ?_)
                 | (refine callQGF ?_)
                 | (refine skipG ?_)
                 | (refine callS (specLegAt_gives net _ _) ?_)
                 | (refine callQ (specLegAt_gives net _ _) ?_)
                 | (refine callG (fun hc => (specLegAt_gives net _ _)) ?_)
                 | (refine callQG (fun hc => (specLegAt_gives net _ _)) ?_)
                 | (refine callS (next_gives (tripLeg net t (k - 1)) (tripLeg net t k) _) ?_)
                 | (refine callQ (next_gives (tripLeg net t (k - 1)) (tripLeg net t k) _) ?_)
                 | (refine callG (fun hc => (next_gives (tripLeg net t (k - 1)) (tripLeg net t k) _)) ?_)
                 | (refine callQG (fun hc => (next_gives (tripLeg net t (k - 1)) (tripLeg net t k) _)) ?_)); simp -implicitDefEqProofs only [hw, hw1, hp, hd, hd2, hL, hL2, push_cast, Nat.reduceEqDiff, Nat.reduceBEq, Nat.reduceBNe, Nat.reduceAdd, Nat.reduceMul, Nat.reduceLT, Nat.reduceLeDiff, Nat.reduceSub, reduceCtorEq, Int.reduceToNat, ↓reduceIte]))
          all_goals first
            | omega
            | (have e : fitsB net t = false := by
                 rw [fitsB, allB_f k hlt (by rw [tripAt, hx, decide_eq_false hz]; exact Bool.and_false _), Bool.and_false]
               rw [e])
            | (refine round_mk (k + 1) ⟨by omega, allB_step hk.2 ?_⟩ (by omega) ?_
               · rw [tripAt, hx, tripIdx, decide_eq_true h0, Bool.or_true]; rfl
               · simp -implicitDefEqProofs only [hw, Int.natCast_add, Int.cast_ofNat_Int, List.length_nil, Nat.le_refl, WeakTo, tokSts, tokOks, List.append_cancel_left_eq, exists_eq_left', exists_eq_left, List.append_cancel_left_eq, List.take_length, ObCl, and_true, true_and, push_cast, Nat.reduceEqDiff, Nat.reduceBEq, Nat.reduceBNe, Nat.reduceAdd, Nat.reduceMul, Nat.reduceLT, Nat.reduceLeDiff, Nat.reduceSub, reduceCtorEq, Int.reduceToNat, ↓reduceIte])
    · try simp -implicitDefEqProofs only [hw, push_cast, Nat.reduceEqDiff, Nat.reduceBEq, Nat.reduceBNe, Nat.reduceAdd, Nat.reduceMul, Nat.reduceLT, Nat.reduceLeDiff, Nat.reduceSub, reduceCtorEq, Int.reduceToNat, ↓reduceIte]
      repeat'
        (first
         | (refine uYes ?_; first | exact List.mem_cons_self | (simp only [List.mem_cons, List.not_mem_nil, or_false, true_or, or_true]; done))
         | (refine uNo (by kernel_rfl))
         | (refine flatMk ?_; kernel_rfl)
         | (refine And.intro ?_ ?_)
         | (intro hx)
         | ((first
             | (refine callGF ?_)
             | (refine callQGF ?_)
             | (refine skipG ?_)
             | (refine callS (in_gives ..) ?_)
             | (refine callQ (in_gives ..) ?_)
             | (refine callG (fun hc => (in_gives ..)) ?_)
             | (refine callQG (fun hc => (in_gives ..)) ?_)); simp -implicitDefEqProofs only [hw, push_cast, Nat.reduceEqDiff, Nat.reduceBEq, Nat.reduceBNe, Nat.reduceAdd, Nat.reduceMul, Nat.reduceLT, Nat.reduceLeDiff, Nat.reduceSub, reduceCtorEq, Int.reduceToNat, ↓reduceIte]))
      all_goals first
        | omega
        | (obtain rfl : k = t.legs.length := by omega
           rw [fitsB, allB_t hk.2, hform]
           rfl)

def lastCs (net : List Leg) (t : Trip) : Nat → List D
  | 0 => [.str [], .str [], .str [], .int .i64 0, .int .i64 (-1), .int .i64 0, .slice [] .full, .slice [] .full, .slice [] .full, .slice [] .full]
  | k + 1 => (tripLeg net t k).cs
omit [Av.Start] in
theorem lastCs_cl (net : List Leg) (t : Trip) (n : Nat) : ∀ k d, d ∈ lastCs net t k → Cl n d
  | 0 => by simp only [lastCs, List.mem_cons, List.not_mem_nil, or_false, forall_eq_or_imp, forall_eq, cl_int, cl_str, cl_full, and_self, implies_true]
  | k + 1 => Leg.cl n _
theorem implFits_gives (net : List Leg) (t : Trip) (h : Hp) : Gives Try.prog 23 [t.d, .slice (net.map Leg.d) .no] h (.bool (fitsB net t)) := by
  refine meets_of [] mixed Try.func23 rfl (by kernel_rfl) (by kernel_rfl) (by rw [Try.ntmps23]; simp only [List.length_cons, List.length_nil]; omega) (fun hf => ?_)
  rw [Try.results23]
  obtain ⟨hl, _⟩ := Trip.fit (hf t.d (by simp))
  clear hf
  try simp -implicitDefEqProofs only [push_cast, Nat.reduceEqDiff, Nat.reduceBEq, Nat.reduceBNe, Nat.reduceAdd, Nat.reduceMul, Nat.reduceLT, Nat.reduceLeDiff, Nat.reduceSub, reduceCtorEq, Int.reduceToNat, ↓reduceIte]
  repeat'
    (first
     | (refine uYes ?_; first | exact List.mem_cons_self | (simp only [List.mem_cons, List.not_mem_nil, or_false, true_or, or_true]; done))
     | (refine uNo (by kernel_rfl))
     | (refine flatMk ?_; kernel_rfl)
     | (refine And.intro ?_ ?_)
     | (intro hx)
     | ((first
         | (refine callGF ?_)
         | (refine callQGF ?_)
         | (refine skipG ?_)
         | (refine callS (formed_gives t _) ?_)
         | (refine callQ (formed_gives t _) ?_)
         | (refine callG (fun hc => (formed_gives t _)) ?_)
         | (refine callQG (fun hc => (formed_gives t _)) ?_)); simp -implicitDefEqProofs only [push_cast, Nat.reduceEqDiff, Nat.reduceBEq, Nat.reduceBNe, Nat.reduceAdd, Nat.reduceMul, Nat.reduceLT, Nat.reduceLeDiff, Nat.reduceSub, reduceCtorEq, Int.reduceToNat, ↓reduceIte]))
  · simp only [fitsB, hx]; rfl
  have hform := hx
  refine ev_loop [] (fun k : Nat => [(1, .slice (net.map Leg.d) .no), (2, .ptr h.length 0), (5, .ptr (h.length + 1) 0), (14, .slice (t.legs.map .str) .no), (15, .int .i64 t.legs.length), (16, .int .i64 k)])
    (fun k => [.row t.cs, .row (lastCs net t k)]) (fun k => k ≤ t.legs.length ∧ ∀ i, i < k → tripAt net t i = true) (fun k => t.legs.length - k) 0 trivial ⟨Nat.zero_le _, fun i hi => absurd hi (Nat.not_lt_zero i)⟩ ?_ ?_
  · refine ⟨2, by simp, by simp [tokSts], ?_⟩
    simp -implicitDefEqProofs only [lastCs, Int.natCast_add, Int.cast_ofNat_Int, List.length_nil, Nat.le_refl, WeakTo, tokSts, tokOks, List.append_cancel_left_eq, exists_eq_left', exists_eq_left, List.append_cancel_left_eq, List.take_length, ObCl, and_true, true_and, push_cast, Nat.reduceEqDiff, Nat.reduceBEq, Nat.reduceBNe, Nat.reduceAdd, Nat.reduceMul, Nat.reduceLT, Nat.reduceLeDiff, Nat.reduceSub, reduceCtorEq, Int.reduceToNat, ↓reduceIte]
    omega
  · intro k hk
    have hw : IntKind.i64.wrap ((k : Int) + 1) = k + 1 := wrap_id (by omega) (by omega)
    have hlc := lastCs_cl net t
    rcases Nat.lt_or_ge k t.legs.length with hlt | hge
    · have hlo := idxV_lo (p := fun l : Leg => decide (l.name = t.legs.getD k [])) (xs := net)
      rcases Int.lt_or_le (tripIdx net t k) 0 with h0 | h0
      · have hd : decide (legIdx net (t.legs.getD k []) < 0) = true := decide_eq_true h0
        try simp -implicitDefEqProofs only [hw, hd, push_cast, Nat.reduceEqDiff, Nat.reduceBEq, Nat.reduceBNe, Nat.reduceAdd, Nat.reduceMul, Nat.reduceLT, Nat.reduceLeDiff, Nat.reduceSub, reduceCtorEq, Int.reduceToNat, ↓reduceIte]
        repeat'
          (first
           | (refine uYes ?_; first | exact List.mem_cons_self | (simp only [List.mem_cons, List.not_mem_nil, or_false, true_or, or_true]; done))
           | (refine uNo (by kernel_rfl))
           | (refine flatMk ?_; kernel_rfl)
           | (refine And.intro ?_ ?_)
           | (intro hx)
           | ((first
               | (refine callGF ?_)
               | (refine callQGF ?_)
               | (refine skipG ?_)
               | (refine callS (legAt_gives net _ _) ?_)
               | (refine callQ (legAt_gives net _ _) ?_)
               | (refine callG (fun hc => (legAt_gives net _ _)) ?_)
               | (refine callQG (fun hc => (legAt_gives net _ _)) ?_)); simp -implicitDefEqProofs only [hw, hd, push_cast, Nat.reduceEqDiff, Nat.reduceBEq, Nat.reduceBNe, Nat.reduceAdd, Nat.reduceMul, Nat.reduceLT, Nat.reduceLeDiff, Nat.reduceSub, reduceCtorEq, Int.reduceToNat, ↓reduceIte]))
        all_goals first
          | omega
          | (have e : fitsB net t = false := by
               rw [fitsB, allB_f k hlt (by rw [tripAt, decide_eq_false (by omega)]; rfl), Bool.and_false]
             rw [e])
      · have hd : decide (legIdx net (t.legs.getD k []) < 0) = false := decide_eq_false (by rw [tripIdx] at h0; omega)
        have hi := tripIdx_lt h0
        have hL := leg_at' h0 hi
        rw [tripIdx] at hL hi
        by_cases hz : k = 0
        · have hd2 : decide (0 < (k : Int)) = false := decide_eq_false (by omega)
          have hlast : lastCs net t k = lastCs net t 0 := by rw [hz]
          rw [lastCs] at hlast
          try simp -implicitDefEqProofs only [hw, hd, hd2, hL, hlast, push_cast, Nat.reduceEqDiff, Nat.reduceBEq, Nat.reduceBNe, Nat.reduceAdd, Nat.reduceMul, Nat.reduceLT, Nat.reduceLeDiff, Nat.reduceSub, reduceCtorEq, Int.reduceToNat, ↓reduceIte]
          repeat'
            (first
             | (refine uYes ?_; first | exact List.mem_cons_self | (simp only [List.mem_cons, List.not_mem_nil, or_false, true_or, or_true]; done))
             | (refine uNo (by kernel_rfl))
             | (refine flatMk ?_; kernel_rfl)
             | (refine And.intro ?_ ?_)
             | (intro hx)
             | ((first
                 | (refine callGF ?_)
                 | (refine callQGF ?_)
                 | (refine skipG ?_)
                 | (refine callS (legAt_gives net _ _) ?_)
                 | (refine callQ (legAt_gives net _ _) ?_)
                 | (refine callG (fun hc => (legAt_gives net _ _)) ?_)
                 | (refine callQG (fun hc => (legAt_gives net _ _)) ?_)); simp -implicitDefEqProofs only [hw, hd, hd2, hL, hlast, push_cast, Nat.reduceEqDiff, Nat.reduceBEq, Nat.reduceBNe, Nat.reduceAdd, Nat.reduceMul, Nat.reduceLT, Nat.reduceLeDiff, Nat.reduceSub, reduceCtorEq, Int.reduceToNat, ↓reduceIte]))
          all_goals first
            | omega
            | exact h0
            | (refine round_mk (k + 1) ⟨by omega, allB_step hk.2 ?_⟩ (by omega) ?_
               · rw [tripAt, decide_eq_true h0, decide_eq_true hz]; rfl
               · simp -implicitDefEqProofs only [hw, lastCs, tripLeg, tripIdx, Int.natCast_add, Int.cast_ofNat_Int, List.length_nil, Nat.le_refl, WeakTo, tokSts, tokOks, List.append_cancel_left_eq, exists_eq_left', exists_eq_left, List.append_cancel_left_eq, List.take_length, ObCl, and_true, true_and, push_cast, Nat.reduceEqDiff, Nat.reduceBEq, Nat.reduceBNe, Nat.reduceAdd, Nat.reduceMul, Nat.reduceLT, Nat.reduceLeDiff, Nat.reduceSub, reduceCtorEq, Int.reduceToNat, ↓reduceIte]
                 try omega)
        · have hd2 : decide (0 < (k : Int)) = true := decide_eq_true (by omega)
          have hlast : lastCs net t k = (tripLeg net t (k - 1)).cs := by
            obtain ⟨j, rfl⟩ : ∃ j, k = j + 1 := ⟨k - 1, by omega⟩
            rfl
          try simp -implicitDefEqProofs only [hw, hd, hd2, hL, hlast, push_cast, Nat.reduceEqDiff, Nat.reduceBEq, Nat.reduceBNe, Nat.reduceAdd, Nat.reduceMul, Nat.reduceLT, Nat.reduceLeDiff, Nat.reduceSub, reduceCtorEq, Int.reduceToNat, ↓reduceIte]
          repeat'
            (first
             | (refine uYes ?_; first | exact List.mem_cons_self | (simp only [List.mem_cons, List.not_mem_nil, or_false, true_or, or_true]; done))
             | (refine uNo (by kernel_rfl))
             | (refine flatMk ?_; kernel_rfl)
             | (refine And.intro ?_ ?_)
             | (intro hx)
             | ((first
                 | (refine callGF ?_)
                 | (refine callQGF ?_)
                 | (refine skipG ?_)
                 | (refine callS (legAt_gives net _ _) ?_)
                 | (refine callQ (legAt_gives net _ _) ?_)
                 | (refine callG (fun hc => (legAt_gives net _ _)) ?_)
                 | (refine callQG (fun hc => (legAt_gives net _ _)) ?_)); simp -implicitDefEqProofs only [hw, hd, hd2, hL, hlast, push_cast, Nat.reduceEqDiff, Nat.reduceBEq, Nat.reduceBNe, Nat.reduceAdd, Nat.reduceMul, Nat.reduceLT, Nat.reduceLeDiff, Nat.reduceSub, reduceCtorEq, Int.reduceToNat, ↓reduceIte]))
          all_goals first
            | omega
            | exact h0
            | (have e : fitsB net t = false := by
                 rw [fitsB, allB_f k hlt (by rw [tripAt, nextB, decide_eq_false hz]; simp only [tripLeg, tripIdx] at *; grind), Bool.and_false]
               rw [e])
            | (refine round_mk (k + 1) ⟨by omega, allB_step hk.2 ?_⟩ (by omega) ?_
               · rw [tripAt, nextB, decide_eq_true h0, decide_eq_false hz]; simp only [tripLeg, tripIdx] at *; grind
               · simp -implicitDefEqProofs only [hw, lastCs, tripLeg, tripIdx, Int.natCast_add, Int.cast_ofNat_Int, List.length_nil, Nat.le_refl, WeakTo, tokSts, tokOks, List.append_cancel_left_eq, exists_eq_left', exists_eq_left, List.append_cancel_left_eq, List.take_length, ObCl, and_true, true_and, push_cast, Nat.reduceEqDiff, Nat.reduceBEq, Nat.reduceBNe, Nat.reduceAdd, Nat.reduceMul, Nat.reduceLT, Nat.reduceLeDiff, Nat.reduceSub, reduceCtorEq, Int.reduceToNat, ↓reduceIte]
                 try omega)
    · try simp -implicitDefEqProofs only [hw, push_cast, Nat.reduceEqDiff, Nat.reduceBEq, Nat.reduceBNe, Nat.reduceAdd, Nat.reduceMul, Nat.reduceLT, Nat.reduceLeDiff, Nat.reduceSub, reduceCtorEq, Int.reduceToNat, ↓reduceIte]
      repeat'
        (first
         | (refine uYes ?_; first | exact List.mem_cons_self | (simp only [List.mem_cons, List.not_mem_nil, or_false, true_or, or_true]; done))
         | (refine uNo (by kernel_rfl))
         | (refine flatMk ?_; kernel_rfl)
         | (refine And.intro ?_ ?_)
         | (intro hx)
         | ((first
             | (refine callGF ?_)
             | (refine callQGF ?_)
             | (refine skipG ?_)
             | (refine callS (in_gives ..) ?_)
             | (refine callQ (in_gives ..) ?_)
             | (refine callG (fun hc => (in_gives ..)) ?_)
             | (refine callQG (fun hc => (in_gives ..)) ?_)); simp -implicitDefEqProofs only [hw, push_cast, Nat.reduceEqDiff, Nat.reduceBEq, Nat.reduceBNe, Nat.reduceAdd, Nat.reduceMul, Nat.reduceLT, Nat.reduceLeDiff, Nat.reduceSub, reduceCtorEq, Int.reduceToNat, ↓reduceIte]))
      all_goals first
        | omega
        | (obtain rfl : k = t.legs.length := by omega
           rw [fitsB, allB_t hk.2, hform]
           rfl)

theorem implTripOk_gives (net : List Leg) (t : Trip) (h : Hp) : Gives Try.prog 6 [.slice (net.map Leg.d) .no, t.d] h (.bool (netB net && fitsB net t)) := by
  refine meets_of [] mixed Try.func6 rfl (by kernel_rfl) (by kernel_rfl) (by rw [Try.ntmps6]; simp only [List.length_cons, List.length_nil]; omega) (fun hf => ?_)
  rw [Try.results6]
  clear hf
  try simp -implicitDefEqProofs only [push_cast, Nat.reduceEqDiff, Nat.reduceBEq, Nat.reduceBNe, Nat.reduceAdd, Nat.reduceMul, Nat.reduceLT, Nat.reduceLeDiff, Nat.reduceSub, reduceCtorEq, Int.reduceToNat, ↓reduceIte]
  repeat'
    (first
     | (refine uYes ?_; first | exact List.mem_cons_self | (simp only [List.mem_cons, List.not_mem_nil, or_false, true_or, or_true]; done))
     | (refine uNo (by kernel_rfl))
     | (refine flatMk ?_; kernel_rfl)
     | (refine And.intro ?_ ?_)
     | (intro hx)
     | ((first
         | (refine callGF ?_)
         | (refine callQGF ?_)
         | (refine skipG ?_)
         | (refine callS (implNetOk_gives net _) ?_)
         | (refine callQ (implNetOk_gives net _) ?_)
         | (refine callG (fun hc => (implNetOk_gives net _)) ?_)
         | (refine callQG (fun hc => (implNetOk_gives net _)) ?_)
         | (refine callS (implFits_gives net t _) ?_)
         | (refine callQ (implFits_gives net t _) ?_)
         | (refine callG (fun hc => (implFits_gives net t _)) ?_)
         | (refine callQG (fun hc => (implFits_gives net t _)) ?_)); simp -implicitDefEqProofs only [push_cast, Nat.reduceEqDiff, Nat.reduceBEq, Nat.reduceBNe, Nat.reduceAdd, Nat.reduceMul, Nat.reduceLT, Nat.reduceLeDiff, Nat.reduceSub, reduceCtorEq, Int.reduceToNat, ↓reduceIte]))
theorem specTripOk_gives (net : List Leg) (t : Trip) (h : Hp) : Gives Try.prog 7 [.slice (net.map Leg.d) .no, t.d] h (.bool (netB net && fitsB net t)) := by
  refine meets_of [] mixed Try.func7 rfl (by kernel_rfl) (by kernel_rfl) (by rw [Try.ntmps7]; simp only [List.length_cons, List.length_nil]; omega) (fun hf => ?_)
  rw [Try.results7]
  clear hf
  try simp -implicitDefEqProofs only [push_cast, Nat.reduceEqDiff, Nat.reduceBEq, Nat.reduceBNe, Nat.reduceAdd, Nat.reduceMul, Nat.reduceLT, Nat.reduceLeDiff, Nat.reduceSub, reduceCtorEq, Int.reduceToNat, ↓reduceIte]
  repeat'
    (first
     | (refine uYes ?_; first | exact List.mem_cons_self | (simp only [List.mem_cons, List.not_mem_nil, or_false, true_or, or_true]; done))
     | (refine uNo (by kernel_rfl))
     | (refine flatMk ?_; kernel_rfl)
     | (refine And.intro ?_ ?_)
     | (intro hx)
     | ((first
         | (refine callGF ?_)
         | (refine callQGF ?_)
         | (refine skipG ?_)
         | (refine callS (specNetOk_gives net _) ?_)
         | (refine callQ (specNetOk_gives net _) ?_)
         | (refine callG (fun hc => (specNetOk_gives net _)) ?_)
         | (refine callQG (fun hc => (specNetOk_gives net _)) ?_)
         | (refine callS (specFits_gives net t _) ?_)
         | (refine callQ (specFits_gives net t _) ?_)
         | (refine callG (fun hc => (specFits_gives net t _)) ?_)
         | (refine callQG (fun hc => (specFits_gives net t _)) ?_)); simp -implicitDefEqProofs only [push_cast, Nat.reduceEqDiff, Nat.reduceBEq, Nat.reduceBNe, Nat.reduceAdd, Nat.reduceMul, Nat.reduceLT, Nat.reduceLeDiff, Nat.reduceSub, reduceCtorEq, Int.reduceToNat, ↓reduceIte]))
end Go.Proofs.Ytcmpcpigchlhpaa
