/- Contracts of functions of the program (C13). -/
import Derived.Test.YtmehbbepppjikaaC12

namespace Go.Proofs.Ytmehbbepppjikaa
open Go.Av
set_option maxRecDepth 10000
set_option linter.unusedSimpArgs false
set_option linter.unusedVariables false

def eqSB {α : Type} [Inhabited α] (B : α → α → Bool) (a b : List α) : Bool := decide (a.length = b.length) && allB a.length (fun i => B (a.getD i default) (b.getD i default))
theorem eqSB_self {α : Type} [Inhabited α] {B : α → α → Bool} (hB : ∀ x, B x x = true) (a : List α) : eqSB B a a = true := by
  rw [eqSB, decide_eq_true rfl, allB_t (fun i _ => hB _)]
  rfl
theorem Leg.cl (n : Nat) (l : Leg) : ∀ d, d ∈ l.cs → Cl n d := by
  simp only [Leg.cs, List.mem_cons, List.not_mem_nil, or_false, forall_eq_or_imp, forall_eq, cl_int, cl_str, cl_no, and_self]
theorem zLeg_cl (n : Nat) : ∀ d, d ∈ ([.str [], .str [], .str [], .int .i64 0, .int .i64 0, .int .i64 0, .slice [] .full, .slice [] .full, .slice [] .full, .slice [] .full] : List D) → Cl n d := by
  simp only [List.mem_cons, List.not_mem_nil, or_false, forall_eq_or_imp, forall_eq, cl_int, cl_str, cl_full, and_self]

theorem toLegS_gives (a : List Leg) (h : Hp) : Gives Try.prog 40 [.slice (a.map Leg.d) .no] h (.slice (a.map Leg.d) .no) := by
  refine meets_of [] mixed Try.func40 rfl (by kernel_rfl) (by kernel_rfl) (by rw [Try.ntmps40]; simp only [List.length_cons, List.length_nil]; omega) (fun hf => ?_)
  rw [Try.results40]
  have hl : a.length ≤ 1073741824 := by simpa [fitsD, flen, lenMax] using hf
  clear hf
  try simp -implicitDefEqProofs only [push_cast, Nat.reduceEqDiff, Nat.reduceBEq, Nat.reduceBNe, Nat.reduceAdd, Nat.reduceMul, Nat.reduceLT, Nat.reduceLeDiff, Nat.reduceSub, reduceCtorEq, Int.reduceToNat, ↓reduceIte]
  repeat'
    (first
     | (refine uYes ?_; first | exact List.mem_cons_self | (simp only [List.mem_cons, List.not_mem_nil, or_false, true_or, or_true]; done))
     | (refine uNo (by kernel_rfl))
     | (refine flatMk ?_; kernel_rfl)
     | (refine And.intro ?_ ?_)
     | (intro hx)
     | ((first
         | (refine callGF ?_)
         | (refine callQGF ?_)
         | (refine skipG ?_)
         | (refine callS (l1In_gives _ _ _ _) ?_)
         | (refine callQ (l1In_gives _ _ _ _) ?_)
         | (refine callG (fun hc => (l1In_gives _ _ _ _)) ?_)
         | (refine callQG (fun hc => (l1In_gives _ _ _ _)) ?_)); simp -implicitDefEqProofs only [push_cast, Nat.reduceEqDiff, Nat.reduceBEq, Nat.reduceBNe, Nat.reduceAdd, Nat.reduceMul, Nat.reduceLT, Nat.reduceLeDiff, Nat.reduceSub, reduceCtorEq, Int.reduceToNat, ↓reduceIte]))
  · omega
  · simp only [lenMax]; omega
  · omega
  refine ev_loop [] (fun k : Nat => [(0, .slice (a.map Leg.d) .no), (3, .vec h.length true 10 0 a.length a.length), (4, .int .i64 k)])
    (fun k => [.row (fillRow Leg.cs [.str [], .str [], .str [], .int .i64 0, .int .i64 0, .int .i64 0, .slice [] .full, .slice [] .full, .slice [] .full, .slice [] .full] a k)]) (fun k => k ≤ a.length) (fun k => a.length - k) 0 trivial (Nat.zero_le _) ?_ ?_
  · refine ⟨1, by simp, by simp [tokSts], ?_⟩
    simp -implicitDefEqProofs only [Int.natCast_add, Int.cast_ofNat_Int, List.length_nil, Nat.le_refl, WeakTo, tokSts, tokOks, List.append_cancel_left_eq, exists_eq_left', exists_eq_left, List.append_cancel_left_eq, List.take_length, ObCl, and_true, true_and, push_cast, Nat.reduceEqDiff, Nat.reduceBEq, Nat.reduceBNe, Nat.reduceAdd, Nat.reduceMul, Nat.reduceLT, Nat.reduceLeDiff, Nat.reduceSub, reduceCtorEq, Int.reduceToNat, ↓reduceIte, fillRow_zero]
    exact fun d hd => zLeg_cl _ _ (mem_zeros hd)
  · intro k hk
    have hw : IntKind.i64.wrap ((k : Int) + 1) = k + 1 := wrap_id (by omega) (by omega)
    have hf := fillRow_length (f := Leg.cs) (z := [.str [], .str [], .str [], .int .i64 0, .int .i64 0, .int .i64 0, .slice [] .full, .slice [] .full, .slice [] .full, .slice [] .full]) (m := 10) (fun _ => rfl) rfl a hk
    have ht := take_flat (f := Leg.cs) (m := 10) (fun _ => rfl) a
    rcases Nat.lt_or_ge k a.length with hlt | hge
    · have hL := leg_at hlt
      have hs := fillRow_splice (f := Leg.cs) (z := [.str [], .str [], .str [], .int .i64 0, .int .i64 0, .int .i64 0, .slice [] .full, .slice [] .full, .slice [] .full, .slice [] .full]) (m := 10) (fun _ => rfl) rfl a default (k := k) (by omega)
      simp -implicitDefEqProofs only [push_cast, Nat.reduceEqDiff, Nat.reduceBEq, Nat.reduceBNe, Nat.reduceAdd, Nat.reduceMul, Nat.reduceLT, Nat.reduceLeDiff, Nat.reduceSub, reduceCtorEq, Int.reduceToNat, ↓reduceIte] at hs
      try simp -implicitDefEqProofs only [hw, hf, hL, push_cast, Nat.reduceEqDiff, Nat.reduceBEq, Nat.reduceBNe, Nat.reduceAdd, Nat.reduceMul, Nat.reduceLT, Nat.reduceLeDiff, Nat.reduceSub, reduceCtorEq, Int.reduceToNat, ↓reduceIte]
      repeat'
        (first
         | (refine uYes ?_; first | exact List.mem_cons_self | (simp only [List.mem_cons, List.not_mem_nil, or_false, true_or, or_true]; done))
         | (refine uNo (by kernel_rfl))
         | (refine flatMk ?_; kernel_rfl)
         | (refine And.intro ?_ ?_)
         | (intro hx)
         | ((first
             | (refine callGF ?_)
             | (refine callQGF ?_)
             | (refine skipG ?_)
             | (refine callS (toLeg_gives (a.getD k default) _) ?_)
             | (refine callQ (toLeg_gives (a.getD k default) _) ?_)
             | (refine callG (fun hc => (toLeg_gives (a.getD k default) _)) ?_)
             | (refine callQG (fun hc => (toLeg_gives (a.getD k default) _)) ?_)); simp -implicitDefEqProofs only [hw, hf, hL, push_cast, Nat.reduceEqDiff, Nat.reduceBEq, Nat.reduceBNe, Nat.reduceAdd, Nat.reduceMul, Nat.reduceLT, Nat.reduceLeDiff, Nat.reduceSub, reduceCtorEq, Int.reduceToNat, ↓reduceIte]))
      all_goals try omega
      refine round_mk (k + 1) (by omega) (by omega) ?_
      simp -implicitDefEqProofs only [hw, hs, Int.natCast_add, Int.cast_ofNat_Int, List.length_nil, Nat.le_refl, WeakTo, tokSts, tokOks, List.append_cancel_left_eq, exists_eq_left', exists_eq_left, List.append_cancel_left_eq, List.take_length, ObCl, and_true, true_and, push_cast, Nat.reduceEqDiff, Nat.reduceBEq, Nat.reduceBNe, Nat.reduceAdd, Nat.reduceMul, Nat.reduceLT, Nat.reduceLeDiff, Nat.reduceSub, reduceCtorEq, Int.reduceToNat, ↓reduceIte]
      intro d hd
      rcases mem_fillRow hd with hd | ⟨x, _, hd⟩
      · exact zLeg_cl _ _ hd
      · exact Leg.cl _ _ _ hd
    · obtain rfl : k = a.length := by omega
      have hr : rowPart (h ++ [Ob.row (fillRow Leg.cs [.str [], .str [], .str [], .int .i64 0, .int .i64 0, .int .i64 0, .slice [] .full, .slice [] .full, .slice [] .full, .slice [] .full] a a.length)]) (List.length h) 10 0 a.length = a.flatMap Leg.cs := by
        simp only [rowPart, fillRow_full, ob_app0, ob_zero, rowOf, Nat.zero_mul, List.drop_zero, ht]
      try simp -implicitDefEqProofs only [hw, hf, hr, push_cast, Nat.reduceEqDiff, Nat.reduceBEq, Nat.reduceBNe, Nat.reduceAdd, Nat.reduceMul, Nat.reduceLT, Nat.reduceLeDiff, Nat.reduceSub, reduceCtorEq, Int.reduceToNat, ↓reduceIte]
      repeat'
        (first
         | (refine uYes ?_; first | exact List.mem_cons_self | (simp only [List.mem_cons, List.not_mem_nil, or_false, true_or, or_true]; done))
         | (refine uNo (by kernel_rfl))
         | (refine flatMk ?_; kernel_rfl)
         | (refine And.intro ?_ ?_)
         | (intro hx)
         | ((first
             | (refine callGF ?_)
             | (refine callQGF ?_)
             | (refine skipG ?_)
             | (refine callS (toLeg_gives (a.getD k default) _) ?_)
             | (refine callQ (toLeg_gives (a.getD k default) _) ?_)
             | (refine callG (fun hc => (toLeg_gives (a.getD k default) _)) ?_)
             | (refine callQG (fun hc => (toLeg_gives (a.getD k default) _)) ?_)); simp -implicitDefEqProofs only [hw, hf, hr, push_cast, Nat.reduceEqDiff, Nat.reduceBEq, Nat.reduceBNe, Nat.reduceAdd, Nat.reduceMul, Nat.reduceLT, Nat.reduceLeDiff, Nat.reduceSub, reduceCtorEq, Int.reduceToNat, ↓reduceIte]))
      all_goals first
        | omega
        | (obtain ⟨x, _, hd⟩ := List.mem_flatMap.1 hx
           exact Leg.cl _ _ _ hd)
        | exact chunk_map (g := Leg.d) (m := 10) (by omega) (fun _ => rfl) (fun _ => rfl) a _ rfl

theorem eqLegS_gives (a b : List Leg) (h : Hp) : Gives Try.prog 41 [.slice (a.map Leg.d) .no, .slice (b.map Leg.d) .no] h (.bool (eqSB eqLegB a b)) := by
  refine meets_of [] mixed Try.func41 rfl (by kernel_rfl) (by kernel_rfl) (by rw [Try.ntmps41]; simp only [List.length_cons, List.length_nil]; omega) (fun hf => ?_)
  rw [Try.results41]
  have hl : a.length ≤ 1073741824 := by simpa using slice_fit (hf (.slice (a.map Leg.d) .no) (by simp))
  clear hf
  try simp -implicitDefEqProofs only [push_cast, Nat.reduceEqDiff, Nat.reduceBEq, Nat.reduceBNe, Nat.reduceAdd, Nat.reduceMul, Nat.reduceLT, Nat.reduceLeDiff, Nat.reduceSub, reduceCtorEq, Int.reduceToNat, ↓reduceIte]
  repeat'
    (first
     | (refine uYes ?_; first | exact List.mem_cons_self | (simp only [List.mem_cons, List.not_mem_nil, or_false, true_or, or_true]; done))
     | (refine uNo (by kernel_rfl))
     | (refine flatMk ?_; kernel_rfl)
     | (refine And.intro ?_ ?_)
     | (intro hx)
     | ((first
         | (refine callGF ?_)
         | (refine callQGF ?_)
         | (refine skipG ?_)
         | (refine callS (l1In_gives _ _ _ _) ?_)
         | (refine callQ (l1In_gives _ _ _ _) ?_)
         | (refine callG (fun hc => (l1In_gives _ _ _ _)) ?_)
         | (refine callQG (fun hc => (l1In_gives _ _ _ _)) ?_)); simp -implicitDefEqProofs only [push_cast, Nat.reduceEqDiff, Nat.reduceBEq, Nat.reduceBNe, Nat.reduceAdd, Nat.reduceMul, Nat.reduceLT, Nat.reduceLeDiff, Nat.reduceSub, reduceCtorEq, Int.reduceToNat, ↓reduceIte]))
  · rw [eqSB, decide_eq_false (by omega)]
    rfl
  refine ev_loop0 [] (fun k : Nat => [(0, .slice (a.map Leg.d) .no), (1, .slice (b.map Leg.d) .no), (5, .int .i64 k)]) (fun k => k ≤ a.length ∧ ∀ i, i < k → eqLegB (a.getD i default) (b.getD i default) = true) (fun k => a.length - k) 0 trivial ⟨Nat.zero_le _, fun i hi => absurd hi (Nat.not_lt_zero i)⟩ ?_ ?_
  · exact ⟨rfl, [], by simp -implicitDefEqProofs only [Int.natCast_add, Int.cast_ofNat_Int, List.length_nil, Nat.le_refl, WeakTo, tokSts, tokOks, List.append_cancel_left_eq, exists_eq_left', exists_eq_left, List.append_cancel_left_eq, List.take_length, ObCl, and_true, true_and, push_cast, Nat.reduceEqDiff, Nat.reduceBEq, Nat.reduceBNe, Nat.reduceAdd, Nat.reduceMul, Nat.reduceLT, Nat.reduceLeDiff, Nat.reduceSub, reduceCtorEq, Int.reduceToNat, ↓reduceIte]⟩
  · intro k hk
    have hw : IntKind.i64.wrap ((k : Int) + 1) = k + 1 := wrap_id (by omega) (by omega)
    rcases Nat.lt_or_ge k a.length with hlt | hge
    · have hL := leg_at hlt
      have hL2 := leg_at (xs := b) (k := k) (by omega)
      try simp -implicitDefEqProofs only [hw, hL, hL2, push_cast, Nat.reduceEqDiff, Nat.reduceBEq, Nat.reduceBNe, Nat.reduceAdd, Nat.reduceMul, Nat.reduceLT, Nat.reduceLeDiff, Nat.reduceSub, reduceCtorEq, Int.reduceToNat, ↓reduceIte]
      repeat'
        (first
         | (refine uYes ?_; first | exact List.mem_cons_self | (simp only [List.mem_cons, List.not_mem_nil, or_false, true_or, or_true]; done))
         | (refine uNo (by kernel_rfl))
         | (refine flatMk ?_; kernel_rfl)
         | (refine And.intro ?_ ?_)
         | (intro hx)
         | ((first
             | (refine callGF ?_)
             | (refine callQGF ?_)
             | (refine skipG ?_)
             | (refine callS (eqLeg_gives (a.getD k default) (b.getD k default) _) ?_)
             | (refine callQ (eqLeg_gives (a.getD k default) (b.getD k default) _) ?_)
             | (refine callG (fun hc => (eqLeg_gives (a.getD k default) (b.getD k default) _)) ?_)
             | (refine callQG (fun hc => (eqLeg_gives (a.getD k default) (b.getD k default) _)) ?_)); simp -implicitDefEqProofs only [hw, hL, hL2, push_cast, Nat.reduceEqDiff, Nat.reduceBEq, Nat.reduceBNe, Nat.reduceAdd, Nat.reduceMul, Nat.reduceLT, Nat.reduceLeDiff, Nat.reduceSub, reduceCtorEq, Int.reduceToNat, ↓reduceIte]))
      all_goals first
        | omega
        | (refine round_mk0 (k + 1) ⟨by omega, allB_step hk.2 hx⟩ (by omega) ⟨[], ?_⟩
           simp -implicitDefEqProofs only [hw, Int.natCast_add, Int.cast_ofNat_Int, List.length_nil, Nat.le_refl, WeakTo, tokSts, tokOks, List.append_cancel_left_eq, exists_eq_left', exists_eq_left, List.append_cancel_left_eq, List.take_length, ObCl, and_true, true_and, push_cast, Nat.reduceEqDiff, Nat.reduceBEq, Nat.reduceBNe, Nat.reduceAdd, Nat.reduceMul, Nat.reduceLT, Nat.reduceLeDiff, Nat.reduceSub, reduceCtorEq, Int.reduceToNat, ↓reduceIte])
        | (rw [eqSB, allB_f k hlt hx, Bool.and_false])
    · try simp -implicitDefEqProofs only [hw, push_cast, Nat.reduceEqDiff, Nat.reduceBEq, Nat.reduceBNe, Nat.reduceAdd, Nat.reduceMul, Nat.reduceLT, Nat.reduceLeDiff, Nat.reduceSub, reduceCtorEq, Int.reduceToNat, ↓reduceIte]
      repeat'
        (first
         | (refine uYes ?_; first | exact List.mem_cons_self | (simp only [List.mem_cons, List.not_mem_nil, or_false, true_or, or_true]; done))
         | (refine uNo (by kernel_rfl))
         | (refine flatMk ?_; kernel_rfl)
         | (refine And.intro ?_ ?_)
         | (intro hx)
         | ((first
             | (refine callGF ?_)
             | (refine callQGF ?_)
             | (refine skipG ?_)
             | (refine callS (l1In_gives _ _ _ _) ?_)
             | (refine callQ (l1In_gives _ _ _ _) ?_)
             | (refine callG (fun hc => (l1In_gives _ _ _ _)) ?_)
             | (refine callQG (fun hc => (l1In_gives _ _ _ _)) ?_)); simp -implicitDefEqProofs only [hw, push_cast, Nat.reduceEqDiff, Nat.reduceBEq, Nat.reduceBNe, Nat.reduceAdd, Nat.reduceMul, Nat.reduceLT, Nat.reduceLeDiff, Nat.reduceSub, reduceCtorEq, Int.reduceToNat, ↓reduceIte]))
      all_goals first
        | omega
        | (rw [eqSB, decide_eq_true (by omega), allB_t (fun i hi => hk.2 i (by omega))]
           rfl)

def szL (n : Int) (l : Leg) : Int := szGo n [l.name.length, l.src.length, l.dst.length, l.limits.length, l.sold.length, l.bids.length, l.holds.length]
def szLs : Int → List Leg → Int
  | n, [] => n
  | n, l :: ls => if szL n l < 0 then -1 else szLs (szL n l) ls
theorem szLs_drop (n : Int) {net : List Leg} {k : Nat} (h : k < net.length) : szLs n (net.drop k) = if szL n (net.getD k default) < 0 then -1 else szLs (szL n (net.getD k default)) (net.drop (k + 1)) := by
  rw [List.drop_eq_getElem_cons h, szLs, List.getD_eq_getElem?_getD, List.getElem?_eq_getElem h]
  rfl
theorem szLegS_gives (net : List Leg) (n : Int) (h : Hp) : Gives Try.prog 39 [.slice (net.map Leg.d) .no, .int .i64 n] h (.int .i64 (if IntKind.i64.wrap (n - net.length) < 0 then -1 else szLs (IntKind.i64.wrap (n - net.length)) net)) := by
  refine meets_of [] mixed Try.func39 rfl (by kernel_rfl) (by kernel_rfl) (by rw [Try.ntmps39]; simp only [List.length_cons, List.length_nil]; omega) (fun hf => ?_)
  rw [Try.results39]
  have hl : net.length ≤ 1073741824 := by simpa using slice_fit (hf (.slice (net.map Leg.d) .no) (by simp))
  clear hf
  try simp -implicitDefEqProofs only [push_cast, Nat.reduceEqDiff, Nat.reduceBEq, Nat.reduceBNe, Nat.reduceAdd, Nat.reduceMul, Nat.reduceLT, Nat.reduceLeDiff, Nat.reduceSub, reduceCtorEq, Int.reduceToNat, ↓reduceIte]
  repeat'
    (first
     | (refine uYes ?_; first | exact List.mem_cons_self | (simp only [List.mem_cons, List.not_mem_nil, or_false, true_or, or_true]; done))
     | (refine uNo (by kernel_rfl))
     | (refine flatMk ?_; kernel_rfl)
     | (refine And.intro ?_ ?_)
     | (intro hx)
     | ((first
         | (refine callGF ?_)
         | (refine callQGF ?_)
         | (refine skipG ?_)
         | (refine callS (l1In_gives _ _ _ _) ?_)
         | (refine callQ (l1In_gives _ _ _ _) ?_)
         | (refine callG (fun hc => (l1In_gives _ _ _ _)) ?_)
         | (refine callQG (fun hc => (l1In_gives _ _ _ _)) ?_)); simp -implicitDefEqProofs only [push_cast, Nat.reduceEqDiff, Nat.reduceBEq, Nat.reduceBNe, Nat.reduceAdd, Nat.reduceMul, Nat.reduceLT, Nat.reduceLeDiff, Nat.reduceSub, reduceCtorEq, Int.reduceToNat, ↓reduceIte]))
  · rw [if_pos hx]
  rw [if_neg (by omega)]
  refine ev_loop0 [] (fun x : Nat × Int => [(0, .slice (net.map Leg.d) .no), (1, .int .i64 x.2), (5, .int .i64 x.1)]) (fun x => x.1 ≤ net.length ∧ szLs (IntKind.i64.wrap (n - net.length)) net = szLs x.2 (net.drop x.1)) (fun x => net.length - x.1) (0, IntKind.i64.wrap (n - net.length)) trivial ⟨Nat.zero_le _, by rw [List.drop_zero]⟩ ?_ ?_
  · exact ⟨rfl, [], by simp -implicitDefEqProofs only [Int.natCast_add, Int.cast_ofNat_Int, List.length_nil, Nat.le_refl, WeakTo, tokSts, tokOks, List.append_cancel_left_eq, exists_eq_left', exists_eq_left, List.append_cancel_left_eq, List.take_length, ObCl, and_true, true_and, push_cast, Nat.reduceEqDiff, Nat.reduceBEq, Nat.reduceBNe, Nat.reduceAdd, Nat.reduceMul, Nat.reduceLT, Nat.reduceLeDiff, Nat.reduceSub, reduceCtorEq, Int.reduceToNat, ↓reduceIte]⟩
  · rintro ⟨k, m⟩ hk
    simp only at hk
    have hw : IntKind.i64.wrap ((k : Int) + 1) = k + 1 := wrap_id (by omega) (by omega)
    rcases Nat.lt_or_ge k net.length with hlt | hge
    · have hL := leg_at hlt
      have hd := szLs_drop m hlt
      try simp -implicitDefEqProofs only [hw, hL, push_cast, Nat.reduceEqDiff, Nat.reduceBEq, Nat.reduceBNe, Nat.reduceAdd, Nat.reduceMul, Nat.reduceLT, Nat.reduceLeDiff, Nat.reduceSub, reduceCtorEq, Int.reduceToNat, ↓reduceIte]
      repeat'
        (first
         | (refine uYes ?_; first | exact List.mem_cons_self | (simp only [List.mem_cons, List.not_mem_nil, or_false, true_or, or_true]; done))
         | (refine uNo (by kernel_rfl))
         | (refine flatMk ?_; kernel_rfl)
         | (refine And.intro ?_ ?_)
         | (intro hx)
         | ((first
             | (refine callGF ?_)
             | (refine callQGF ?_)
             | (refine skipG ?_)
             | (refine callS (szLeg_gives (net.getD k default) m _) ?_)
             | (refine callQ (szLeg_gives (net.getD k default) m _) ?_)
             | (refine callG (fun hc => (szLeg_gives (net.getD k default) m _)) ?_)
             | (refine callQG (fun hc => (szLeg_gives (net.getD k default) m _)) ?_)); simp -implicitDefEqProofs only [hw, hL, push_cast, Nat.reduceEqDiff, Nat.reduceBEq, Nat.reduceBNe, Nat.reduceAdd, Nat.reduceMul, Nat.reduceLT, Nat.reduceLeDiff, Nat.reduceSub, reduceCtorEq, Int.reduceToNat, ↓reduceIte]))
      all_goals first
        | omega
        | (refine round_mk0 (k + 1, szL m (net.getD k default)) ⟨by simp only; omega, ?_⟩ (by simp only; omega) ⟨[], ?_⟩
           · rw [hk.2, hd, if_neg]
             simp only [szL]
             omega
           · simp -implicitDefEqProofs only [szL, hw, Int.natCast_add, Int.cast_ofNat_Int, List.length_nil, Nat.le_refl, WeakTo, tokSts, tokOks, List.append_cancel_left_eq, exists_eq_left', exists_eq_left, List.append_cancel_left_eq, List.take_length, ObCl, and_true, true_and, push_cast, Nat.reduceEqDiff, Nat.reduceBEq, Nat.reduceBNe, Nat.reduceAdd, Nat.reduceMul, Nat.reduceLT, Nat.reduceLeDiff, Nat.reduceSub, reduceCtorEq, Int.reduceToNat, ↓reduceIte])
        | (rw [hk.2, hd, if_pos]
           simp only [szL]
           omega)
    · try simp -implicitDefEqProofs only [hw, push_cast, Nat.reduceEqDiff, Nat.reduceBEq, Nat.reduceBNe, Nat.reduceAdd, Nat.reduceMul, Nat.reduceLT, Nat.reduceLeDiff, Nat.reduceSub, reduceCtorEq, Int.reduceToNat, ↓reduceIte]
      repeat'
        (first
         | (refine uYes ?_; first | exact List.mem_cons_self | (simp only [List.mem_cons, List.not_mem_nil, or_false, true_or, or_true]; done))
         | (refine uNo (by kernel_rfl))
         | (refine flatMk ?_; kernel_rfl)
         | (refine And.intro ?_ ?_)
         | (intro hx)
         | ((first
             | (refine callGF ?_)
             | (refine callQGF ?_)
             | (refine skipG ?_)
             | (refine callS (in_gives ..) ?_)
             | (refine callQ (in_gives ..) ?_)
             | (refine callG (fun hc => (in_gives ..)) ?_)
             | (refine callQG (fun hc => (in_gives ..)) ?_)); simp -implicitDefEqProofs only [hw, push_cast, Nat.reduceEqDiff, Nat.reduceBEq, Nat.reduceBNe, Nat.reduceAdd, Nat.reduceMul, Nat.reduceLT, Nat.reduceLeDiff, Nat.reduceSub, reduceCtorEq, Int.reduceToNat, ↓reduceIte]))
      all_goals first
        | omega
        | (obtain rfl : k = net.length := by omega
           rw [hk.2, List.drop_length, szLs])

theorem fnExactNetOk_gives (net : List Leg) (h : Hp) : Gives Try.prog 8 [.slice (net.map Leg.d) .no] h (.bool true) := by
  refine meets_of [] mixed Try.func8 rfl (by kernel_rfl) (by kernel_rfl) (by rw [Try.ntmps8]; simp only [List.length_cons, List.length_nil]; omega) (fun hf => ?_)
  rw [Try.results8]
  clear hf
  have he := eqSB_self eqLegB_self net
  try simp -implicitDefEqProofs only [he, push_cast, Nat.reduceEqDiff, Nat.reduceBEq, Nat.reduceBNe, Nat.reduceAdd, Nat.reduceMul, Nat.reduceLT, Nat.reduceLeDiff, Nat.reduceSub, reduceCtorEq, Int.reduceToNat, ↓reduceIte]
  repeat'
    (first
     | (refine uYes ?_; first | exact List.mem_cons_self | (simp only [List.mem_cons, List.not_mem_nil, or_false, true_or, or_true]; done))
     | (refine uNo (by kernel_rfl))
     | (refine flatMk ?_; kernel_rfl)
     | (refine And.intro ?_ ?_)
     | (intro hx)
     | ((first
         | (refine callGF ?_)
         | (refine callQGF ?_)
         | (refine skipG ?_)
         | (refine callS (szLegS_gives net _ _) ?_)
         | (refine callQ (szLegS_gives net _ _) ?_)
         | (refine callG (fun hc => (szLegS_gives net _ _)) ?_)
         | (refine callQG (fun hc => (szLegS_gives net _ _)) ?_)
         | (refine callS (toLegS_gives net _) ?_)
         | (refine callQ (toLegS_gives net _) ?_)
         | (refine callG (fun hc => (toLegS_gives net _)) ?_)
         | (refine callQG (fun hc => (toLegS_gives net _)) ?_)
         | (refine callS (specNetOk_gives net _) ?_)
         | (refine callQ (specNetOk_gives net _) ?_)
         | (refine callG (fun hc => (specNetOk_gives net _)) ?_)
         | (refine callQG (fun hc => (specNetOk_gives net _)) ?_)
         | (refine callS (implNetOk_gives net _) ?_)
         | (refine callQ (implNetOk_gives net _) ?_)
         | (refine callG (fun hc => (implNetOk_gives net _)) ?_)
         | (refine callQG (fun hc => (implNetOk_gives net _)) ?_)
         | (refine callS (eqLegS_gives net net _) ?_)
         | (refine callQ (eqLegS_gives net net _) ?_)
         | (refine callG (fun hc => (eqLegS_gives net net _)) ?_)
         | (refine callQG (fun hc => (eqLegS_gives net net _)) ?_)); simp -implicitDefEqProofs only [he, push_cast, Nat.reduceEqDiff, Nat.reduceBEq, Nat.reduceBNe, Nat.reduceAdd, Nat.reduceMul, Nat.reduceLT, Nat.reduceLeDiff, Nat.reduceSub, reduceCtorEq, Int.reduceToNat, ↓reduceIte]))
  all_goals grind
end Go.Proofs.Ytmehbbepppjikaa
