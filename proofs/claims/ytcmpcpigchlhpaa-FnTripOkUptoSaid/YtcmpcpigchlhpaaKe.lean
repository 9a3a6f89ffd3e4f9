/- Rules are drawn. -/
import Derived.Test.YtcmpcpigchlhpaaKd

namespace Go.Proofs.Ytcmpcpigchlhpaa
set_option linter.unusedSectionVars false
open Go.Av
variable [Av.Start]
set_option maxRecDepth 10000
set_option maxHeartbeats 4000000
set_option linter.unusedSimpArgs false
set_option linter.unusedVariables false

def B5 : Nat → Nat
  | 0 => 30
  | n + 1 => 5 * B5 n
omit [Av.Start] in
theorem B5_ge : ∀ n, 30 ≤ B5 n
  | 0 => Nat.le_refl _
  | n + 1 => by
    have := B5_ge n
    rw [B5]
    omega
/-- what l14Rule does at p, at five less n deep: some rule, and some place behind -/
def DrawsRule (bs : List Int) (names : List (List UInt8)) (n : Nat) (p : Int) (d : D) (p' : Int) : Prop :=
  RuleD n d ∧ p ≤ p' ∧ p' ≤ p + B5 n ∧ ∀ (r : Nat) (h : Hp), ob h r = .row (rdC bs p) → r < h.length →
    Meets Try.prog 83 [.ptr r 0, .int .i64 (5 - n), .slice (names.map .str) .no] h fun d' h' => d' = d ∧ h' = h.set r (.row (rdC bs p'))
def numsR (bs : List Int) (q : Int) : List Int := [pickV bs q 40, pickV bs (q + 1) 9 - 4, 100, 1000000000, pickV bs (q + 1 + 1) 3]
/-- a leaf, its first pick at q -/
theorem leaf_name (bs : List Int) (names : List (List UInt8)) (hn : ∀ s, s ∈ names → nameB s = true ∧ s.length ≤ 8) (h1 : 1 ≤ names.length) (n : Nat) (p q : Int) (hp0 : 0 ≤ p) (H : Rd bs (p + 40)) (hq : q = p ∧ n = 0 ∨ q = p + 1 ∧ 0 < n ∧ n ≤ 4 ∧ pickV bs p 3 = 0) (hz : pickV bs q 2 = 0) :
    DrawsRule bs names n p (ruD 2 0 (names.getD (pickV bs (q + 1) names.length).toNat []) [] []) (q + 1 + 1) := by
  have hhi := H.hi
  have hql : p ≤ q ∧ q ≤ p + 1 := by omega
  have v1 := pickV_range (p := q + 1) (H.up (by omega) (by omega)) names.length (by omega)
  have h5 := B5_ge n
  have hmem : names.getD (pickV bs (q + 1) names.length).toNat [] ∈ names := by
    rw [List.getD_eq_getElem?_getD, List.getElem?_eq_getElem (by omega)]
    exact List.getElem_mem _
  have hN := hn _ hmem
  refine ⟨?_, by omega, by omega, fun r h hr hrl => ?_⟩
  · cases n with
    | zero => exact ⟨2, 0, _, .inr ⟨rfl, rfl, hN.1, hN.2⟩, rfl⟩
    | succ n => exact .inl ⟨2, 0, _, .inr ⟨rfl, rfl, hN.1, hN.2⟩, rfl⟩
  have hO := fun g q1 q2 => of_gives bs (q + 1) names .no r g q1 q2 (H.up (by omega) (by omega)) h1
  generalize names.getD (pickV bs (q + 1) names.length).toNat [] = nm at hO hN
  obtain ⟨r1, r2, r3, r4, r5, r6, r7, r8, r9⟩ := rdf hrl
  have r4' := fun ls => (r4 ls).trans hr
  have hln : ∀ x ls, r < (h.set r x ++ ls).length := fun x ls => by rw [List.length_append, List.length_set]; omega
  have h0L : (0 ≤ lenMax) = True := eq_true (Nat.zero_le _)
  rw [ruD]
  rcases hq with ⟨rfl, rfl⟩ | ⟨rfl, n0, n4, hz3⟩
  · refine meets_of [2000013] mixed Try.func83 rfl (by kernel_rfl) (by kernel_rfl) (by rw [Try.ntmps83]; simp only [List.length_cons, List.length_nil]; omega) (fun hf => ?_)
    rw [Try.results83]
    clear hf
    try simp -implicitDefEqProofs only [hz, h0L, r1, r2, r5, r6, r7, r8, List.length_set, List.set_set, push_cast, Nat.reduceEqDiff, Nat.reduceBEq, Nat.reduceBNe, Nat.reduceAdd, Nat.reduceMul, Nat.reduceLT, Nat.reduceLeDiff, Nat.reduceSub, reduceCtorEq, Int.reduceToNat, ↓reduceIte]
    repeat'
      (first
       | (refine uYes ?_; first | exact List.mem_cons_self | (simp only [List.mem_cons, List.not_mem_nil, or_false, true_or, or_true]; done))
       | (refine uNo (by kernel_rfl))
       | (refine flatMk ?_; kernel_rfl)
       | (refine And.intro ?_ ?_)
       | (intro hx)
       | ((first
           | (refine callGF ?_)
           | (refine callQGF ?_)
           | (refine skipG ?_)
           | (refine callM (dst := some 17) (pick_gives bs _ _ r _ (r4' _) (by simp; omega) (H.up (by omega) (by omega))) ?_)
           | (refine callM (dst := some 21) (hO _ (r3 _ _) (hln _ _)) ?_)); simp -implicitDefEqProofs only [hz, h0L, r1, r2, r5, r6, r7, r8, List.length_set, List.set_set, push_cast, Nat.reduceEqDiff, Nat.reduceBEq, Nat.reduceBNe, Nat.reduceAdd, Nat.reduceMul, Nat.reduceLT, Nat.reduceLeDiff, Nat.reduceSub, reduceCtorEq, Int.reduceToNat, ↓reduceIte]))
    all_goals first
      | omega
      | exact back_rd hrl _ _ _
      | trace_state
  · have hd : decide ((5 : Int) ≤ 5 - (n : Int)) = false := decide_eq_false (by omega)
    refine meets_of [2000013] mixed Try.func83 rfl (by kernel_rfl) (by kernel_rfl) (by rw [Try.ntmps83]; simp only [List.length_cons, List.length_nil]; omega) (fun hf => ?_)
    rw [Try.results83]
    clear hf
    try simp -implicitDefEqProofs only [hd, hz, hz3, h0L, r1, r2, r5, r6, r7, r8, List.length_set, List.set_set, push_cast, Nat.reduceEqDiff, Nat.reduceBEq, Nat.reduceBNe, Nat.reduceAdd, Nat.reduceMul, Nat.reduceLT, Nat.reduceLeDiff, Nat.reduceSub, reduceCtorEq, Int.reduceToNat, ↓reduceIte]
    repeat'
      (first
       | (refine uYes ?_; first | exact List.mem_cons_self | (simp only [List.mem_cons, List.not_mem_nil, or_false, true_or, or_true]; done))
       | (refine uNo (by kernel_rfl))
       | (refine flatMk ?_; kernel_rfl)
       | (refine And.intro ?_ ?_)
       | (intro hx)
       | ((first
           | (refine callGF ?_)
           | (refine callQGF ?_)
           | (refine skipG ?_)
           | (refine callM (dst := some 13) (pick_gives bs _ _ r _ (r4' _) (by simp; omega) (H.up (by omega) (by omega))) ?_)
           | (refine callM (dst := some 17) (pick_gives bs _ _ r _ (r3 _ _) (hln _ _) (H.up (by omega) (by omega))) ?_)
           | (refine callM (dst := some 21) (hO _ (r3 _ _) (hln _ _)) ?_)); simp -implicitDefEqProofs only [hd, hz, hz3, h0L, r1, r2, r5, r6, r7, r8, List.length_set, List.set_set, push_cast, Nat.reduceEqDiff, Nat.reduceBEq, Nat.reduceBNe, Nat.reduceAdd, Nat.reduceMul, Nat.reduceLT, Nat.reduceLeDiff, Nat.reduceSub, reduceCtorEq, Int.reduceToNat, ↓reduceIte]))
    all_goals first
      | omega
      | exact back_rd hrl _ _ _
      | trace_state
theorem leaf_num (bs : List Int) (names : List (List UInt8)) (n : Nat) (p q : Int) (hp0 : 0 ≤ p) (H : Rd bs (p + 40)) (hq : q = p ∧ n = 0 ∨ q = p + 1 ∧ 0 < n ∧ n ≤ 4 ∧ pickV bs p 3 = 0) (hz : pickV bs q 2 ≠ 0) :
    DrawsRule bs names n p (ruD 1 ((numsR bs (q + 1)).getD (pickV bs (q + 1 + 1 + 1 + 1) 5).toNat 0) [] [] []) (q + 1 + 1 + 1 + 1 + 1) := by
  have hhi := H.hi
  have hql : p ≤ q ∧ q ≤ p + 1 := by omega
  have v1 := pickV_range (p := q + 1) (H.up (by omega) (by omega)) 40 (by omega)
  have v2 := pickV_range (p := q + 1 + 1) (H.up (by omega) (by omega)) 9 (by omega)
  have v3 := pickV_range (p := q + 1 + 1 + 1) (H.up (by omega) (by omega)) 3 (by omega)
  have v4 := pickV_range (p := q + 1 + 1 + 1 + 1) (H.up (by omega) (by omega)) 5 (by omega)
  have h5 := B5_ge n
  have w1 : IntKind.i64.wrap (pickV bs (q + 1 + 1) 9 - 4) = pickV bs (q + 1 + 1) 9 - 4 := wrap_id (by omega) (by omega)
  have hge : ∀ k : Nat, [D.int .i64 (pickV bs (q + 1) 40), D.int .i64 (pickV bs (q + 1 + 1) 9 - 4), D.int .i64 100, D.int .i64 1000000000, D.int .i64 (pickV bs (q + 1 + 1 + 1) 3)].getD k (D.int .i64 0) = D.int .i64 ((numsR bs (q + 1)).getD k 0) := fun k => getD_map (D.int .i64) 0 (numsR bs (q + 1)) k
  have hb : -1000000000 ≤ (numsR bs (q + 1)).getD (pickV bs (q + 1 + 1 + 1 + 1) 5).toNat 0 ∧ (numsR bs (q + 1)).getD (pickV bs (q + 1 + 1 + 1 + 1) 5).toNat 0 ≤ 1000000000 := by
    obtain ⟨k, hk, hk5⟩ : ∃ k, (pickV bs (q + 1 + 1 + 1 + 1) 5).toNat = k ∧ k < 5 := ⟨_, rfl, by omega⟩
    rw [hk, numsR]
    match k, hk5 with
    | 0, _ => simp only [List.getD_cons_zero]; omega
    | 1, _ => simp only [List.getD_cons_succ, List.getD_cons_zero]; omega
    | 2, _ => simp only [List.getD_cons_succ, List.getD_cons_zero]; omega
    | 3, _ => simp only [List.getD_cons_succ, List.getD_cons_zero]; omega
    | 4, _ => simp only [List.getD_cons_succ, List.getD_cons_zero]; omega
  refine ⟨?_, by omega, by omega, fun r h hr hrl => ?_⟩
  · cases n with
    | zero => exact ⟨1, _, [], .inl ⟨rfl, hb.1, hb.2, rfl⟩, rfl⟩
    | succ n => exact .inl ⟨1, _, [], .inl ⟨rfl, hb.1, hb.2, rfl⟩, rfl⟩
  obtain ⟨r1, r2, r3, r4, r5, r6, r7, r8, r9⟩ := rdf hrl
  have r4' := fun ls => (r4 ls).trans hr
  have hln : ∀ x ls, r < (h.set r x ++ ls).length := fun x ls => by rw [List.length_append, List.length_set]; omega
  have h0L : (0 ≤ lenMax) = True := eq_true (Nat.zero_le _)
  have hz' : decide (pickV bs q 2 = 0) = false := decide_eq_false hz
  have hP := fun g u q1 q2 q3 => pick_gives bs u 40 r g q1 q2 q3
  rw [ruD]
  rcases hq with ⟨rfl, rfl⟩ | ⟨rfl, n0, n4, hz3⟩
  · refine meets_of [2000013] mixed Try.func83 rfl (by kernel_rfl) (by kernel_rfl) (by rw [Try.ntmps83]; simp only [List.length_cons, List.length_nil]; omega) (fun hf => ?_)
    rw [Try.results83]
    clear hf
    try simp -implicitDefEqProofs only [hz', h0L, w1, hge, r1, r2, r5, r6, r7, r8, List.length_set, List.set_set, push_cast, Nat.reduceEqDiff, Nat.reduceBEq, Nat.reduceBNe, Nat.reduceAdd, Nat.reduceMul, Nat.reduceLT, Nat.reduceLeDiff, Nat.reduceSub, reduceCtorEq, Int.reduceToNat, ↓reduceIte]
    repeat'
      (first
       | (refine uYes ?_; first | exact List.mem_cons_self | (simp only [List.mem_cons, List.not_mem_nil, or_false, true_or, or_true]; done))
       | (refine uNo (by kernel_rfl))
       | (refine flatMk ?_; kernel_rfl)
       | (refine And.intro ?_ ?_)
       | (intro hx)
       | ((first
           | (refine callGF ?_)
           | (refine callQGF ?_)
           | (refine skipG ?_)
           | (refine callM (dst := some 17) (pick_gives bs _ _ r _ (r4' _) (by simp; omega) (H.up (by omega) (by omega))) ?_)
           | (refine callM (dst := some 24) (pick_gives bs _ _ r _ (r3 _ _) (hln _ _) (H.up (by omega) (by omega))) ?_)
           | (refine callM (dst := some 26) (pick_gives bs _ _ r _ (r3 _ _) (hln _ _) (H.up (by omega) (by omega))) ?_)
           | (refine callM (dst := some 29) (pick_gives bs _ _ r _ (r3 _ _) (hln _ _) (H.up (by omega) (by omega))) ?_)
           | (refine callM (dst := some 32) (pick_gives bs _ _ r _ (r3 _ _) (hln _ _) (H.up (by omega) (by omega))) ?_)); simp -implicitDefEqProofs only [hz', h0L, w1, hge, r1, r2, r5, r6, r7, r8, List.length_set, List.set_set, push_cast, Nat.reduceEqDiff, Nat.reduceBEq, Nat.reduceBNe, Nat.reduceAdd, Nat.reduceMul, Nat.reduceLT, Nat.reduceLeDiff, Nat.reduceSub, reduceCtorEq, Int.reduceToNat, ↓reduceIte]))
    all_goals first
      | omega
      | (simp only [lenMax]; omega)
      | exact back_rd hrl _ _ _
      | trace_state
  · have hd : decide ((5 : Int) ≤ 5 - (n : Int)) = false := decide_eq_false (by omega)
    refine meets_of [2000013] mixed Try.func83 rfl (by kernel_rfl) (by kernel_rfl) (by rw [Try.ntmps83]; simp only [List.length_cons, List.length_nil]; omega) (fun hf => ?_)
    rw [Try.results83]
    clear hf
    try simp -implicitDefEqProofs only [hd, hz', hz3, h0L, w1, hge, r1, r2, r5, r6, r7, r8, List.length_set, List.set_set, push_cast, Nat.reduceEqDiff, Nat.reduceBEq, Nat.reduceBNe, Nat.reduceAdd, Nat.reduceMul, Nat.reduceLT, Nat.reduceLeDiff, Nat.reduceSub, reduceCtorEq, Int.reduceToNat, ↓reduceIte]
    repeat'
      (first
       | (refine uYes ?_; first | exact List.mem_cons_self | (simp only [List.mem_cons, List.not_mem_nil, or_false, true_or, or_true]; done))
       | (refine uNo (by kernel_rfl))
       | (refine flatMk ?_; kernel_rfl)
       | (refine And.intro ?_ ?_)
       | (intro hx)
       | ((first
           | (refine callGF ?_)
           | (refine callQGF ?_)
           | (refine skipG ?_)
           | (refine callM (dst := some 13) (pick_gives bs _ _ r _ (r4' _) (by simp; omega) (H.up (by omega) (by omega))) ?_)
           | (refine callM (dst := some 17) (pick_gives bs _ _ r _ (r3 _ _) (hln _ _) (H.up (by omega) (by omega))) ?_)
           | (refine callM (dst := some 24) (pick_gives bs _ _ r _ (r3 _ _) (hln _ _) (H.up (by omega) (by omega))) ?_)
           | (refine callM (dst := some 26) (pick_gives bs _ _ r _ (r3 _ _) (hln _ _) (H.up (by omega) (by omega))) ?_)
           | (refine callM (dst := some 29) (pick_gives bs _ _ r _ (r3 _ _) (hln _ _) (H.up (by omega) (by omega))) ?_)
           | (refine callM (dst := some 32) (pick_gives bs _ _ r _ (r3 _ _) (hln _ _) (H.up (by omega) (by omega))) ?_)); simp -implicitDefEqProofs only [hd, hz', hz3, h0L, w1, hge, r1, r2, r5, r6, r7, r8, List.length_set, List.set_set, push_cast, Nat.reduceEqDiff, Nat.reduceBEq, Nat.reduceBNe, Nat.reduceAdd, Nat.reduceMul, Nat.reduceLT, Nat.reduceLeDiff, Nat.reduceSub, reduceCtorEq, Int.reduceToNat, ↓reduceIte]))
    all_goals first
      | omega
      | (simp only [lenMax]; omega)
      | exact back_rd hrl _ _ _
      | trace_state
end Go.Proofs.Ytcmpcpigchlhpaa

/- Rules are drawn: what has kids. -/
namespace Go.Proofs.Ytcmpcpigchlhpaa
set_option linter.unusedSectionVars false
open Go.Av
variable [Av.Start]
set_option maxRecDepth 10000
set_option maxHeartbeats 4000000
set_option linter.unusedSimpArgs false
set_option linter.unusedVariables false

/-- the rows of l14Rule behind i kids -/
def ruRows (op : Int) (q : Nat) (ks : List D) : Nat → Hp
  | 0 => [.row [.int .i64 0, .int .i64 0, .str [], .slice [] .full, .slice [] .full], .row [.int .i64 op, .int .i64 0, .str [], .slice [] .full, .slice [] .full]]
  | i + 1 => [.row [.int .i64 0, .int .i64 0, .str [], .slice [] .full, .slice [] .full], .row [.int .i64 op, .int .i64 0, .str [], .slice ks (.buf q 5), .slice [] .full], .buf ((i + 1) * 5)]
omit [Av.Start] in
theorem ruRows_cl (op : Int) (n : Nat) (ks : List D) (i : Nat) : ∀ x, x ∈ ruRows op (n + 2) ks i → ObCl (n + (ruRows op (n + 2) ks i).length) x := by
  intro x hx
  cases i with
  | zero =>
    simp only [ruRows, List.mem_cons, List.not_mem_nil, or_false] at hx
    rcases hx with rfl | rfl <;> simp -implicitDefEqProofs only [Int.natCast_add, Int.cast_ofNat_Int, List.length_nil, Nat.le_refl, WeakTo, tokSts, tokOks, List.append_cancel_left_eq, exists_eq_left', exists_eq_left, List.append_cancel_left_eq, List.take_length, ObCl, and_true, true_and, push_cast, Nat.reduceEqDiff, Nat.reduceBEq, Nat.reduceBNe, Nat.reduceAdd, Nat.reduceMul, Nat.reduceLT, Nat.reduceLeDiff, Nat.reduceSub, reduceCtorEq, Int.reduceToNat, ↓reduceIte]
  | succ i =>
    simp only [ruRows, List.mem_cons, List.not_mem_nil, or_false] at hx
    rcases hx with rfl | rfl | rfl <;> simp -implicitDefEqProofs only [ruRows, Int.natCast_add, Int.cast_ofNat_Int, List.length_nil, Nat.le_refl, WeakTo, tokSts, tokOks, List.append_cancel_left_eq, exists_eq_left', exists_eq_left, List.append_cancel_left_eq, List.take_length, ObCl, and_true, true_and, push_cast, Nat.reduceEqDiff, Nat.reduceBEq, Nat.reduceBNe, Nat.reduceAdd, Nat.reduceMul, Nat.reduceLT, Nat.reduceLeDiff, Nat.reduceSub, reduceCtorEq, Int.reduceToNat, ↓reduceIte]
    all_goals omega
def kidsK (F : Int → D × Int) (q : Int) : Nat → List D × Int
  | 0 => ([], q)
  | i + 1 => ((kidsK F q i).1 ++ [(F (kidsK F q i).2).1], (F (kidsK F q i).2).2)
theorem kidsK_ok {bs : List Int} {names : List (List UInt8)} {n : Nat} {F : Int → D × Int} {q : Int} (hq : 0 ≤ q) (H : Rd bs (q + 40 + ((4 * B5 n : Nat) : Int)))
    (hF : ∀ u, 0 ≤ u → Rd bs (u + 40 + ((B5 n : Nat) : Int)) → DrawsRule bs names n u (F u).1 (F u).2) : ∀ i : Nat, i ≤ 4 → q ≤ (kidsK F q i).2 ∧ (kidsK F q i).2 ≤ q + ((i * B5 n : Nat) : Int) ∧ (kidsK F q i).1.length = i ∧ ∀ k, k ∈ (kidsK F q i).1 → RuleD n k
  | 0, _ => ⟨by simp [kidsK], by simp [kidsK], rfl, fun k hk => nomatch hk⟩
  | i + 1, h => by
    obtain ⟨a1, a2, a3, a4⟩ := kidsK_ok hq H hF i (by omega)
    have hh := H.hi
    have hi : i * B5 n ≤ 3 * B5 n := Nat.mul_le_mul_right _ (by omega)
    obtain ⟨b1, b2, b3, _⟩ := hF (kidsK F q i).2 (by omega) (H.up (by omega) (by omega))
    refine ⟨by simp only [kidsK]; omega, ?_, by simp [kidsK, a3], fun k hk => ?_⟩
    · simp only [kidsK]
      rw [Nat.succ_mul]
      omega
    · rcases List.mem_append.1 hk with hk | hk
      · exact a4 k hk
      · rw [List.mem_singleton.1 hk]
        exact b1
theorem node_ex {bs : List Int} {names : List (List UInt8)} {n : Nat} {F : Int → D × Int} {p : Int} (hp0 : 0 ≤ p) (H : Rd bs (p + 40 + ((B5 (n + 1) : Nat) : Int))) (hn3 : n + 1 ≤ 4) (hz3 : pickV bs p 3 ≠ 0)
    (hF : ∀ u, 0 ≤ u → Rd bs (u + 40 + ((B5 n : Nat) : Int)) → DrawsRule bs names n u (F u).1 (F u).2) : ∃ d p', DrawsRule bs names (n + 1) p d p' := by
  have hhi := H.hi
  have h5 := B5_ge n
  rw [B5] at hhi
  have v8 := pickV_range (p := p + 1) (H.up (by omega) (by omega)) 8 (by omega)
  obtain ⟨op, hop⟩ : ∃ op, op = 3 + pickV bs (p + 1) 8 := ⟨_, rfl⟩
  obtain ⟨m, hm⟩ : ∃ m, m = kidsN op := ⟨_, rfl⟩
  have hm4 : m ≤ 4 := hm ▸ kidsN_le op
  have hK := fun i hi => kidsK_ok (q := p + 1 + 1) (by omega) (H.up (by omega) (by omega)) hF i hi
  have hPm := hK m hm4
  have hmB : m * B5 n ≤ 4 * B5 n := Nat.mul_le_mul_right _ hm4
  -- what stands behind the kids
  obtain ⟨ms, p2, hms, hp2, hp2', hMs⟩ : ∃ (ms : List Mrk) (p2 : Int), ((op ≠ 10 → ms = []) ∧ (op = 10 → MrkP ms)) ∧ (kidsK F (p + 1 + 1) m).2 ≤ p2 ∧ p2 ≤ (kidsK F (p + 1 + 1) m).2 + 20 ∧ ((op ≠ 10 → p2 = (kidsK F (p + 1 + 1) m).2) ∧ (op = 10 → ∀ (r : Nat) (h : Hp), ob h r = .row (rdC bs (kidsK F (p + 1 + 1) m).2) → r < h.length →
      Meets Try.prog 99 [.ptr r 0] h fun d' h' => d' = .slice (ms.map Mrk.d) .no ∧ h' = h.set r (.row (rdC bs p2)))) := by
    by_cases ho : op = 10
    · obtain ⟨ms, p2, a1, a2, a3, a4⟩ := l14Marks_ex bs (kidsK F (p + 1 + 1) m).2 (H.up (by omega) (by omega)) (by omega)
      exact ⟨ms, p2, ⟨fun e => absurd ho e, fun _ => a1⟩, a2, a3, fun e => absurd ho e, fun _ => a4⟩
    · exact ⟨[], _, ⟨fun _ => rfl, fun e => absurd e ho⟩, Int.le_refl _, by omega, fun _ => rfl, fun e => absurd e ho⟩
  refine ⟨ruD op 0 [] (kidsK F (p + 1 + 1) m).1 ms, p2, ?_, by omega, ?_, fun r h hr hrl => ?_⟩
  · exact .inr ⟨op, _, ms, ⟨by omega, by omega, by rw [hPm.2.2.1, hm], hms.1, hms.2⟩, hPm.2.2.2, rfl⟩
  · rw [B5]
    omega
  obtain ⟨r1, r2, r3, r4, r5, r6, r7, r8, r9⟩ := rdf hrl
  have r4' := fun ls => (r4 ls).trans hr
  have hln : ∀ x ls, r < (h.set r x ++ ls).length := fun x ls => by rw [List.length_append, List.length_set]; omega
  have h0L : (0 ≤ lenMax) = True := eq_true (Nat.zero_le _)
  have hd : decide ((5 : Int) ≤ 5 - ((n : Int) + 1)) = false := decide_eq_false (by omega)
  have w2 : IntKind.i64.wrap (5 - ((n : Int) + 1) + 1) = 5 - n := by rw [wrap_id (by omega) (by omega)]; omega
  have hz' : decide (pickV bs p 3 = 0) = false := decide_eq_false hz3
  have w1 : IntKind.i64.wrap (3 + pickV bs (p + 1) 8) = op := by rw [wrap_id (by omega) (by omega), hop]
  have hkN := fun g => l4Kids_gives op g (by omega) (by omega)
  rw [← hm] at hkN
  rw [ruD]
  refine meets_of [2000013] mixed Try.func83 rfl (by kernel_rfl) (by kernel_rfl) (by rw [Try.ntmps83]; simp only [List.length_cons, List.length_nil]; omega) (fun hf => ?_)
  rw [Try.results83]
  clear hf
  try simp -implicitDefEqProofs only [hd, hz', h0L, w1, r1, r2, r5, r6, r7, r8, List.length_set, List.set_set, push_cast, Nat.reduceEqDiff, Nat.reduceBEq, Nat.reduceBNe, Nat.reduceAdd, Nat.reduceMul, Nat.reduceLT, Nat.reduceLeDiff, Nat.reduceSub, reduceCtorEq, Int.reduceToNat, ↓reduceIte]
  repeat'
    (first
     | (refine uYes ?_; first | exact List.mem_cons_self | (simp only [List.mem_cons, List.not_mem_nil, or_false, true_or, or_true]; done))
     | (refine uNo (by kernel_rfl))
     | (refine flatMk ?_; kernel_rfl)
     | (refine And.intro ?_ ?_)
     | (intro hx)
     | ((first
         | (refine callGF ?_)
         | (refine callQGF ?_)
         | (refine skipG ?_)
         | (refine callM (dst := some 13) (pick_gives bs _ _ r _ (r4' _) (by simp; omega) (H.up (by omega) (by omega))) ?_)
         | (refine callM (dst := some 37) (pick_gives bs _ _ r _ (r3 _ _) (hln _ _) (H.up (by omega) (by omega))) ?_)
         | (refine callS (hkN _) ?_)
         | (refine callQ (hkN _) ?_)
         | (refine callG (fun hc => (hkN _)) ?_)
         | (refine callQG (fun hc => (hkN _)) ?_)); simp -implicitDefEqProofs only [hd, hz', h0L, w1, r1, r2, r5, r6, r7, r8, List.length_set, List.set_set, push_cast, Nat.reduceEqDiff, Nat.reduceBEq, Nat.reduceBNe, Nat.reduceAdd, Nat.reduceMul, Nat.reduceLT, Nat.reduceLeDiff, Nat.reduceSub, reduceCtorEq, Int.reduceToNat, ↓reduceIte]))
  refine ev_loopT r (fun i : Nat => [(0, .ptr r 0), (1, .int .i64 (5 - ((n : Int) + 1))), (2, .slice (names.map .str) .no), (6, .ptr h.length 0), (7, .ptr (h.length + 1) 0), (8, .int .i64 ((m : Int) - i))]) (fun i => rdC bs (kidsK F (p + 1 + 1) i).2)
    (fun i => ruRows op (h.length + 2) (kidsK F (p + 1 + 1) i).1 i) (fun i => i ≤ m) (fun i => m - i) 0 (Nat.zero_le _) ?_ ?_
  · refine ⟨⟨ruRows op (h.length + 2) [] 0, ?_, Nat.le_refl _, rfl⟩, Nat.le_refl _, ?_, rdC_cl _ _ _, ?_⟩
    · rfl
    · intro x hx
      simp only [ruRows, List.mem_cons, List.not_mem_nil, or_false] at hx
      rcases hx with rfl | rfl <;> simp -implicitDefEqProofs only [Int.natCast_add, Int.cast_ofNat_Int, List.length_nil, Nat.le_refl, WeakTo, tokSts, tokOks, List.append_cancel_left_eq, exists_eq_left', exists_eq_left, List.append_cancel_left_eq, List.take_length, ObCl, and_true, true_and, push_cast, Nat.reduceEqDiff, Nat.reduceBEq, Nat.reduceBNe, Nat.reduceAdd, Nat.reduceMul, Nat.reduceLT, Nat.reduceLeDiff, Nat.reduceSub, reduceCtorEq, Int.reduceToNat, ↓reduceIte]
    · simp -implicitDefEqProofs only [SlotsOk, ruRows, Int.natCast_add, Int.cast_ofNat_Int, List.length_nil, Nat.le_refl, WeakTo, tokSts, tokOks, List.append_cancel_left_eq, exists_eq_left', exists_eq_left, List.append_cancel_left_eq, List.take_length, ObCl, and_true, true_and, push_cast, Nat.reduceEqDiff, Nat.reduceBEq, Nat.reduceBNe, Nat.reduceAdd, Nat.reduceMul, Nat.reduceLT, Nat.reduceLeDiff, Nat.reduceSub, reduceCtorEq, Int.reduceToNat, ↓reduceIte]
      omega
  · intro i hi
    obtain ⟨a1, a2, a3, a4⟩ := hK i (by omega)
    have hiB : i * B5 n ≤ 4 * B5 n := Nat.mul_le_mul_right _ (by omega)
    have hAS : AllSz 5 (kidsK F (p + 1 + 1) i).1 ↔ True := ⟨fun _ => trivial, fun _ k hk => ruleD_sz (a4 k hk)⟩
    by_cases hlt : i < m
    · have hc : decide ((0 : Int) < (m : Int) - i) = true := decide_eq_true (by omega)
      have w3 : IntKind.i64.wrap ((m : Int) - i - 1) = (m : Int) - i - 1 := wrap_id (by omega) (by omega)
      have hiB3 : i * B5 n ≤ 3 * B5 n := Nat.mul_le_mul_right _ (by omega)
      obtain ⟨b1, b2, b3, b4⟩ := hF (kidsK F (p + 1 + 1) i).2 (by omega) (H.up (by omega) (by omega))
      have hs1 : (kidsK F (p + 1 + 1) (i + 1)).1 = (kidsK F (p + 1 + 1) i).1 ++ [(F (kidsK F (p + 1 + 1) i).2).1] := rfl
      have hs2 : (kidsK F (p + 1 + 1) (i + 1)).2 = (F (kidsK F (p + 1 + 1) i).2).2 := rfl
      obtain ⟨op', num', name', kids', ms', e', _⟩ := b1.p
      rw [e', ruD] at hs1 b4
      generalize F (kidsK F (p + 1 + 1) i).2 = Fi at hs1 hs2 b2 b3 b4
      generalize hks : (kidsK F (p + 1 + 1) i).1 = ks at a3 a4 hAS hs1
      generalize hPi : (kidsK F (p + 1 + 1) i).2 = Pi at a1 a2 b2 b3 b4
      cases i with
      | zero =>
        obtain rfl : ks = [] := hks.symm
        have hr0 : ruRows op (h.length + 2) [] 0 = [.row [.int .i64 0, .int .i64 0, .str [], .slice [] .full, .slice [] .full], .row [.int .i64 op, .int .i64 0, .str [], .slice [] .full, .slice [] .full]] := rfl
        simp only [hr0]
        try simp -implicitDefEqProofs only [hc, w2, w3, h0L, r1, r2, r5, r6, r7, r8, List.length_set, List.set_set, push_cast, Nat.reduceEqDiff, Nat.reduceBEq, Nat.reduceBNe, Nat.reduceAdd, Nat.reduceMul, Nat.reduceLT, Nat.reduceLeDiff, Nat.reduceSub, reduceCtorEq, Int.reduceToNat, ↓reduceIte]
        repeat'
          (first
           | (refine uYes ?_; first | exact List.mem_cons_self | (simp only [List.mem_cons, List.not_mem_nil, or_false, true_or, or_true]; done))
           | (refine uNo (by kernel_rfl))
           | (refine flatMk ?_; kernel_rfl)
           | (refine And.intro ?_ ?_)
           | (intro hx)
           | ((first
               | (refine callGF ?_)
               | (refine callQGF ?_)
               | (refine skipG ?_)
               | (refine inX_mkS [r] [] (by rfl) (by kernel_rfl) (by simp; omega) ?_)
               | (refine callXR (dst := some 53) (r := r) (by simp) (by simp; omega) (fun h' hr' hl' => b4 r h' (hr'.trans (r3 _ _)) hl') ?_)); simp -implicitDefEqProofs only [hc, w2, w3, h0L, r1, r2, r5, r6, r7, r8, List.length_set, List.set_set, push_cast, Nat.reduceEqDiff, Nat.reduceBEq, Nat.reduceBNe, Nat.reduceAdd, Nat.reduceMul, Nat.reduceLT, Nat.reduceLeDiff, Nat.reduceSub, reduceCtorEq, Int.reduceToNat, ↓reduceIte]))
        all_goals first
          | omega
          | (simp only [lenMax]; omega)
          | exact .inr (by kernel_rfl)
          | skip
        refine round_mkT (0 + 1) (by omega) (by omega) ⟨⟨_, ?_, Nat.le_refl _, List.take_length⟩, ?_, ruRows_cl _ _ _ _, rdC_cl _ _ _, ?_⟩
        · simp only [hs1, hs2, ruRows]
          first
            | done
            | rfl
        · simp [ruRows]
        · simp -implicitDefEqProofs only [SlotsOk, ruRows, Int.natCast_add, Int.cast_ofNat_Int, List.length_nil, Nat.le_refl, WeakTo, tokSts, tokOks, List.append_cancel_left_eq, exists_eq_left', exists_eq_left, List.append_cancel_left_eq, List.take_length, ObCl, and_true, true_and, push_cast, Nat.reduceEqDiff, Nat.reduceBEq, Nat.reduceBNe, Nat.reduceAdd, Nat.reduceMul, Nat.reduceLT, Nat.reduceLeDiff, Nat.reduceSub, reduceCtorEq, Int.reduceToNat, ↓reduceIte]
          refine ⟨by omega, by omega, by omega, ?_⟩
          rw [wrap_id (by omega) (by omega)]
          omega
      | succ i =>
        have hr0 : ruRows op (h.length + 2) ks (i + 1) = [.row [.int .i64 0, .int .i64 0, .str [], .slice [] .full, .slice [] .full], .row [.int .i64 op, .int .i64 0, .str [], .slice ks (.buf (h.length + 2) 5), .slice [] .full], .buf ((i + 1) * 5)] := rfl
        simp only [hr0]
        try simp -implicitDefEqProofs only [hc, w2, w3, hAS, a3, h0L, r1, r2, r5, r6, r7, r8, List.length_set, List.set_set, push_cast, Nat.reduceEqDiff, Nat.reduceBEq, Nat.reduceBNe, Nat.reduceAdd, Nat.reduceMul, Nat.reduceLT, Nat.reduceLeDiff, Nat.reduceSub, reduceCtorEq, Int.reduceToNat, ↓reduceIte]
        repeat'
          (first
           | (refine uYes ?_; first | exact List.mem_cons_self | (simp only [List.mem_cons, List.not_mem_nil, or_false, true_or, or_true]; done))
           | (refine uNo (by kernel_rfl))
           | (refine flatMk ?_; kernel_rfl)
           | (refine And.intro ?_ ?_)
           | (intro hx)
           | ((first
               | (refine callGF ?_)
               | (refine callQGF ?_)
               | (refine skipG ?_)
               | (refine inX_mkS [r] [] (by rfl) (by kernel_rfl) (by simp; omega) ?_)
               | (refine callXR (dst := some 53) (r := r) (by simp) (by simp; omega) (fun h' hr' hl' => b4 r h' (hr'.trans (r3 _ _)) hl') ?_)); simp -implicitDefEqProofs only [hc, w2, w3, hAS, a3, h0L, r1, r2, r5, r6, r7, r8, List.length_set, List.set_set, push_cast, Nat.reduceEqDiff, Nat.reduceBEq, Nat.reduceBNe, Nat.reduceAdd, Nat.reduceMul, Nat.reduceLT, Nat.reduceLeDiff, Nat.reduceSub, reduceCtorEq, Int.reduceToNat, ↓reduceIte]))
        all_goals first
          | omega
          | (simp only [lenMax]; omega)
          | exact .inr (by kernel_rfl)
          | skip
        refine round_mkT (i + 1 + 1) (by omega) (by omega) ⟨⟨_, ?_, Nat.le_refl _, List.take_length⟩, ?_, ruRows_cl _ _ _ _, rdC_cl _ _ _, ?_⟩
        · simp only [hs1, hs2, ruRows]
          first
            | done
            | rfl
        · simp [ruRows]
        · simp -implicitDefEqProofs only [SlotsOk, ruRows, Int.natCast_add, Int.cast_ofNat_Int, List.length_nil, Nat.le_refl, WeakTo, tokSts, tokOks, List.append_cancel_left_eq, exists_eq_left', exists_eq_left, List.append_cancel_left_eq, List.take_length, ObCl, and_true, true_and, push_cast, Nat.reduceEqDiff, Nat.reduceBEq, Nat.reduceBNe, Nat.reduceAdd, Nat.reduceMul, Nat.reduceLT, Nat.reduceLeDiff, Nat.reduceSub, reduceCtorEq, Int.reduceToNat, ↓reduceIte]
          refine ⟨by omega, by omega, by omega, ?_⟩
          rw [wrap_id (by omega) (by omega)]
          omega
    · obtain rfl : i = m := by omega
      have hc : decide ((0 : Int) < (i : Int) - i) = false := decide_eq_false (by omega)
      obtain ⟨i', rfl⟩ : ∃ i', i = i' + 1 := by
        cases i with
        | zero =>
          rw [kidsN, if_neg (by omega)] at hm
          revert hm
          repeat' split
          all_goals omega
        | succ i => exact ⟨i, rfl⟩
      generalize hks : (kidsK F (p + 1 + 1) (i' + 1)).1 = ks at a3 a4 hAS hPm ⊢
      generalize hPi : (kidsK F (p + 1 + 1) (i' + 1)).2 = Pi at a1 a2 hPm hp2 hp2' hMs ⊢
      have hr0 : ruRows op (h.length + 2) ks (i' + 1) = [.row [.int .i64 0, .int .i64 0, .str [], .slice [] .full, .slice [] .full], .row [.int .i64 op, .int .i64 0, .str [], .slice ks (.buf (h.length + 2) 5), .slice [] .full], .buf ((i' + 1) * 5)] := rfl
      have hc' : decide ((0 : Int) < ((i' : Int) + 1) - ((i' : Int) + 1)) = false := decide_eq_false (by omega)
      simp only [hr0, hks, hPi]
      by_cases ho : op = 10
      · have hd10 : decide (op = 10) = true := decide_eq_true ho
        have hM2 := hMs.2 ho
        try simp -implicitDefEqProofs only [hc, hc', hd10, h0L, r1, r2, r5, r6, r7, r8, List.length_set, List.set_set, push_cast, Nat.reduceEqDiff, Nat.reduceBEq, Nat.reduceBNe, Nat.reduceAdd, Nat.reduceMul, Nat.reduceLT, Nat.reduceLeDiff, Nat.reduceSub, reduceCtorEq, Int.reduceToNat, ↓reduceIte]
        repeat'
          (first
           | (refine uYes ?_; first | exact List.mem_cons_self | (simp only [List.mem_cons, List.not_mem_nil, or_false, true_or, or_true]; done))
           | (refine uNo (by kernel_rfl))
           | (refine flatMk ?_; kernel_rfl)
           | (refine And.intro ?_ ?_)
           | (intro hx)
           | ((first
               | (refine callGF ?_)
               | (refine callQGF ?_)
               | (refine skipG ?_)
               | (refine callM (dst := some 61) (hM2 r _ (r3 _ _) (hln _ _)) ?_)
               | (refine callS (in_gives _ _ _ _) ?_)
               | (refine callQ (in_gives _ _ _ _) ?_)
               | (refine callG (fun hc => (in_gives _ _ _ _)) ?_)
               | (refine callQG (fun hc => (in_gives _ _ _ _)) ?_)); simp -implicitDefEqProofs only [hc, hc', hd10, h0L, r1, r2, r5, r6, r7, r8, List.length_set, List.set_set, push_cast, Nat.reduceEqDiff, Nat.reduceBEq, Nat.reduceBNe, Nat.reduceAdd, Nat.reduceMul, Nat.reduceLT, Nat.reduceLeDiff, Nat.reduceSub, reduceCtorEq, Int.reduceToNat, ↓reduceIte]))
        all_goals first
          | omega
          | (simp only [lenMax]; omega)
          | exact back_rd hrl _ _ _
          | trace_state
      · have hd10 : decide (op = 10) = false := decide_eq_false ho
        obtain rfl := hms.1 ho
        obtain rfl := hMs.1 ho
        try simp -implicitDefEqProofs only [hc, hc', hd10, h0L, r1, r2, r5, r6, r7, r8, List.length_set, List.set_set, push_cast, Nat.reduceEqDiff, Nat.reduceBEq, Nat.reduceBNe, Nat.reduceAdd, Nat.reduceMul, Nat.reduceLT, Nat.reduceLeDiff, Nat.reduceSub, reduceCtorEq, Int.reduceToNat, ↓reduceIte]
        repeat'
          (first
           | (refine uYes ?_; first | exact List.mem_cons_self | (simp only [List.mem_cons, List.not_mem_nil, or_false, true_or, or_true]; done))
           | (refine uNo (by kernel_rfl))
           | (refine flatMk ?_; kernel_rfl)
           | (refine And.intro ?_ ?_)
           | (intro hx)
           | ((first
               | (refine callGF ?_)
               | (refine callQGF ?_)
               | (refine skipG ?_)
               | (refine callS (in_gives _ _ _ _) ?_)
               | (refine callQ (in_gives _ _ _ _) ?_)
               | (refine callG (fun hc => (in_gives _ _ _ _)) ?_)
               | (refine callQG (fun hc => (in_gives _ _ _ _)) ?_)); simp -implicitDefEqProofs only [hc, hc', hd10, h0L, r1, r2, r5, r6, r7, r8, List.length_set, List.set_set, push_cast, Nat.reduceEqDiff, Nat.reduceBEq, Nat.reduceBNe, Nat.reduceAdd, Nat.reduceMul, Nat.reduceLT, Nat.reduceLeDiff, Nat.reduceSub, reduceCtorEq, Int.reduceToNat, ↓reduceIte]))
        all_goals first
          | omega
          | (simp only [lenMax]; omega)
          | exact back_rd hrl _ _ _
          | trace_state
end Go.Proofs.Ytcmpcpigchlhpaa
