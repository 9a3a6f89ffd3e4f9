/- Logs: torn, on both sides; what is said of cut and torn logs. -/
import Derived.Test.YtcmpcpigchlhpaaDoorHg
import Derived.Test.YtcmpcpigchlhpaaDoorHj
import Derived.Test.YtcmpcpigchlhpaaDoorGo

namespace Go.Proofs.YtcmpcpigchlhpaaDoor
set_option linter.unusedSectionVars false
open Go.Av
variable [Av.Start] [TabSha] [TabBits] [TabPow] [TabErr] [TabMax]
set_option maxRecDepth 10000
set_option maxHeartbeats 2000000
set_option linter.unusedSimpArgs false
set_option linter.unusedVariables false

def tornV (s : List UInt8) (recs : List (List UInt8)) (r : List UInt8) (b : Int) : List UInt8 := (addV s recs r).1.take (s.length + b.toNat)
theorem addV_cases (s : List UInt8) (recs : List (List UInt8)) (r : List UInt8) : ((addV s recs r).2 = false ∧ (addV s recs r).1 = s) ∨ ((addV s recs r).2 = true ∧ (addV s recs r).1 = s ++ entryV recs.length r ∧ (joinE 0 recs).length = s.length ∧ (s ++ entryV recs.length r).length ≤ 9000) := by
  rw [addV]
  split
  · rename_i h; exact .inr ⟨rfl, rfl, h.1, h.2⟩
  · exact .inl ⟨rfl, rfl⟩
theorem specTorn_gives (s r : List UInt8) (recs : List (List UInt8)) (b : Int) (h : Hp) (hs : s.length ≤ 100000) (hr : r.length ≤ 100000) (hb : -1000000 ≤ b ∧ b ≤ 1000000) (H : LogIs s recs) : Gives Tryd.prog 18 [.str s, .str r, .int .i64 b] h (.str (tornV s recs r b)) := by
  have hA := fun g => specLogAdd_gives s r recs g (by omega) (by omega) H
  rw [tornV]
  rcases addV_cases s recs r with ⟨e1, e2⟩ | ⟨e1, e2, _, e4⟩
  · rw [e1, e2] at hA
    rw [e2, List.take_of_length_le (by omega)]
    refine meets_of [] mixed Tryd.func18 rfl (by kernel_rfl) (by kernel_rfl) (by rw [Tryd.ntmps18]; simp only [List.length_cons, List.length_nil]; omega) (fun hf => ?_)
    rw [Tryd.results18]
    clear hf
    try simp -implicitDefEqProofs only [push_cast, Nat.reduceEqDiff, Nat.reduceBEq, Nat.reduceBNe, Nat.reduceAdd, Nat.reduceMul, Nat.reduceLT, Nat.reduceLeDiff, Nat.reduceSub, reduceCtorEq, Int.reduceToNat, ↓reduceIte]
    repeat'
      (first
       | (refine uYes ?_; first | exact List.mem_cons_self | (simp only [List.mem_cons, List.not_mem_nil, or_false, true_or, or_true]; done))
       | (refine uNo (by kernel_rfl))
       | (refine flatMk ?_; kernel_rfl)
       | (refine And.intro ?_ ?_)
       | (intro hx)
       | ((first
           | (refine callGF ?_)
           | (refine callQGF ?_)
           | (refine skipG ?_)
           | (refine callS (hA _) ?_)
           | (refine callQ (hA _) ?_)
           | (refine callG (fun hc => (hA _)) ?_)
           | (refine callQG (fun hc => (hA _)) ?_)); simp -implicitDefEqProofs only [push_cast, Nat.reduceEqDiff, Nat.reduceBEq, Nat.reduceBNe, Nat.reduceAdd, Nat.reduceMul, Nat.reduceLT, Nat.reduceLeDiff, Nat.reduceSub, reduceCtorEq, Int.reduceToNat, ↓reduceIte]))
    all_goals first
      | omega
      | (exfalso; omega)
      | trace_state
  · rw [e1, e2] at hA
    rw [e2]
    generalize entryV recs.length r = f at hA e4
    rw [List.length_append] at e4
    have w1 : IntKind.i64.wrap (((s.length : Int) + f.length) - s.length) = f.length := by rw [wrap_id (by omega) (by omega)]; omega
    have w2 : IntKind.i64.wrap ((s.length : Int) + b) = s.length + b := wrap_id (by omega) (by omega)
    by_cases c1 : b < 0
    · rw [show b.toNat = 0 by omega, Nat.add_zero, List.take_left]
      refine meets_of [] mixed Tryd.func18 rfl (by kernel_rfl) (by kernel_rfl) (by rw [Tryd.ntmps18]; simp only [List.length_cons, List.length_nil]; omega) (fun hf => ?_)
      rw [Tryd.results18]
      clear hf
      try simp -implicitDefEqProofs only [c1, push_cast, Nat.reduceEqDiff, Nat.reduceBEq, Nat.reduceBNe, Nat.reduceAdd, Nat.reduceMul, Nat.reduceLT, Nat.reduceLeDiff, Nat.reduceSub, reduceCtorEq, Int.reduceToNat, ↓reduceIte]
      repeat'
        (first
         | (refine uYes ?_; first | exact List.mem_cons_self | (simp only [List.mem_cons, List.not_mem_nil, or_false, true_or, or_true]; done))
         | (refine uNo (by kernel_rfl))
         | (refine flatMk ?_; kernel_rfl)
         | (refine And.intro ?_ ?_)
         | (intro hx)
         | ((first
             | (refine callGF ?_)
             | (refine callQGF ?_)
             | (refine skipG ?_)
             | (refine callS (hA _) ?_)
             | (refine callQ (hA _) ?_)
             | (refine callG (fun hc => (hA _)) ?_)
             | (refine callQG (fun hc => (hA _)) ?_)); simp -implicitDefEqProofs only [c1, push_cast, Nat.reduceEqDiff, Nat.reduceBEq, Nat.reduceBNe, Nat.reduceAdd, Nat.reduceMul, Nat.reduceLT, Nat.reduceLeDiff, Nat.reduceSub, reduceCtorEq, Int.reduceToNat, ↓reduceIte]))
      all_goals first
        | omega
        | (exfalso; omega)
        | trace_state
    · by_cases c2 : (f.length : Int) < b
      · rw [List.take_of_length_le (by rw [List.length_append]; omega)]
        refine meets_of [] mixed Tryd.func18 rfl (by kernel_rfl) (by kernel_rfl) (by rw [Tryd.ntmps18]; simp only [List.length_cons, List.length_nil]; omega) (fun hf => ?_)
        rw [Tryd.results18]
        clear hf
        try simp -implicitDefEqProofs only [c1, c2, w1, push_cast, Nat.reduceEqDiff, Nat.reduceBEq, Nat.reduceBNe, Nat.reduceAdd, Nat.reduceMul, Nat.reduceLT, Nat.reduceLeDiff, Nat.reduceSub, reduceCtorEq, Int.reduceToNat, ↓reduceIte]
        repeat'
          (first
           | (refine uYes ?_; first | exact List.mem_cons_self | (simp only [List.mem_cons, List.not_mem_nil, or_false, true_or, or_true]; done))
           | (refine uNo (by kernel_rfl))
           | (refine flatMk ?_; kernel_rfl)
           | (refine And.intro ?_ ?_)
           | (intro hx)
           | ((first
               | (refine callGF ?_)
               | (refine callQGF ?_)
               | (refine skipG ?_)
               | (refine callS (hA _) ?_)
               | (refine callQ (hA _) ?_)
               | (refine callG (fun hc => (hA _)) ?_)
               | (refine callQG (fun hc => (hA _)) ?_)); simp -implicitDefEqProofs only [c1, c2, w1, push_cast, Nat.reduceEqDiff, Nat.reduceBEq, Nat.reduceBNe, Nat.reduceAdd, Nat.reduceMul, Nat.reduceLT, Nat.reduceLeDiff, Nat.reduceSub, reduceCtorEq, Int.reduceToNat, ↓reduceIte]))
        all_goals first
          | omega
          | (exfalso; omega)
          | trace_state
      · have t1 : ((s.length : Int) + b).toNat = s.length + b.toNat := by omega
        refine meets_of [] mixed Tryd.func18 rfl (by kernel_rfl) (by kernel_rfl) (by rw [Tryd.ntmps18]; simp only [List.length_cons, List.length_nil]; omega) (fun hf => ?_)
        rw [Tryd.results18]
        clear hf
        try simp -implicitDefEqProofs only [c1, c2, w1, w2, t1, push_cast, Nat.reduceEqDiff, Nat.reduceBEq, Nat.reduceBNe, Nat.reduceAdd, Nat.reduceMul, Nat.reduceLT, Nat.reduceLeDiff, Nat.reduceSub, reduceCtorEq, Int.reduceToNat, ↓reduceIte]
        repeat'
          (first
           | (refine uYes ?_; first | exact List.mem_cons_self | (simp only [List.mem_cons, List.not_mem_nil, or_false, true_or, or_true]; done))
           | (refine uNo (by kernel_rfl))
           | (refine flatMk ?_; kernel_rfl)
           | (refine And.intro ?_ ?_)
           | (intro hx)
           | ((first
               | (refine callGF ?_)
               | (refine callQGF ?_)
               | (refine skipG ?_)
               | (refine callS (hA _) ?_)
               | (refine callQ (hA _) ?_)
               | (refine callG (fun hc => (hA _)) ?_)
               | (refine callQG (fun hc => (hA _)) ?_)); simp -implicitDefEqProofs only [c1, c2, w1, w2, t1, push_cast, Nat.reduceEqDiff, Nat.reduceBEq, Nat.reduceBNe, Nat.reduceAdd, Nat.reduceMul, Nat.reduceLT, Nat.reduceLeDiff, Nat.reduceSub, reduceCtorEq, Int.reduceToNat, ↓reduceIte]))
        all_goals first
          | omega
          | (exfalso; omega)
          | trace_state
theorem torn_gives (s x : List UInt8) (b : Int) (h : Hp) (hs : s.length ≤ x.length) (hx : x.length ≤ 1000000) (hb : -1000000 ≤ b ∧ b ≤ 1000000) : Gives Tryd.prog 32 [.str s, .str x, .int .i64 b] h (.str (x.take (s.length + b.toNat))) := by
  have e0 : (if 0 < b then b else 0) = ((b.toNat : Nat) : Int) := by split <;> omega
  have w1 : IntKind.i64.wrap ((s.length : Int) + ((b.toNat : Nat) : Int)) = s.length + b.toNat := wrap_id (by omega) (by omega)
  by_cases c : (s.length : Int) + ((b.toNat : Nat) : Int) < x.length
  · have t1 : ((s.length : Int) + ((b.toNat : Nat) : Int)).toNat = s.length + b.toNat := by omega
    generalize b.toNat = m at e0 w1 c t1
    refine meets_of [] mixed Tryd.func32 rfl (by kernel_rfl) (by kernel_rfl) (by rw [Tryd.ntmps32]; simp only [List.length_cons, List.length_nil]; omega) (fun hf => ?_)
    rw [Tryd.results32]
    clear hf
    try simp -implicitDefEqProofs only [e0, w1, c, t1, push_cast, Nat.reduceEqDiff, Nat.reduceBEq, Nat.reduceBNe, Nat.reduceAdd, Nat.reduceMul, Nat.reduceLT, Nat.reduceLeDiff, Nat.reduceSub, reduceCtorEq, Int.reduceToNat, ↓reduceIte]
    repeat'
      (first
       | (refine uYes ?_; first | exact List.mem_cons_self | (simp only [List.mem_cons, List.not_mem_nil, or_false, true_or, or_true]; done))
       | (refine uNo (by kernel_rfl))
       | (refine flatMk ?_; kernel_rfl)
       | (refine And.intro ?_ ?_)
       | (intro hx)
       | ((first
           | (refine callGF ?_)
           | (refine callQGF ?_)
           | (refine skipG ?_)
           | (refine callS (in_gives _ _ _ _) ?_)
           | (refine callQ (in_gives _ _ _ _) ?_)
           | (refine callG (fun hc => (in_gives _ _ _ _)) ?_)
           | (refine callQG (fun hc => (in_gives _ _ _ _)) ?_)); simp -implicitDefEqProofs only [e0, w1, c, t1, push_cast, Nat.reduceEqDiff, Nat.reduceBEq, Nat.reduceBNe, Nat.reduceAdd, Nat.reduceMul, Nat.reduceLT, Nat.reduceLeDiff, Nat.reduceSub, reduceCtorEq, Int.reduceToNat, ↓reduceIte]))
    all_goals first
      | omega
      | (exfalso; omega)
      | trace_state
  · have t2 : List.take (s.length + b.toNat) x = x := List.take_of_length_le (by omega)
    rw [t2]
    have t3 : List.take x.length x = x := List.take_length
    generalize b.toNat = m at e0 w1 c
    refine meets_of [] mixed Tryd.func32 rfl (by kernel_rfl) (by kernel_rfl) (by rw [Tryd.ntmps32]; simp only [List.length_cons, List.length_nil]; omega) (fun hf => ?_)
    rw [Tryd.results32]
    clear hf
    try simp -implicitDefEqProofs only [e0, w1, c, t3, push_cast, Nat.reduceEqDiff, Nat.reduceBEq, Nat.reduceBNe, Nat.reduceAdd, Nat.reduceMul, Nat.reduceLT, Nat.reduceLeDiff, Nat.reduceSub, reduceCtorEq, Int.reduceToNat, ↓reduceIte]
    repeat'
      (first
       | (refine uYes ?_; first | exact List.mem_cons_self | (simp only [List.mem_cons, List.not_mem_nil, or_false, true_or, or_true]; done))
       | (refine uNo (by kernel_rfl))
       | (refine flatMk ?_; kernel_rfl)
       | (refine And.intro ?_ ?_)
       | (intro hx)
       | ((first
           | (refine callGF ?_)
           | (refine callQGF ?_)
           | (refine skipG ?_)
           | (refine callS (in_gives _ _ _ _) ?_)
           | (refine callQ (in_gives _ _ _ _) ?_)
           | (refine callG (fun hc => (in_gives _ _ _ _)) ?_)
           | (refine callQG (fun hc => (in_gives _ _ _ _)) ?_)); simp -implicitDefEqProofs only [e0, w1, c, t3, push_cast, Nat.reduceEqDiff, Nat.reduceBEq, Nat.reduceBNe, Nat.reduceAdd, Nat.reduceMul, Nat.reduceLT, Nat.reduceLeDiff, Nat.reduceSub, reduceCtorEq, Int.reduceToNat, ↓reduceIte]))
    all_goals first
      | omega
      | (exfalso; omega)
      | trace_state
theorem implTorn_gives (s r : List UInt8) (recs : List (List UInt8)) (b : Int) (h : Hp) (hs : s.length ≤ 100000) (hr : r.length ≤ 100000) (hb : -1000000 ≤ b ∧ b ≤ 1000000) (H : LogIs s recs) : Gives Tryd.prog 17 [.str s, .str r, .int .i64 b] h (.str (tornV s recs r b)) := by
  have hA := fun g => implLogAdd_gives s r recs g (by omega) (by omega) H
  have hx : s.length ≤ (addV s recs r).1.length ∧ (addV s recs r).1.length ≤ 1000000 := by
    rcases addV_cases s recs r with ⟨e1, e2⟩ | ⟨e1, e2, _, e4⟩
    · rw [e2]; omega
    · rw [e2]
      rw [List.length_append] at e4 ⊢
      omega
  rw [tornV]
  generalize (addV s recs r).1 = x at hA hx
  generalize (addV s recs r).2 = ok at hA
  have hT := fun g => torn_gives s x b g hx.1 hx.2 hb
  refine meets_of [] mixed Tryd.func17 rfl (by kernel_rfl) (by kernel_rfl) (by rw [Tryd.ntmps17]; simp only [List.length_cons, List.length_nil]; omega) (fun hf => ?_)
  rw [Tryd.results17]
  clear hf
  try simp -implicitDefEqProofs only [push_cast, Nat.reduceEqDiff, Nat.reduceBEq, Nat.reduceBNe, Nat.reduceAdd, Nat.reduceMul, Nat.reduceLT, Nat.reduceLeDiff, Nat.reduceSub, reduceCtorEq, Int.reduceToNat, ↓reduceIte]
  repeat'
    (first
     | (refine uYes ?_; first | exact List.mem_cons_self | (simp only [List.mem_cons, List.not_mem_nil, or_false, true_or, or_true]; done))
     | (refine uNo (by kernel_rfl))
     | (refine flatMk ?_; kernel_rfl)
     | (refine And.intro ?_ ?_)
     | (intro hx)
     | ((first
         | (refine callGF ?_)
         | (refine callQGF ?_)
         | (refine skipG ?_)
         | (refine callS (hA _) ?_)
         | (refine callQ (hA _) ?_)
         | (refine callG (fun hc => (hA _)) ?_)
         | (refine callQG (fun hc => (hA _)) ?_)
         | (refine callS (hT _) ?_)
         | (refine callQ (hT _) ?_)
         | (refine callG (fun hc => (hT _)) ?_)
         | (refine callQG (fun hc => (hT _)) ?_)); simp -implicitDefEqProofs only [push_cast, Nat.reduceEqDiff, Nat.reduceBEq, Nat.reduceBNe, Nat.reduceAdd, Nat.reduceMul, Nat.reduceLT, Nat.reduceLeDiff, Nat.reduceSub, reduceCtorEq, Int.reduceToNat, ↓reduceIte]))
  all_goals first
    | omega
    | trace_state
theorem tornV_len {s : List UInt8} {recs : List (List UInt8)} {r : List UInt8} (b : Int) (hs : s.length ≤ 9000) : (tornV s recs r b).length ≤ 9000 := by
  rw [tornV, List.length_take]
  rcases addV_cases s recs r with ⟨e1, e2⟩ | ⟨e1, e2, _, e4⟩
  · rw [e2]; omega
  · rw [e2]; omega
/-- A torn log says what it said, or one record more. -/
theorem torn_is {s : List UInt8} {recs : List (List UInt8)} {r : List UInt8} (b : Int) (hs : s.length ≤ 9000) (H : LogIs s recs) : LogIs (tornV s recs r b) recs ∨ LogIs (tornV s recs r b) (recs ++ [r]) := by
  rw [tornV]
  rcases addV_cases s recs r with ⟨e1, e2⟩ | ⟨e1, e2, e3, e4⟩
  · rw [e2, List.take_of_length_le (by omega)]
    exact .inl H
  · have e : joinE 0 recs = s := H.pre.eq_of_length e3
    rw [List.length_append] at e4
    rw [e2]
    generalize b.toNat = m
    rcases Nat.lt_or_ge m (entryV recs.length r).length with hm | hm
    · refine .inl ⟨?_, fun r' hr' => ?_⟩
      · rw [e, List.take_append]
        rw [List.take_of_length_le (by omega)]
        exact List.prefix_append _ _
      · have e5 : ((s ++ entryV recs.length r).take (s.length + m)).drop (joinE 0 recs).length = (entryV recs.length r).take m := by
          rw [e, List.take_append, List.take_of_length_le (by omega), List.drop_left, Nat.add_sub_cancel_left]
        rw [e5] at hr'
        have h1 : entryV recs.length r' <+: entryV recs.length r := List.IsPrefix.trans hr' (List.take_prefix _ _)
        have h2 := ent_uniq (s := entryV recs.length r) (by omega) h1 (List.prefix_refl _)
        subst h2
        have := hr'.length_le
        rw [List.length_take] at this
        omega
    · rw [List.take_of_length_le (by rw [List.length_append]; omega)]
      exact .inr (H.add e3 r)
/-- A log that is cut has its first records. -/
theorem cut_is {s : List UInt8} {recs a : List (List UInt8)} (hs : s.length ≤ 9000) (H : LogIs s recs) {k : Nat} (hk : k ≤ (joinE 0 recs).length) (K : LogIs (s.take k) a) :
    (joinE 0 a).length ≤ k ∧ a <+: recs ∧ (k = (joinE 0 recs).length → a = recs) := by
  have hl := K.pre.length_le
  rw [List.length_take] at hl
  have hp : a <+: recs := H.max (by omega) (List.IsPrefix.trans K.pre (List.take_prefix _ _))
  refine ⟨by omega, hp, fun e => ?_⟩
  subst e
  have e : s.take (joinE 0 recs).length = joinE 0 recs := (List.prefix_iff_eq_take.1 H.pre).symm
  rw [e] at K
  exact hp.eq_of_length_le (K.max (by have := H.pre.length_le; omega) (List.prefix_refl _)).length_le
end Go.Proofs.YtcmpcpigchlhpaaDoor

/- The laws FnLogAdd, FnLogCut, FnLogTorn. -/
namespace Go.Proofs.YtcmpcpigchlhpaaDoor
set_option linter.unusedSectionVars false
open Go.Av
variable [Av.Start] [TabSha] [TabBits] [TabPow] [TabErr] [TabMax]
set_option maxRecDepth 10000
set_option maxHeartbeats 2000000
set_option linter.unusedSimpArgs false
set_option linter.unusedVariables false

theorem wsInB_gives (n lo hi : Int) (h : Hp) : Gives Tryd.prog 10 [.int .i64 n, .int .i64 lo, .int .i64 hi] h (.bool (decide (lo ≤ n) && decide (n ≤ hi))) := by
  refine meets_of [] mixed Tryd.func10 rfl (by kernel_rfl) (by kernel_rfl) (by rw [Tryd.ntmps10]; simp only [List.length_cons, List.length_nil]; omega) (fun hf => ?_)
  rw [Tryd.results10]
  clear hf
  try simp -implicitDefEqProofs only [push_cast, Nat.reduceEqDiff, Nat.reduceBEq, Nat.reduceBNe, Nat.reduceAdd, Nat.reduceMul, Nat.reduceLT, Nat.reduceLeDiff, Nat.reduceSub, reduceCtorEq, Int.reduceToNat, ↓reduceIte]
  repeat'
    (first
     | (refine uYes ?_; first | exact List.mem_cons_self | (simp only [List.mem_cons, List.not_mem_nil, or_false, true_or, or_true]; done))
     | (refine uNo (by kernel_rfl))
     | (refine flatMk ?_; kernel_rfl)
     | (refine And.intro ?_ ?_)
     | (intro hx)
     | ((first
         | (refine callGF ?_)
         | (refine callQGF ?_)
         | (refine skipG ?_)
         | (refine callS (in_gives _ _ _ _) ?_)
         | (refine callQ (in_gives _ _ _ _) ?_)
         | (refine callG (fun hc => (in_gives _ _ _ _)) ?_)
         | (refine callQG (fun hc => (in_gives _ _ _ _)) ?_)); simp -implicitDefEqProofs only [push_cast, Nat.reduceEqDiff, Nat.reduceBEq, Nat.reduceBNe, Nat.reduceAdd, Nat.reduceMul, Nat.reduceLT, Nat.reduceLeDiff, Nat.reduceSub, reduceCtorEq, Int.reduceToNat, ↓reduceIte]))
  all_goals first
    | omega
    | trace_state
theorem strs_snoc (recs : List (List UInt8)) (r : List UInt8) : (recs ++ [r]).map D.str = recs.map D.str ++ [D.str r] := by simp
theorem fnLogAdd_gives (bs : List Int) (h : Hp) (hb : ∀ x, x ∈ bs → 0 ≤ x ∧ x ≤ 255) : Gives Tryd.prog 4 [.slice (bs.map (.int .u8)) .no] h (.bool true) := by
  obtain ⟨s, r, hs, hr, hD⟩ := drawLogAdd_gives bs hb
  obtain ⟨recs, H⟩ := logIs_ex s
  have hAi := fun g => implLogAdd_gives s r recs g (by omega) (by omega) H
  have hAs := fun g => specLogAdd_gives s r recs g (by omega) (by omega) H
  have hRi := fun g => implLogRead_gives s recs g (by omega) H
  have hRs := fun g => specLogRead_gives s recs g (by omega) H
  have hOi := fun g => implLogOk_gives s recs g (by omega) H
  have hOs := fun g => specLogOk_gives s recs g (by omega) H
  have hW := fun g => wsWords_gives recs recs g
  rw [decide_eq_true rfl] at hW
  have hrl := H.len
  have hle := H.pre.length_le
  rcases addV_cases s recs r with ⟨e1, e2⟩ | ⟨e1, e2, e3, e4⟩
  · rw [e1, e2] at hAi hAs
    generalize logOkB s recs = ob at hOi hOs
    generalize (joinE 0 recs).length = n at hRi hRs
    refine meets_of [] mixed Tryd.func4 rfl (by kernel_rfl) (by kernel_rfl) (by rw [Tryd.ntmps4]; simp only [List.length_cons, List.length_nil]; omega) (fun hf => ?_)
    rw [Tryd.results4]
    clear hf
    try simp -implicitDefEqProofs only [bne_self_eq_false, push_cast, Nat.reduceEqDiff, Nat.reduceBEq, Nat.reduceBNe, Nat.reduceAdd, Nat.reduceMul, Nat.reduceLT, Nat.reduceLeDiff, Nat.reduceSub, reduceCtorEq, Int.reduceToNat, ↓reduceIte]
    repeat'
      (first
       | (refine uYes ?_; first | exact List.mem_cons_self | (simp only [List.mem_cons, List.not_mem_nil, or_false, true_or, or_true]; done))
       | (refine uNo (by kernel_rfl))
       | (refine flatMk ?_; kernel_rfl)
       | (refine And.intro ?_ ?_)
       | (intro hx)
       | ((first
           | (refine callGF ?_)
           | (refine callQGF ?_)
           | (refine skipG ?_)
           | (refine callS (hD _) ?_)
           | (refine callQ (hD _) ?_)
           | (refine callG (fun hc => (hD _)) ?_)
           | (refine callQG (fun hc => (hD _)) ?_)
           | (refine callS (hAi _) ?_)
           | (refine callQ (hAi _) ?_)
           | (refine callG (fun hc => (hAi _)) ?_)
           | (refine callQG (fun hc => (hAi _)) ?_)
           | (refine callS (hAs _) ?_)
           | (refine callQ (hAs _) ?_)
           | (refine callG (fun hc => (hAs _)) ?_)
           | (refine callQG (fun hc => (hAs _)) ?_)
           | (refine callS (hRi _) ?_)
           | (refine callQ (hRi _) ?_)
           | (refine callG (fun hc => (hRi _)) ?_)
           | (refine callQG (fun hc => (hRi _)) ?_)
           | (refine callS (hRs _) ?_)
           | (refine callQ (hRs _) ?_)
           | (refine callG (fun hc => (hRs _)) ?_)
           | (refine callQG (fun hc => (hRs _)) ?_)
           | (refine callS (hW _) ?_)
           | (refine callQ (hW _) ?_)
           | (refine callG (fun hc => (hW _)) ?_)
           | (refine callQG (fun hc => (hW _)) ?_)
           | (refine callS (hOi _) ?_)
           | (refine callQ (hOi _) ?_)
           | (refine callG (fun hc => (hOi _)) ?_)
           | (refine callQG (fun hc => (hOi _)) ?_)
           | (refine callS (hOs _) ?_)
           | (refine callQ (hOs _) ?_)
           | (refine callG (fun hc => (hOs _)) ?_)
           | (refine callQG (fun hc => (hOs _)) ?_)); simp -implicitDefEqProofs only [bne_self_eq_false, push_cast, Nat.reduceEqDiff, Nat.reduceBEq, Nat.reduceBNe, Nat.reduceAdd, Nat.reduceMul, Nat.reduceLT, Nat.reduceLeDiff, Nat.reduceSub, reduceCtorEq, Int.reduceToNat, ↓reduceIte]))
    all_goals first
      | omega
      | (exfalso; omega)
      | trace_state
  · rw [e1, e2] at hAi hAs
    have H2 := H.add e3 r
    obtain ⟨x, hx⟩ : ∃ x, s ++ entryV recs.length r = x := ⟨_, rfl⟩
    have e5 : (joinE 0 (recs ++ [r])).length = x.length := by
      rw [joinE_snoc, H.pre.eq_of_length e3, Nat.zero_add, hx]
    rw [hx] at H2 hAi hAs e4
    have hRi2 := fun g => implLogRead_gives x (recs ++ [r]) g (by omega) H2
    have hOi2 := fun g => implLogOk_gives x (recs ++ [r]) g (by omega) H2
    have ho : logOkB x (recs ++ [r]) = true := by rw [logOkB, e5]; simp [e4]
    rw [ho] at hOi2
    rw [e5] at hRi2
    have hl2 : (recs ++ [r]).length = recs.length + 1 := by simp
    have hgr : (recs ++ [r]).getD recs.length [] = r := by rw [List.getD_eq_getElem?_getD, List.getElem?_append_right (Nat.le_refl _), Nat.sub_self]; rfl
    have htk : List.take recs.length (recs ++ [r]) = recs := List.take_left
    have hw : IntKind.i64.wrap ((recs.length : Int) + 1) = recs.length + 1 := wrap_id (by omega) (by omega)
    generalize logOkB s recs = ob at hOi hOs
    generalize (joinE 0 recs).length = n at hRi hRs
    refine meets_of [] mixed Tryd.func4 rfl (by kernel_rfl) (by kernel_rfl) (by rw [Tryd.ntmps4]; simp only [List.length_cons, List.length_nil]; omega) (fun hf => ?_)
    rw [Tryd.results4]
    clear hf
    try simp -implicitDefEqProofs only [bne_self_eq_false, hl2, hw, hgr, htk, push_cast, Nat.reduceEqDiff, Nat.reduceBEq, Nat.reduceBNe, Nat.reduceAdd, Nat.reduceMul, Nat.reduceLT, Nat.reduceLeDiff, Nat.reduceSub, reduceCtorEq, Int.reduceToNat, ↓reduceIte]
    repeat'
      (first
       | (refine uYes ?_; first | exact List.mem_cons_self | (simp only [List.mem_cons, List.not_mem_nil, or_false, true_or, or_true]; done))
       | (refine uNo (by kernel_rfl))
       | (refine flatMk ?_; kernel_rfl)
       | (refine And.intro ?_ ?_)
       | (intro hx)
       | ((first
           | (refine callGF ?_)
           | (refine callQGF ?_)
           | (refine skipG ?_)
           | (refine callS (hD _) ?_)
           | (refine callQ (hD _) ?_)
           | (refine callG (fun hc => (hD _)) ?_)
           | (refine callQG (fun hc => (hD _)) ?_)
           | (refine callS (hAi _) ?_)
           | (refine callQ (hAi _) ?_)
           | (refine callG (fun hc => (hAi _)) ?_)
           | (refine callQG (fun hc => (hAi _)) ?_)
           | (refine callS (hAs _) ?_)
           | (refine callQ (hAs _) ?_)
           | (refine callG (fun hc => (hAs _)) ?_)
           | (refine callQG (fun hc => (hAs _)) ?_)
           | (refine callS (hRi _) ?_)
           | (refine callQ (hRi _) ?_)
           | (refine callG (fun hc => (hRi _)) ?_)
           | (refine callQG (fun hc => (hRi _)) ?_)
           | (refine callS (hRs _) ?_)
           | (refine callQ (hRs _) ?_)
           | (refine callG (fun hc => (hRs _)) ?_)
           | (refine callQG (fun hc => (hRs _)) ?_)
           | (refine callS (hW _) ?_)
           | (refine callQ (hW _) ?_)
           | (refine callG (fun hc => (hW _)) ?_)
           | (refine callQG (fun hc => (hW _)) ?_)
           | (refine callS (hOi _) ?_)
           | (refine callQ (hOi _) ?_)
           | (refine callG (fun hc => (hOi _)) ?_)
           | (refine callQG (fun hc => (hOi _)) ?_)
           | (refine callS (hOs _) ?_)
           | (refine callQ (hOs _) ?_)
           | (refine callG (fun hc => (hOs _)) ?_)
           | (refine callQG (fun hc => (hOs _)) ?_)
           | (refine callS (hRi2 _) ?_)
           | (refine callQ (hRi2 _) ?_)
           | (refine callG (fun hc => (hRi2 _)) ?_)
           | (refine callQG (fun hc => (hRi2 _)) ?_)
           | (refine callS (hOi2 _) ?_)
           | (refine callQ (hOi2 _) ?_)
           | (refine callG (fun hc => (hOi2 _)) ?_)
           | (refine callQG (fun hc => (hOi2 _)) ?_)); simp -implicitDefEqProofs only [bne_self_eq_false, hl2, hw, hgr, htk, push_cast, Nat.reduceEqDiff, Nat.reduceBEq, Nat.reduceBNe, Nat.reduceAdd, Nat.reduceMul, Nat.reduceLT, Nat.reduceLeDiff, Nat.reduceSub, reduceCtorEq, Int.reduceToNat, ↓reduceIte]))
    all_goals first
      | omega
      | (exfalso; omega)
      | trace_state
theorem fnLogCut_gives (bs ms : List Int) (h : Hp) (hb : ∀ x, x ∈ bs → 0 ≤ x ∧ x ≤ 255) : Gives Tryd.prog 3 [.slice (bs.map (.int .u8)) .no, .slice (ms.map (.int .u8)) .no] h (.bool true) := by
  obtain ⟨s, hs, hD⟩ := drawLogRead_gives bs hb
  obtain ⟨recs, H⟩ := logIs_ex s
  have hRi := fun g => implLogRead_gives s recs g (by omega) H
  have hRs := fun g => specLogRead_gives s recs g (by omega) H
  have hW := fun g => wsWords_gives recs recs g
  rw [decide_eq_true rfl] at hW
  have hrl := H.len
  have hle := H.pre.length_le
  have hcut := fun k a hk K => cut_is (a := a) hs H (k := k) hk K
  generalize (joinE 0 recs).length = n at hRi hRs hle hcut
  have hkn : ms.length % (n + 1) ≤ n := by have := Nat.mod_lt ms.length (show 0 < n + 1 by omega); omega
  obtain ⟨k, hk⟩ : ∃ k, ms.length % (n + 1) = k := ⟨_, rfl⟩
  rw [hk] at hkn
  obtain ⟨a, K⟩ := logIs_ex (s.take k)
  obtain ⟨q1, q2, q3⟩ := hcut k a hkn K
  have hRk := fun g => implLogRead_gives (s.take k) a g (by rw [List.length_take]; omega) K
  have ha : recs.take a.length = a := (List.prefix_iff_eq_take.1 q2).symm
  have hal := q2.length_le
  have hWa := fun g => wsWords_gives a a g
  rw [decide_eq_true rfl] at hWa
  generalize (joinE 0 a).length = m at hRk q1
  have w1 : IntKind.i64.wrap ((n : Int) + 1) = n + 1 := wrap_id (by omega) (by omega)
  have hI := fun g => wsInB_gives n 0 s.length g
  have hIt : (decide ((0 : Int) ≤ n) && decide ((n : Int) ≤ s.length)) = true := by simp; omega
  rw [hIt] at hI
  rcases Nat.lt_or_ge 1048576 ms.length with hm | hm
  · refine meets_of [] mixed Tryd.func3 rfl (by kernel_rfl) (by kernel_rfl) (by rw [Tryd.ntmps3]; simp only [List.length_cons, List.length_nil]; omega) (fun hf => ?_)
    rw [Tryd.results3]
    clear hf
    try simp -implicitDefEqProofs only [push_cast, Nat.reduceEqDiff, Nat.reduceBEq, Nat.reduceBNe, Nat.reduceAdd, Nat.reduceMul, Nat.reduceLT, Nat.reduceLeDiff, Nat.reduceSub, reduceCtorEq, Int.reduceToNat, ↓reduceIte]
    repeat'
      (first
       | (refine uYes ?_; first | exact List.mem_cons_self | (simp only [List.mem_cons, List.not_mem_nil, or_false, true_or, or_true]; done))
       | (refine uNo (by kernel_rfl))
       | (refine flatMk ?_; kernel_rfl)
       | (refine And.intro ?_ ?_)
       | (intro hx)
       | ((first
           | (refine callGF ?_)
           | (refine callQGF ?_)
           | (refine skipG ?_)
           | (refine callS (in_gives _ _ _ _) ?_)
           | (refine callQ (in_gives _ _ _ _) ?_)
           | (refine callG (fun hc => (in_gives _ _ _ _)) ?_)
           | (refine callQG (fun hc => (in_gives _ _ _ _)) ?_)); simp -implicitDefEqProofs only [push_cast, Nat.reduceEqDiff, Nat.reduceBEq, Nat.reduceBNe, Nat.reduceAdd, Nat.reduceMul, Nat.reduceLT, Nat.reduceLeDiff, Nat.reduceSub, reduceCtorEq, Int.reduceToNat, ↓reduceIte]))
    all_goals first
      | omega
      | (exfalso; omega)
      | trace_state
  · have tm : (ms.length : Int).tmod ((n : Int) + 1) = k := by
      have e : ((ms.length % (n + 1) : Nat) : Int) = (ms.length : Int) % ((n + 1 : Nat) : Int) := Int.natCast_emod _ _
      rw [Int.tmod_eq_emod_of_nonneg (by omega), ← hk, e, Int.natCast_add]
      rfl
    refine meets_of [] mixed Tryd.func3 rfl (by kernel_rfl) (by kernel_rfl) (by rw [Tryd.ntmps3]; simp only [List.length_cons, List.length_nil]; omega) (fun hf => ?_)
    rw [Tryd.results3]
    clear hf
    try simp -implicitDefEqProofs only [bne_self_eq_false, w1, tm, ha, push_cast, Nat.reduceEqDiff, Nat.reduceBEq, Nat.reduceBNe, Nat.reduceAdd, Nat.reduceMul, Nat.reduceLT, Nat.reduceLeDiff, Nat.reduceSub, reduceCtorEq, Int.reduceToNat, ↓reduceIte]
    repeat'
      (first
       | (refine uYes ?_; first | exact List.mem_cons_self | (simp only [List.mem_cons, List.not_mem_nil, or_false, true_or, or_true]; done))
       | (refine uNo (by kernel_rfl))
       | (refine flatMk ?_; kernel_rfl)
       | (refine And.intro ?_ ?_)
       | (intro hx)
       | ((first
           | (refine callGF ?_)
           | (refine callQGF ?_)
           | (refine skipG ?_)
           | (refine callS (hD _) ?_)
           | (refine callQ (hD _) ?_)
           | (refine callG (fun hc => (hD _)) ?_)
           | (refine callQG (fun hc => (hD _)) ?_)
           | (refine callS (hRi _) ?_)
           | (refine callQ (hRi _) ?_)
           | (refine callG (fun hc => (hRi _)) ?_)
           | (refine callQG (fun hc => (hRi _)) ?_)
           | (refine callS (hRs _) ?_)
           | (refine callQ (hRs _) ?_)
           | (refine callG (fun hc => (hRs _)) ?_)
           | (refine callQG (fun hc => (hRs _)) ?_)
           | (refine callS (hW _) ?_)
           | (refine callQ (hW _) ?_)
           | (refine callG (fun hc => (hW _)) ?_)
           | (refine callQG (fun hc => (hW _)) ?_)
           | (refine callS (hI _) ?_)
           | (refine callQ (hI _) ?_)
           | (refine callG (fun hc => (hI _)) ?_)
           | (refine callQG (fun hc => (hI _)) ?_)
           | (refine callS (hRk _) ?_)
           | (refine callQ (hRk _) ?_)
           | (refine callG (fun hc => (hRk _)) ?_)
           | (refine callQG (fun hc => (hRk _)) ?_)
           | (refine callS (hWa _) ?_)
           | (refine callQ (hWa _) ?_)
           | (refine callG (fun hc => (hWa _)) ?_)
           | (refine callQG (fun hc => (hWa _)) ?_)); simp -implicitDefEqProofs only [bne_self_eq_false, w1, tm, ha, push_cast, Nat.reduceEqDiff, Nat.reduceBEq, Nat.reduceBNe, Nat.reduceAdd, Nat.reduceMul, Nat.reduceLT, Nat.reduceLeDiff, Nat.reduceSub, reduceCtorEq, Int.reduceToNat, ↓reduceIte]))
    all_goals first
      | omega
      | (exfalso; omega)
      | (rcases Nat.lt_or_ge k n with hkk | hkk
         · exact .inl (by omega)
         · exact .inr (by rw [q3 (by omega)]))
      | trace_state
theorem fnLogTorn_gives (bs ms : List Int) (h : Hp) (hb : ∀ x, x ∈ bs → 0 ≤ x ∧ x ≤ 255) : Gives Tryd.prog 5 [.slice (bs.map (.int .u8)) .no, .slice (ms.map (.int .u8)) .no] h (.bool true) := by
  obtain ⟨s, r, b, hs, hr, b1, b2, hD⟩ := drawLogTorn_gives bs hb
  obtain ⟨recs, H⟩ := logIs_ex s
  have hTi := fun b g hb => implTorn_gives s r recs b g (by omega) (by omega) hb H
  have hTs := fun g => specTorn_gives s r recs b g (by omega) (by omega) (by omega) H
  have hRi := fun g => implLogRead_gives s recs g (by omega) H
  have hOi := fun g => implLogOk_gives s recs g (by omega) H
  have hOs := fun g => specLogOk_gives s recs g (by omega) H
  have hW := fun g => wsWords_gives recs recs g
  rw [decide_eq_true rfl] at hW
  have hrl := H.len
  have hT1 := fun g => hTi b g (by omega)
  obtain ⟨x0, hx0⟩ : ∃ x, tornV s recs r b = x := ⟨_, rfl⟩
  rw [hx0] at hT1 hTs
  generalize logOkB s recs = ok at hOi hOs
  generalize (joinE 0 recs).length = n at hRi
  rcases Nat.lt_or_ge 1048576 ms.length with hm | hm
  · refine meets_of [] mixed Tryd.func5 rfl (by kernel_rfl) (by kernel_rfl) (by rw [Tryd.ntmps5]; simp only [List.length_cons, List.length_nil]; omega) (fun hf => ?_)
    rw [Tryd.results5]
    clear hf
    try simp -implicitDefEqProofs only [push_cast, Nat.reduceEqDiff, Nat.reduceBEq, Nat.reduceBNe, Nat.reduceAdd, Nat.reduceMul, Nat.reduceLT, Nat.reduceLeDiff, Nat.reduceSub, reduceCtorEq, Int.reduceToNat, ↓reduceIte]
    repeat'
      (first
       | (refine uYes ?_; first | exact List.mem_cons_self | (simp only [List.mem_cons, List.not_mem_nil, or_false, true_or, or_true]; done))
       | (refine uNo (by kernel_rfl))
       | (refine flatMk ?_; kernel_rfl)
       | (refine And.intro ?_ ?_)
       | (intro hx)
       | ((first
           | (refine callGF ?_)
           | (refine callQGF ?_)
           | (refine skipG ?_)
           | (refine callS (in_gives _ _ _ _) ?_)
           | (refine callQ (in_gives _ _ _ _) ?_)
           | (refine callG (fun hc => (in_gives _ _ _ _)) ?_)
           | (refine callQG (fun hc => (in_gives _ _ _ _)) ?_)); simp -implicitDefEqProofs only [push_cast, Nat.reduceEqDiff, Nat.reduceBEq, Nat.reduceBNe, Nat.reduceAdd, Nat.reduceMul, Nat.reduceLT, Nat.reduceLeDiff, Nat.reduceSub, reduceCtorEq, Int.reduceToNat, ↓reduceIte]))
    all_goals first
      | omega
      | (exfalso; omega)
      | trace_state
  · refine meets_of [] mixed Tryd.func5 rfl (by kernel_rfl) (by kernel_rfl) (by rw [Tryd.ntmps5]; simp only [List.length_cons, List.length_nil]; omega) (fun hf => ?_)
    rw [Tryd.results5]
    clear hf
    try simp -implicitDefEqProofs only [bne_self_eq_false, push_cast, Nat.reduceEqDiff, Nat.reduceBEq, Nat.reduceBNe, Nat.reduceAdd, Nat.reduceMul, Nat.reduceLT, Nat.reduceLeDiff, Nat.reduceSub, reduceCtorEq, Int.reduceToNat, ↓reduceIte]
    repeat'
      (first
       | (refine uYes ?_; first | exact List.mem_cons_self | (simp only [List.mem_cons, List.not_mem_nil, or_false, true_or, or_true]; done))
       | (refine uNo (by kernel_rfl))
       | (refine flatMk ?_; kernel_rfl)
       | (refine And.intro ?_ ?_)
       | (intro hx)
       | ((first
           | (refine callGF ?_)
           | (refine callQGF ?_)
           | (refine skipG ?_)
           | (refine callS (hD _) ?_)
           | (refine callQ (hD _) ?_)
           | (refine callG (fun hc => (hD _)) ?_)
           | (refine callQG (fun hc => (hD _)) ?_)
           | (refine callS (hT1 _) ?_)
           | (refine callQ (hT1 _) ?_)
           | (refine callG (fun hc => (hT1 _)) ?_)
           | (refine callQG (fun hc => (hT1 _)) ?_)
           | (refine callS (hTs _) ?_)
           | (refine callQ (hTs _) ?_)
           | (refine callG (fun hc => (hTs _)) ?_)
           | (refine callQG (fun hc => (hTs _)) ?_)
           | (refine callS (hRi _) ?_)
           | (refine callQ (hRi _) ?_)
           | (refine callG (fun hc => (hRi _)) ?_)
           | (refine callQG (fun hc => (hRi _)) ?_)
           | (refine callS (hOi _) ?_)
           | (refine callQ (hOi _) ?_)
           | (refine callG (fun hc => (hOi _)) ?_)
           | (refine callQG (fun hc => (hOi _)) ?_)
           | (refine callS (hOs _) ?_)
           | (refine callQ (hOs _) ?_)
           | (refine callG (fun hc => (hOs _)) ?_)
           | (refine callQG (fun hc => (hOs _)) ?_)); simp -implicitDefEqProofs only [bne_self_eq_false, push_cast, Nat.reduceEqDiff, Nat.reduceBEq, Nat.reduceBNe, Nat.reduceAdd, Nat.reduceMul, Nat.reduceLT, Nat.reduceLeDiff, Nat.reduceSub, reduceCtorEq, Int.reduceToNat, ↓reduceIte]))
    all_goals try first
      | omega
      | (exfalso; omega)
    refine ev_loop0 [] (fun i : Nat => [(1, .slice (ms.map (.int .u8)) .no), (5, .str s), (6, .str r), (7, .int .i64 b), (9, .slice (recs.map .str) .no), (11, .int .i64 i)]) (fun i => i ≤ 4) (fun i => 4 - i) 0 trivial (Nat.zero_le _) ?_ ?_
    · refine ⟨rfl, [], ?_⟩
      simp -implicitDefEqProofs only [Int.natCast_add, Int.cast_ofNat_Int, List.length_nil, Nat.le_refl, WeakTo, tokSts, tokOks, List.append_cancel_left_eq, exists_eq_left', exists_eq_left, List.append_cancel_left_eq, List.take_length, ObCl, and_true, true_and, push_cast, Nat.reduceEqDiff, Nat.reduceBEq, Nat.reduceBNe, Nat.reduceAdd, Nat.reduceMul, Nat.reduceLT, Nat.reduceLeDiff, Nat.reduceSub, reduceCtorEq, Int.reduceToNat, ↓reduceIte]
      trace_state
    · intro i hi
      have w1 : IntKind.i64.wrap ((i : Int) + 1) = i + 1 := wrap_id (by omega) (by omega)
      obtain ⟨q, hq⟩ : ∃ q : Nat, ms.length % 20 = q := ⟨_, rfl⟩
      have hq20 : q < 20 := by omega
      have tm : (ms.length : Int).tmod 20 = q := by rw [Int.tmod_eq_emod_of_nonneg (by omega)]; omega
      have w2 : IntKind.i64.wrap (1 + (q : Int)) = 1 + q := wrap_id (by omega) (by omega)
      have hiq : 0 ≤ (i : Int) * (1 + q) ∧ (i : Int) * (1 + q) ≤ 80 := by
        have h5 : i = 0 ∨ i = 1 ∨ i = 2 ∨ i = 3 ∨ i = 4 := by omega
        rcases h5 with rfl | rfl | rfl | rfl | rfl <;> omega
      have w3 : IntKind.i64.wrap ((i : Int) * (1 + q)) = i * (1 + q) := wrap_id (by omega) (by omega)
      obtain ⟨z, hz⟩ : ∃ z, (i : Int) * (1 + q) = z := ⟨_, rfl⟩
      rw [hz] at w3 hiq
      have w4 : IntKind.i64.wrap (b + z) = b + z := wrap_id (by omega) (by omega)
      by_cases hlt : i < 4
      · have hTz := fun g => hTi (b + z) g (by omega)
        have hyl := tornV_len (s := s) (recs := recs) (r := r) (b + z) hs
        have hcs := torn_is (r := r) (b + z) hs H
        generalize tornV s recs r (b + z) = y at hTz hyl hcs
        cases ok with
        | false =>
          try simp -implicitDefEqProofs only [w1, push_cast, Nat.reduceEqDiff, Nat.reduceBEq, Nat.reduceBNe, Nat.reduceAdd, Nat.reduceMul, Nat.reduceLT, Nat.reduceLeDiff, Nat.reduceSub, reduceCtorEq, Int.reduceToNat, ↓reduceIte]
          repeat'
            (first
             | (refine uYes ?_; first | exact List.mem_cons_self | (simp only [List.mem_cons, List.not_mem_nil, or_false, true_or, or_true]; done))
             | (refine uNo (by kernel_rfl))
             | (refine flatMk ?_; kernel_rfl)
             | (refine And.intro ?_ ?_)
             | (intro hx)
             | ((first
                 | (refine callGF ?_)
                 | (refine callQGF ?_)
                 | (refine skipG ?_)
                 | (refine callS (hOs _) ?_)
                 | (refine callQ (hOs _) ?_)
                 | (refine callG (fun hc => (hOs _)) ?_)
                 | (refine callQG (fun hc => (hOs _)) ?_)); simp -implicitDefEqProofs only [w1, push_cast, Nat.reduceEqDiff, Nat.reduceBEq, Nat.reduceBNe, Nat.reduceAdd, Nat.reduceMul, Nat.reduceLT, Nat.reduceLeDiff, Nat.reduceSub, reduceCtorEq, Int.reduceToNat, ↓reduceIte]))
          all_goals first
            | omega
            | (exfalso; omega)
            | trace_state
        | true =>
          rcases hcs with K | K
          · have hRy := fun g => implLogRead_gives y recs g (by omega) K
            generalize (joinE 0 recs).length = n2 at hRy
            try simp -implicitDefEqProofs only [w1, w2, w3, w4, tm, hz, push_cast, Nat.reduceEqDiff, Nat.reduceBEq, Nat.reduceBNe, Nat.reduceAdd, Nat.reduceMul, Nat.reduceLT, Nat.reduceLeDiff, Nat.reduceSub, reduceCtorEq, Int.reduceToNat, ↓reduceIte]
            repeat'
              (first
               | (refine uYes ?_; first | exact List.mem_cons_self | (simp only [List.mem_cons, List.not_mem_nil, or_false, true_or, or_true]; done))
               | (refine uNo (by kernel_rfl))
               | (refine flatMk ?_; kernel_rfl)
               | (refine And.intro ?_ ?_)
               | (intro hx)
               | ((first
                   | (refine callGF ?_)
                   | (refine callQGF ?_)
                   | (refine skipG ?_)
                   | (refine callS (hOs _) ?_)
                   | (refine callQ (hOs _) ?_)
                   | (refine callG (fun hc => (hOs _)) ?_)
                   | (refine callQG (fun hc => (hOs _)) ?_)
                   | (refine callS (hTz _) ?_)
                   | (refine callQ (hTz _) ?_)
                   | (refine callG (fun hc => (hTz _)) ?_)
                   | (refine callQG (fun hc => (hTz _)) ?_)
                   | (refine callS (hRy _) ?_)
                   | (refine callQ (hRy _) ?_)
                   | (refine callG (fun hc => (hRy _)) ?_)
                   | (refine callQG (fun hc => (hRy _)) ?_)
                   | (refine callS (hW _) ?_)
                   | (refine callQ (hW _) ?_)
                   | (refine callG (fun hc => (hW _)) ?_)
                   | (refine callQG (fun hc => (hW _)) ?_)); simp -implicitDefEqProofs only [w1, w2, w3, w4, tm, hz, push_cast, Nat.reduceEqDiff, Nat.reduceBEq, Nat.reduceBNe, Nat.reduceAdd, Nat.reduceMul, Nat.reduceLT, Nat.reduceLeDiff, Nat.reduceSub, reduceCtorEq, Int.reduceToNat, ↓reduceIte]))
            all_goals first
              | omega
              | (exfalso; omega)
              | (refine round_mk0 (i + 1) (by omega) (by omega) ⟨[], ?_⟩
                 simp -implicitDefEqProofs only [w1, Int.natCast_add, Int.cast_ofNat_Int, List.length_nil, Nat.le_refl, WeakTo, tokSts, tokOks, List.append_cancel_left_eq, exists_eq_left', exists_eq_left, List.append_cancel_left_eq, List.take_length, ObCl, and_true, true_and, push_cast, Nat.reduceEqDiff, Nat.reduceBEq, Nat.reduceBNe, Nat.reduceAdd, Nat.reduceMul, Nat.reduceLT, Nat.reduceLeDiff, Nat.reduceSub, reduceCtorEq, Int.reduceToNat, ↓reduceIte])
              | trace_state
          · have hRy := fun g => implLogRead_gives y (recs ++ [r]) g (by omega) K
            have hne : (recs ++ [r]) ≠ recs := fun e => by have := congrArg List.length e; simp at this
            have hWn := fun g => wsWords_gives (recs ++ [r]) recs g
            rw [decide_eq_false hne] at hWn
            have hl2 : (recs ++ [r]).length = recs.length + 1 := by simp
            have hgr : (recs ++ [r]).getD recs.length [] = r := by rw [List.getD_eq_getElem?_getD, List.getElem?_append_right (Nat.le_refl _), Nat.sub_self]; rfl
            have htk : List.take recs.length (recs ++ [r]) = recs := List.take_left
            have w5 : IntKind.i64.wrap ((recs.length : Int) + 1) = recs.length + 1 := wrap_id (by omega) (by omega)
            generalize (joinE 0 (recs ++ [r])).length = n2 at hRy
            try simp -implicitDefEqProofs only [w1, w2, w3, w4, w5, tm, hz, hl2, hgr, htk, push_cast, Nat.reduceEqDiff, Nat.reduceBEq, Nat.reduceBNe, Nat.reduceAdd, Nat.reduceMul, Nat.reduceLT, Nat.reduceLeDiff, Nat.reduceSub, reduceCtorEq, Int.reduceToNat, ↓reduceIte]
            repeat'
              (first
               | (refine uYes ?_; first | exact List.mem_cons_self | (simp only [List.mem_cons, List.not_mem_nil, or_false, true_or, or_true]; done))
               | (refine uNo (by kernel_rfl))
               | (refine flatMk ?_; kernel_rfl)
               | (refine And.intro ?_ ?_)
               | (intro hx)
               | ((first
                   | (refine callGF ?_)
                   | (refine callQGF ?_)
                   | (refine skipG ?_)
                   | (refine callS (hOs _) ?_)
                   | (refine callQ (hOs _) ?_)
                   | (refine callG (fun hc => (hOs _)) ?_)
                   | (refine callQG (fun hc => (hOs _)) ?_)
                   | (refine callS (hTz _) ?_)
                   | (refine callQ (hTz _) ?_)
                   | (refine callG (fun hc => (hTz _)) ?_)
                   | (refine callQG (fun hc => (hTz _)) ?_)
                   | (refine callS (hRy _) ?_)
                   | (refine callQ (hRy _) ?_)
                   | (refine callG (fun hc => (hRy _)) ?_)
                   | (refine callQG (fun hc => (hRy _)) ?_)
                   | (refine callS (hW _) ?_)
                   | (refine callQ (hW _) ?_)
                   | (refine callG (fun hc => (hW _)) ?_)
                   | (refine callQG (fun hc => (hW _)) ?_)
                   | (refine callS (hWn _) ?_)
                   | (refine callQ (hWn _) ?_)
                   | (refine callG (fun hc => (hWn _)) ?_)
                   | (refine callQG (fun hc => (hWn _)) ?_)); simp -implicitDefEqProofs only [w1, w2, w3, w4, w5, tm, hz, hl2, hgr, htk, push_cast, Nat.reduceEqDiff, Nat.reduceBEq, Nat.reduceBNe, Nat.reduceAdd, Nat.reduceMul, Nat.reduceLT, Nat.reduceLeDiff, Nat.reduceSub, reduceCtorEq, Int.reduceToNat, ↓reduceIte]))
            all_goals first
              | omega
              | (exfalso; omega)
              | (refine round_mk0 (i + 1) (by omega) (by omega) ⟨[], ?_⟩
                 simp -implicitDefEqProofs only [w1, Int.natCast_add, Int.cast_ofNat_Int, List.length_nil, Nat.le_refl, WeakTo, tokSts, tokOks, List.append_cancel_left_eq, exists_eq_left', exists_eq_left, List.append_cancel_left_eq, List.take_length, ObCl, and_true, true_and, push_cast, Nat.reduceEqDiff, Nat.reduceBEq, Nat.reduceBNe, Nat.reduceAdd, Nat.reduceMul, Nat.reduceLT, Nat.reduceLeDiff, Nat.reduceSub, reduceCtorEq, Int.reduceToNat, ↓reduceIte])
              | trace_state
      · obtain rfl : i = 4 := by omega
        try simp -implicitDefEqProofs only [w1, push_cast, Nat.reduceEqDiff, Nat.reduceBEq, Nat.reduceBNe, Nat.reduceAdd, Nat.reduceMul, Nat.reduceLT, Nat.reduceLeDiff, Nat.reduceSub, reduceCtorEq, Int.reduceToNat, ↓reduceIte]
        repeat'
          (first
           | (refine uYes ?_; first | exact List.mem_cons_self | (simp only [List.mem_cons, List.not_mem_nil, or_false, true_or, or_true]; done))
           | (refine uNo (by kernel_rfl))
           | (refine flatMk ?_; kernel_rfl)
           | (refine And.intro ?_ ?_)
           | (intro hx)
           | ((first
               | (refine callGF ?_)
               | (refine callQGF ?_)
               | (refine skipG ?_)
               | (refine callS (in_gives _ _ _ _) ?_)
               | (refine callQ (in_gives _ _ _ _) ?_)
               | (refine callG (fun hc => (in_gives _ _ _ _)) ?_)
               | (refine callQG (fun hc => (in_gives _ _ _ _)) ?_)); simp -implicitDefEqProofs only [w1, push_cast, Nat.reduceEqDiff, Nat.reduceBEq, Nat.reduceBNe, Nat.reduceAdd, Nat.reduceMul, Nat.reduceLT, Nat.reduceLeDiff, Nat.reduceSub, reduceCtorEq, Int.reduceToNat, ↓reduceIte]))
        all_goals first
          | omega
          | (exfalso; omega)
          | trace_state
end Go.Proofs.YtcmpcpigchlhpaaDoor
