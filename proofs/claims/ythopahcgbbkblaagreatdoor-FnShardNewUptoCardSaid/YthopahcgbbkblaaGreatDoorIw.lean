/- The law of a new shard, drawn. -/
import Derived.Test.YthopahcgbbkblaaGreatDoorIv
import Derived.Test.YthopahcgbbkblaaGreatDoorGo
import Derived.Test.YthopahcgbbkblaaGreatDoorGj

namespace Go.Proofs.YthopahcgbbkblaaGreatDoor
set_option linter.unusedSectionVars false
open Go.Av
variable [Av.Start] [TabPow] [TabErr] [TabMax]
set_option maxRecDepth 10000
set_option maxHeartbeats 1000000
set_option linter.unusedSimpArgs false
set_option linter.unusedVariables false

theorem replay0_gives (id : Int) (net : List Leg) (h : Hp) : Gives Tryz.prog 23 [shD id net true] h (.tup [shD id net true, .bool true]) := by
  rw [shD]
  refine meets_of [] mixed Tryz.func23 rfl (by kernel_rfl) (by kernel_rfl) (by rw [Tryz.ntmps23]; simp only [List.length_cons, List.length_nil]; omega) (fun hf => ?_)
  rw [Tryz.results23]
  clear hf
  try simp -implicitDefEqProofs only [lenMax, push_cast, Nat.reduceEqDiff, Nat.reduceBEq, Nat.reduceBNe, Nat.reduceAdd, Nat.reduceMul, Nat.reduceLT, Nat.reduceLeDiff, Nat.reduceSub, reduceCtorEq, Int.reduceToNat, ↓reduceIte]
  repeat'
    (first
     | (refine uYes ?_; first | exact List.mem_cons_self | (simp only [List.mem_cons, List.not_mem_nil, or_false, true_or, or_true]; done))
     | (refine uNo (by kernel_rfl))
     | (refine flatMk ?_; kernel_rfl)
     | (refine And.intro ?_ ?_)
     | (intro hx)
     | ((first
         | (refine callGF ?_)
         | (refine callQGF ?_)
         | (refine skipG ?_)
         | (refine callS (logRead0_gives _) ?_)
         | (refine callQ (logRead0_gives _) ?_)
         | (refine callG (fun hc => (logRead0_gives _)) ?_)
         | (refine callQG (fun hc => (logRead0_gives _)) ?_)
         | (refine inX_mkS [] [h.length + 2] (by rfl) (by kernel_rfl) (by simp) ?_)
         | (refine callXG (dst := some 19) (fun _ => copyNet_gives net _) ?_)
         | (refine callXG (dst := some 26) (fun _ => copyNet_gives net _) ?_)); simp -implicitDefEqProofs only [lenMax, push_cast, Nat.reduceEqDiff, Nat.reduceBEq, Nat.reduceBNe, Nat.reduceAdd, Nat.reduceMul, Nat.reduceLT, Nat.reduceLeDiff, Nat.reduceSub, reduceCtorEq, Int.reduceToNat, ↓reduceIte]))
  all_goals first
    | omega
    | exact .inr (by kernel_rfl)
    | skip
  refine ev_loop [] (fun _ : Unit => [(2, .ptr (h.length + 1) 0), (6, .ptr (h.length + 2) 0), (29, .int .i64 0), (30, .int .i64 0)])
    (fun _ => [.row [.int .i64 id, .slice (net.map Leg.d) .no, .str [], .bool true, .slice (net.map Leg.d) .no, .slice [] .no], .row [.int .i64 0, .slice [] .full, .str [], .bool false, .slice [] .full, .slice [] .full], .row [.int .i64 id, .slice (net.map Leg.d) .no, .str [], .bool true, .slice (net.map Leg.d) .no, .slice [] .full]]) (fun _ => True) (fun _ => 0) () trivial trivial ?_ ?_
  · refine ⟨3, by simp, by simp [tokSts], ?_⟩
    simp -implicitDefEqProofs only [Int.natCast_add, Int.cast_ofNat_Int, List.length_nil, Nat.le_refl, WeakTo, tokSts, tokOks, List.append_cancel_left_eq, exists_eq_left', exists_eq_left, List.append_cancel_left_eq, List.take_length, ObCl, and_true, true_and, push_cast, Nat.reduceEqDiff, Nat.reduceBEq, Nat.reduceBNe, Nat.reduceAdd, Nat.reduceMul, Nat.reduceLT, Nat.reduceLeDiff, Nat.reduceSub, reduceCtorEq, Int.reduceToNat, ↓reduceIte]
    omega
  · intro _ _
    try simp -implicitDefEqProofs only [push_cast, Nat.reduceEqDiff, Nat.reduceBEq, Nat.reduceBNe, Nat.reduceAdd, Nat.reduceMul, Nat.reduceLT, Nat.reduceLeDiff, Nat.reduceSub, reduceCtorEq, Int.reduceToNat, ↓reduceIte]
    repeat'
      (first
       | (refine uYes ?_; first | exact List.mem_cons_self | (simp only [List.mem_cons, List.not_mem_nil, or_false, true_or, or_true]; done))
       | (refine uNo (by kernel_rfl))
       | (refine flatMk ?_; kernel_rfl)
       | (refine And.intro ?_ ?_)
       | (intro hx)
       | ((first
           | (refine callGF ?_)
           | (refine callQGF ?_)
           | (refine skipG ?_)
           | (refine callS (in_gives _ _ _ _) ?_)
           | (refine callQ (in_gives _ _ _ _) ?_)
           | (refine callG (fun hc => (in_gives _ _ _ _)) ?_)
           | (refine callQG (fun hc => (in_gives _ _ _ _)) ?_)); simp -implicitDefEqProofs only [push_cast, Nat.reduceEqDiff, Nat.reduceBEq, Nat.reduceBNe, Nat.reduceAdd, Nat.reduceMul, Nat.reduceLT, Nat.reduceLeDiff, Nat.reduceSub, reduceCtorEq, Int.reduceToNat, ↓reduceIte]))
    all_goals first
      | omega
      | trace_state
theorem shardOk_new (id : Int) (net : List Leg) (h : Hp) (hb : shB id net = true) : Gives Tryz.prog 8 [shD id net true] h (.bool true) := by
  have hr := fun g => replay0_gives id net g
  rw [shB, baseB, Bool.and_eq_true, Bool.and_eq_true, Bool.not_eq_true'] at hb
  obtain ⟨h1, h2, h3⟩ := hb
  simp only [shD] at hr ⊢
  refine meets_of [] mixed Tryz.func8 rfl (by kernel_rfl) (by kernel_rfl) (by rw [Tryz.ntmps8]; simp only [List.length_cons, List.length_nil]; omega) (fun hf => ?_)
  rw [Tryz.results8]
  clear hf
  try simp -implicitDefEqProofs only [h1, h2, h3, push_cast, Nat.reduceEqDiff, Nat.reduceBEq, Nat.reduceBNe, Nat.reduceAdd, Nat.reduceMul, Nat.reduceLT, Nat.reduceLeDiff, Nat.reduceSub, reduceCtorEq, Int.reduceToNat, ↓reduceIte]
  repeat'
    (first
     | (refine uYes ?_; first | exact List.mem_cons_self | (simp only [List.mem_cons, List.not_mem_nil, or_false, true_or, or_true]; done))
     | (refine uNo (by kernel_rfl))
     | (refine flatMk ?_; kernel_rfl)
     | (refine And.intro ?_ ?_)
     | (intro hx)
     | ((first
         | (refine callGF ?_)
         | (refine callQGF ?_)
         | (refine skipG ?_)
         | (refine callS (isShard_gives id _) ?_)
         | (refine callQ (isShard_gives id _) ?_)
         | (refine callG (fun hc => (isShard_gives id _)) ?_)
         | (refine callQG (fun hc => (isShard_gives id _)) ?_)
         | (refine callS (implNetOk_gives net _) ?_)
         | (refine callQ (implNetOk_gives net _) ?_)
         | (refine callG (fun hc => (implNetOk_gives net _)) ?_)
         | (refine callQG (fun hc => (implNetOk_gives net _)) ?_)
         | (refine callS (heldAny_gives net _) ?_)
         | (refine callQ (heldAny_gives net _) ?_)
         | (refine callG (fun hc => (heldAny_gives net _)) ?_)
         | (refine callQG (fun hc => (heldAny_gives net _)) ?_)
         | (refine callS (hr _) ?_)
         | (refine callQ (hr _) ?_)
         | (refine callG (fun hc => (hr _)) ?_)
         | (refine callQG (fun hc => (hr _)) ?_)
         | (refine callS (sameLegs_self net _) ?_)
         | (refine callQ (sameLegs_self net _) ?_)
         | (refine callG (fun hc => (sameLegs_self net _)) ?_)
         | (refine callQG (fun hc => (sameLegs_self net _)) ?_)
         | (refine callS (sameTxns_nil _) ?_)
         | (refine callQ (sameTxns_nil _) ?_)
         | (refine callG (fun hc => (sameTxns_nil _)) ?_)
         | (refine callQG (fun hc => (sameTxns_nil _)) ?_)); simp -implicitDefEqProofs only [h1, h2, h3, push_cast, Nat.reduceEqDiff, Nat.reduceBEq, Nat.reduceBNe, Nat.reduceAdd, Nat.reduceMul, Nat.reduceLT, Nat.reduceLeDiff, Nat.reduceSub, reduceCtorEq, Int.reduceToNat, ↓reduceIte]))
  all_goals first
    | omega
    | trace_state
omit [TabPow] [TabErr] [TabMax] in
theorem shardOk_no (h : Hp) : Gives Tryz.prog 8 [shD 0 [] false] h (.bool false) := by
  have h1 : inB 0 1 2 = false := rfl
  rw [shD]
  refine meets_of [] mixed Tryz.func8 rfl (by kernel_rfl) (by kernel_rfl) (by rw [Tryz.ntmps8]; simp only [List.length_cons, List.length_nil]; omega) (fun hf => ?_)
  rw [Tryz.results8]
  clear hf
  try simp -implicitDefEqProofs only [h1, push_cast, Nat.reduceEqDiff, Nat.reduceBEq, Nat.reduceBNe, Nat.reduceAdd, Nat.reduceMul, Nat.reduceLT, Nat.reduceLeDiff, Nat.reduceSub, reduceCtorEq, Int.reduceToNat, ↓reduceIte]
  repeat'
    (first
     | (refine uYes ?_; first | exact List.mem_cons_self | (simp only [List.mem_cons, List.not_mem_nil, or_false, true_or, or_true]; done))
     | (refine uNo (by kernel_rfl))
     | (refine flatMk ?_; kernel_rfl)
     | (refine And.intro ?_ ?_)
     | (intro hx)
     | ((first
         | (refine callGF ?_)
         | (refine callQGF ?_)
         | (refine skipG ?_)
         | (refine callS (isShard_gives _ _) ?_)
         | (refine callQ (isShard_gives _ _) ?_)
         | (refine callG (fun hc => (isShard_gives _ _)) ?_)
         | (refine callQG (fun hc => (isShard_gives _ _)) ?_)); simp -implicitDefEqProofs only [h1, push_cast, Nat.reduceEqDiff, Nat.reduceBEq, Nat.reduceBNe, Nat.reduceAdd, Nat.reduceMul, Nat.reduceLT, Nat.reduceLeDiff, Nat.reduceSub, reduceCtorEq, Int.reduceToNat, ↓reduceIte]))
  all_goals first
    | omega
    | trace_state
theorem shardTick_new (id : Int) (net : List Leg) (h : Hp) (hb : shB id net = true) : Gives Tryz.prog 10 [shD id net true] h (.slice [] .no) := by
  have ho := fun g => shardOk_new id net g hb
  simp only [shD] at ho ⊢
  refine meets_of [] mixed Tryz.func10 rfl (by kernel_rfl) (by kernel_rfl) (by rw [Tryz.ntmps10]; simp only [List.length_cons, List.length_nil]; omega) (fun hf => ?_)
  rw [Tryz.results10]
  clear hf
  try simp -implicitDefEqProofs only [push_cast, Nat.reduceEqDiff, Nat.reduceBEq, Nat.reduceBNe, Nat.reduceAdd, Nat.reduceMul, Nat.reduceLT, Nat.reduceLeDiff, Nat.reduceSub, reduceCtorEq, Int.reduceToNat, ↓reduceIte]
  repeat'
    (first
     | (refine uYes ?_; first | exact List.mem_cons_self | (simp only [List.mem_cons, List.not_mem_nil, or_false, true_or, or_true]; done))
     | (refine uNo (by kernel_rfl))
     | (refine flatMk ?_; kernel_rfl)
     | (refine And.intro ?_ ?_)
     | (intro hx)
     | ((first
         | (refine callGF ?_)
         | (refine callQGF ?_)
         | (refine skipG ?_)
         | (refine callS (ho _) ?_)
         | (refine callQ (ho _) ?_)
         | (refine callG (fun hc => (ho _)) ?_)
         | (refine callQG (fun hc => (ho _)) ?_)
         | (refine callS (tick0_gives h.length _ id net (by simp -implicitDefEqProofs only [push_cast, Nat.reduceEqDiff, Nat.reduceBEq, Nat.reduceBNe, Nat.reduceAdd, Nat.reduceMul, Nat.reduceLT, Nat.reduceLeDiff, Nat.reduceSub, reduceCtorEq, Int.reduceToNat, ↓reduceIte])) ?_)
         | (refine callQ (tick0_gives h.length _ id net (by simp -implicitDefEqProofs only [push_cast, Nat.reduceEqDiff, Nat.reduceBEq, Nat.reduceBNe, Nat.reduceAdd, Nat.reduceMul, Nat.reduceLT, Nat.reduceLeDiff, Nat.reduceSub, reduceCtorEq, Int.reduceToNat, ↓reduceIte])) ?_)
         | (refine callG (fun hc => (tick0_gives h.length _ id net (by simp -implicitDefEqProofs only [push_cast, Nat.reduceEqDiff, Nat.reduceBEq, Nat.reduceBNe, Nat.reduceAdd, Nat.reduceMul, Nat.reduceLT, Nat.reduceLeDiff, Nat.reduceSub, reduceCtorEq, Int.reduceToNat, ↓reduceIte]))) ?_)
         | (refine callQG (fun hc => (tick0_gives h.length _ id net (by simp -implicitDefEqProofs only [push_cast, Nat.reduceEqDiff, Nat.reduceBEq, Nat.reduceBNe, Nat.reduceAdd, Nat.reduceMul, Nat.reduceLT, Nat.reduceLeDiff, Nat.reduceSub, reduceCtorEq, Int.reduceToNat, ↓reduceIte]))) ?_)); simp -implicitDefEqProofs only [push_cast, Nat.reduceEqDiff, Nat.reduceBEq, Nat.reduceBNe, Nat.reduceAdd, Nat.reduceMul, Nat.reduceLT, Nat.reduceLeDiff, Nat.reduceSub, reduceCtorEq, Int.reduceToNat, ↓reduceIte]))
  all_goals first
    | omega
    | trace_state
omit [TabPow] [TabErr] [TabMax] in
theorem wsLegs_self (net : List Leg) (h : Hp) : Gives Tryz.prog 9 [.slice (net.map Leg.d) .no, .slice (net.map Leg.d) .no] h (.bool true) := by
  refine meets_of [] mixed Tryz.func9 rfl (by kernel_rfl) (by kernel_rfl) (by rw [Tryz.ntmps9]; simp only [List.length_cons, List.length_nil]; omega) (fun hf => ?_)
  rw [Tryz.results9]
  have hl : net.length ≤ 1073741824 := by simpa using slice_fit (hf (.slice (net.map Leg.d) .no) (by simp))
  clear hf
  simp -implicitDefEqProofs only [push_cast, Nat.reduceEqDiff, Nat.reduceBEq, Nat.reduceBNe, Nat.reduceAdd, Nat.reduceMul, Nat.reduceLT, Nat.reduceLeDiff, Nat.reduceSub, reduceCtorEq, Int.reduceToNat, ↓reduceIte]
  try simp -implicitDefEqProofs only [push_cast, Nat.reduceEqDiff, Nat.reduceBEq, Nat.reduceBNe, Nat.reduceAdd, Nat.reduceMul, Nat.reduceLT, Nat.reduceLeDiff, Nat.reduceSub, reduceCtorEq, Int.reduceToNat, ↓reduceIte]
  repeat'
    (first
     | (refine uYes ?_; first | exact List.mem_cons_self | (simp only [List.mem_cons, List.not_mem_nil, or_false, true_or, or_true]; done))
     | (refine uNo (by kernel_rfl))
     | (refine flatMk ?_; kernel_rfl)
     | (refine And.intro ?_ ?_)
     | (intro hx)
     | ((first
         | (refine callGF ?_)
         | (refine callQGF ?_)
         | (refine skipG ?_)
         | (refine callS (in_gives _ _ _ _) ?_)
         | (refine callQ (in_gives _ _ _ _) ?_)
         | (refine callG (fun hc => (in_gives _ _ _ _)) ?_)
         | (refine callQG (fun hc => (in_gives _ _ _ _)) ?_)); simp -implicitDefEqProofs only [push_cast, Nat.reduceEqDiff, Nat.reduceBEq, Nat.reduceBNe, Nat.reduceAdd, Nat.reduceMul, Nat.reduceLT, Nat.reduceLeDiff, Nat.reduceSub, reduceCtorEq, Int.reduceToNat, ↓reduceIte]))
  all_goals try omega
  refine ev_loop0 [] (fun k : Nat => [(0, .slice (net.map Leg.d) .no), (1, .slice (net.map Leg.d) .no), (5, .int .i64 k)]) (fun k => k ≤ net.length) (fun k => net.length - k) 0 trivial (Nat.zero_le _) ?_ ?_
  · refine ⟨rfl, [], ?_⟩
    simp -implicitDefEqProofs only [Int.natCast_add, Int.cast_ofNat_Int, List.length_nil, Nat.le_refl, WeakTo, tokSts, tokOks, List.append_cancel_left_eq, exists_eq_left', exists_eq_left, List.append_cancel_left_eq, List.take_length, ObCl, and_true, true_and, push_cast, Nat.reduceEqDiff, Nat.reduceBEq, Nat.reduceBNe, Nat.reduceAdd, Nat.reduceMul, Nat.reduceLT, Nat.reduceLeDiff, Nat.reduceSub, reduceCtorEq, Int.reduceToNat, ↓reduceIte]
  · intro k hk
    have hw : IntKind.i64.wrap ((k : Int) + 1) = k + 1 := wrap_id (by omega) (by omega)
    rcases Nat.lt_or_ge k net.length with hlt | hge
    · have hL := leg_at hlt
      have hs := fun g => wsLegZ_gives (net.getD k default) g
      simp only [Leg.d, Leg.cs] at hL hs
      try simp -implicitDefEqProofs only [hw, hL, push_cast, Nat.reduceEqDiff, Nat.reduceBEq, Nat.reduceBNe, Nat.reduceAdd, Nat.reduceMul, Nat.reduceLT, Nat.reduceLeDiff, Nat.reduceSub, reduceCtorEq, Int.reduceToNat, ↓reduceIte]
      repeat'
        (first
         | (refine uYes ?_; first | exact List.mem_cons_self | (simp only [List.mem_cons, List.not_mem_nil, or_false, true_or, or_true]; done))
         | (refine uNo (by kernel_rfl))
         | (refine flatMk ?_; kernel_rfl)
         | (refine And.intro ?_ ?_)
         | (intro hx)
         | ((first
             | (refine callGF ?_)
             | (refine callQGF ?_)
             | (refine skipG ?_)
             | (refine callS (hs _) ?_)
             | (refine callQ (hs _) ?_)
             | (refine callG (fun hc => (hs _)) ?_)
             | (refine callQG (fun hc => (hs _)) ?_)); simp -implicitDefEqProofs only [hw, hL, push_cast, Nat.reduceEqDiff, Nat.reduceBEq, Nat.reduceBNe, Nat.reduceAdd, Nat.reduceMul, Nat.reduceLT, Nat.reduceLeDiff, Nat.reduceSub, reduceCtorEq, Int.reduceToNat, ↓reduceIte]))
      all_goals first
        | omega
        | (refine round_mk0 (k + 1) (by omega) (by omega) ⟨[], ?_⟩
           simp -implicitDefEqProofs only [hw, Int.natCast_add, Int.cast_ofNat_Int, List.length_nil, Nat.le_refl, WeakTo, tokSts, tokOks, List.append_cancel_left_eq, exists_eq_left', exists_eq_left, List.append_cancel_left_eq, List.take_length, ObCl, and_true, true_and, push_cast, Nat.reduceEqDiff, Nat.reduceBEq, Nat.reduceBNe, Nat.reduceAdd, Nat.reduceMul, Nat.reduceLT, Nat.reduceLeDiff, Nat.reduceSub, reduceCtorEq, Int.reduceToNat, ↓reduceIte]
           done)
        | trace_state
    · obtain rfl : k = net.length := by omega
      try simp -implicitDefEqProofs only [hw, push_cast, Nat.reduceEqDiff, Nat.reduceBEq, Nat.reduceBNe, Nat.reduceAdd, Nat.reduceMul, Nat.reduceLT, Nat.reduceLeDiff, Nat.reduceSub, reduceCtorEq, Int.reduceToNat, ↓reduceIte]
      repeat'
        (first
         | (refine uYes ?_; first | exact List.mem_cons_self | (simp only [List.mem_cons, List.not_mem_nil, or_false, true_or, or_true]; done))
         | (refine uNo (by kernel_rfl))
         | (refine flatMk ?_; kernel_rfl)
         | (refine And.intro ?_ ?_)
         | (intro hx)
         | ((first
             | (refine callGF ?_)
             | (refine callQGF ?_)
             | (refine skipG ?_)
             | (refine callS (in_gives _ _ _ _) ?_)
             | (refine callQ (in_gives _ _ _ _) ?_)
             | (refine callG (fun hc => (in_gives _ _ _ _)) ?_)
             | (refine callQG (fun hc => (in_gives _ _ _ _)) ?_)); simp -implicitDefEqProofs only [hw, push_cast, Nat.reduceEqDiff, Nat.reduceBEq, Nat.reduceBNe, Nat.reduceAdd, Nat.reduceMul, Nat.reduceLT, Nat.reduceLeDiff, Nat.reduceSub, reduceCtorEq, Int.reduceToNat, ↓reduceIte]))
      all_goals first
        | omega
        | trace_state
omit [TabPow] [TabErr] [TabMax] in
theorem wsShard_self (id : Int) (net : List Leg) (up : Bool) (h : Hp) : Gives Tryz.prog 6 [shD id net up, shD id net up] h (.bool true) := by
  rw [shD]
  refine meets_of [] mixed Tryz.func6 rfl (by kernel_rfl) (by kernel_rfl) (by rw [Tryz.ntmps6]; simp only [List.length_cons, List.length_nil]; omega) (fun hf => ?_)
  rw [Tryz.results6]
  clear hf
  try simp -implicitDefEqProofs only [push_cast, Nat.reduceEqDiff, Nat.reduceBEq, Nat.reduceBNe, Nat.reduceAdd, Nat.reduceMul, Nat.reduceLT, Nat.reduceLeDiff, Nat.reduceSub, reduceCtorEq, Int.reduceToNat, ↓reduceIte]
  repeat'
    (first
     | (refine uYes ?_; first | exact List.mem_cons_self | (simp only [List.mem_cons, List.not_mem_nil, or_false, true_or, or_true]; done))
     | (refine uNo (by kernel_rfl))
     | (refine flatMk ?_; kernel_rfl)
     | (refine And.intro ?_ ?_)
     | (intro hx)
     | ((first
         | (refine callGF ?_)
         | (refine callQGF ?_)
         | (refine skipG ?_)
         | (refine callS (wsLegs_self net _) ?_)
         | (refine callQ (wsLegs_self net _) ?_)
         | (refine callG (fun hc => (wsLegs_self net _)) ?_)
         | (refine callQG (fun hc => (wsLegs_self net _)) ?_)); simp -implicitDefEqProofs only [push_cast, Nat.reduceEqDiff, Nat.reduceBEq, Nat.reduceBNe, Nat.reduceAdd, Nat.reduceMul, Nat.reduceLT, Nat.reduceLeDiff, Nat.reduceSub, reduceCtorEq, Int.reduceToNat, ↓reduceIte]))
  all_goals first
    | omega
    | (simp at hx; done)
    | skip
  refine ev_loop [] (fun _ : Unit => [(2, .ptr h.length 0), (3, .ptr (h.length + 1) 0), (5, .int .i64 0)])
    (fun _ => [.row [.int .i64 id, .slice (net.map Leg.d) .no, .str [], .bool up, .slice (net.map Leg.d) .no, .slice [] .no], .row [.int .i64 id, .slice (net.map Leg.d) .no, .str [], .bool up, .slice (net.map Leg.d) .no, .slice [] .no]]) (fun _ => True) (fun _ => 0) () trivial trivial ?_ ?_
  · refine ⟨2, by simp, by simp [tokSts], ?_⟩
    simp -implicitDefEqProofs only [Int.natCast_add, Int.cast_ofNat_Int, List.length_nil, Nat.le_refl, WeakTo, tokSts, tokOks, List.append_cancel_left_eq, exists_eq_left', exists_eq_left, List.append_cancel_left_eq, List.take_length, ObCl, and_true, true_and, push_cast, Nat.reduceEqDiff, Nat.reduceBEq, Nat.reduceBNe, Nat.reduceAdd, Nat.reduceMul, Nat.reduceLT, Nat.reduceLeDiff, Nat.reduceSub, reduceCtorEq, Int.reduceToNat, ↓reduceIte]
    omega
  · intro _ _
    try simp -implicitDefEqProofs only [push_cast, Nat.reduceEqDiff, Nat.reduceBEq, Nat.reduceBNe, Nat.reduceAdd, Nat.reduceMul, Nat.reduceLT, Nat.reduceLeDiff, Nat.reduceSub, reduceCtorEq, Int.reduceToNat, ↓reduceIte]
    repeat'
      (first
       | (refine uYes ?_; first | exact List.mem_cons_self | (simp only [List.mem_cons, List.not_mem_nil, or_false, true_or, or_true]; done))
       | (refine uNo (by kernel_rfl))
       | (refine flatMk ?_; kernel_rfl)
       | (refine And.intro ?_ ?_)
       | (intro hx)
       | ((first
           | (refine callGF ?_)
           | (refine callQGF ?_)
           | (refine skipG ?_)
           | (refine callS (in_gives _ _ _ _) ?_)
           | (refine callQ (in_gives _ _ _ _) ?_)
           | (refine callG (fun hc => (in_gives _ _ _ _)) ?_)
           | (refine callQG (fun hc => (in_gives _ _ _ _)) ?_)); simp -implicitDefEqProofs only [push_cast, Nat.reduceEqDiff, Nat.reduceBEq, Nat.reduceBNe, Nat.reduceAdd, Nat.reduceMul, Nat.reduceLT, Nat.reduceLeDiff, Nat.reduceSub, reduceCtorEq, Int.reduceToNat, ↓reduceIte]))
    all_goals first
      | omega
      | trace_state
end Go.Proofs.YthopahcgbbkblaaGreatDoor

/- FnShardNew: a new shard has just the legs that it was given. -/
namespace Go.Proofs.YthopahcgbbkblaaGreatDoor
set_option linter.unusedSectionVars false
open Go.Av
variable [Av.Start] [TabPow] [TabErr] [TabMax]
set_option maxRecDepth 10000
set_option maxHeartbeats 2000000
set_option linter.unusedSimpArgs false
set_option linter.unusedVariables false

omit [Av.Start] [TabPow] [TabErr] [TabMax] in
theorem anyN_len {bs : List Int} {p : Int} [Av.Start] (H : Rd bs (p + 300)) (hp0 : 0 ≤ p) : 2 ≤ (anyN bs p).1.length := by
  have := netV_len H hp0
  rw [anyN]
  split
  · simp only [List.length_set]; exact this
  · exact this
omit [TabPow] [TabErr] [TabMax] in
theorem drawShardNew_ex (bs : List Int) (hb : ∀ x, x ∈ bs → 0 ≤ x ∧ x ≤ 255) : ∃ (id : Int) (net : List Leg), 0 ≤ id ∧ id ≤ 3 ∧ ∀ h, Gives Tryz.prog 4 [.slice (bs.map (.int .u8)) .no] h (.tup [.int .i64 id, .slice (net.map Leg.d) .no]) := by
  have hR := fun p h0 h1 => rd_take hb p h0 h1
  have hA := anyN_place (bs := bs.take 2000) (p := 0) (hR _ (by omega) (by omega)) (by omega)
  have hA2 := anyN_len (bs := bs.take 2000) (p := 0) (hR _ (by omega) (by omega)) (by omega)
  have hG := fun (r : Nat) g q1 q2 => l14AnyNetR (bs.take 2000) 0 r g q1 q2 (hR _ (by omega) (by omega)) (by omega)
  have hO := l1Open_gives bs
  generalize bs.take 2000 = cs at hR hA hA2 hG hO
  generalize anyN cs 0 = A at hA hA2 hG
  obtain ⟨net, q⟩ := A
  simp only at hA hA2 hG
  have v6 := pickV_range (p := q) (hR _ (by omega) (by omega)) 6 (by omega)
  by_cases hz : pickV cs q 6 = 0
  · have hS := fun (r : Nat) g q1 q2 => l14Sold_gives cs (q + 1) r g q1 q2 (hR _ (by omega) (by omega)) (by omega)
    have hP := (soldS_ok (bs := cs) (p := q + 1) (hR _ (by omega) (by omega)) (by omega)).2
    generalize soldS cs (q + 1) = S at hS hP
    obtain ⟨l, u⟩ := S
    simp only at hS hP
    have v4 := pickV_range (p := u) (hR _ (by omega) (by omega)) 4 (by omega)
    refine ⟨pickV cs u 4, net.set 0 l, by omega, by omega, fun h => ?_⟩
    have hst := legs_set (xs := net) (k := 0) (by omega) l
    rw [Nat.zero_mul, List.take_zero, List.nil_append, Nat.zero_add] at hst
    have hlen := legs_len net
    have hlg : 1 ≤ (net.flatMap Leg.cs).length := by omega
    refine Meets.freeze (rows := [.row (rdC cs (u + 1)), .row ((net.set 0 l).flatMap Leg.cs)]) (d := .tup [.int .i64 (pickV cs u 4), .vec (h.length + 1) true 10 0 net.length net.length]) ?_ ((fw_tup _ _ _ _).2 ⟨fw_refl _ _ _, fw_legs (by omega) (by rw [ob_app]; rfl) (by rw [List.length_set]), trivial⟩) (.tup _ fun c hc => ?_)
    · refine meets_ofC [] mixed Tryz.func4 rfl (by kernel_rfl) (by kernel_rfl) (by rw [Tryz.ntmps4]; simp only [List.length_cons, List.length_nil]; omega) (fun hf hcl => ?_)
      rw [Tryz.results4]
      clear hf
      try simp -implicitDefEqProofs only [hz, hlen, lenMax, List.length_set, push_cast, Nat.reduceEqDiff, Nat.reduceBEq, Nat.reduceBNe, Nat.reduceAdd, Nat.reduceMul, Nat.reduceLT, Nat.reduceLeDiff, Nat.reduceSub, reduceCtorEq, Int.reduceToNat, ↓reduceIte]
      repeat'
        (first
         | (refine uYes ?_; first | exact List.mem_cons_self | (simp only [List.mem_cons, List.not_mem_nil, or_false, true_or, or_true]; done))
         | (refine uNo (by kernel_rfl))
         | (refine flatMk ?_; kernel_rfl)
         | (refine And.intro ?_ ?_)
         | (intro hx)
         | ((first
             | (refine callGF ?_)
             | (refine callQGF ?_)
             | (refine skipG ?_)
             | (refine callM (hO _) ?_)
             | (refine callM (dst := some 9) (hG _ _ (ob_app h _ 0) (by simp)) ?_)
             | (refine callM (dst := some 11) (pick_gives cs q _ _ _ (ob_app h _ 0) (by simp) (hR _ (by omega) (by omega))) ?_)
             | (refine callM (dst := some 15) (hS _ _ (ob_app h _ 0) (by simp)) ?_)
             | (refine callM (dst := some 18) (pick_gives cs u _ _ _ (ob_app h _ 0) (by simp) (hR _ (by omega) (by omega))) ?_)); simp -implicitDefEqProofs only [hz, hlen, lenMax, List.length_set, push_cast, Nat.reduceEqDiff, Nat.reduceBEq, Nat.reduceBNe, Nat.reduceAdd, Nat.reduceMul, Nat.reduceLT, Nat.reduceLeDiff, Nat.reduceSub, reduceCtorEq, Int.reduceToNat, ↓reduceIte]))
      all_goals first
        | omega
        | (rw [← hst]; rfl)
        | exact legs_cl (net.set 0 l) _ _ hx
        | (refine legs_cl (net.set 0 l) _ _ ?_
           rw [← hst]
           exact hx)
        | exact rdC_cl _ _ _ _ hx
        | trace_state
    · simp only [List.mem_cons, List.not_mem_nil, or_false] at hc
      rcases hc with rfl | rfl
      · exact .int _ _
      · exact .slice _ _ (fun _ _ e => nomatch e)
  · have hz' : decide (pickV cs q 6 = 0) = false := decide_eq_false hz
    have v4 := pickV_range (p := q + 1) (hR _ (by omega) (by omega)) 4 (by omega)
    refine ⟨pickV cs (q + 1) 4, net, by omega, by omega, fun h => ?_⟩
    refine Meets.freeze (rows := [.row (rdC cs (q + 1 + 1)), .row (net.flatMap Leg.cs)]) (d := .tup [.int .i64 (pickV cs (q + 1) 4), .vec (h.length + 1) true 10 0 net.length net.length]) ?_ ((fw_tup _ _ _ _).2 ⟨fw_refl _ _ _, fw_legs (by omega) (by rw [ob_app]; rfl) rfl, trivial⟩) (.tup _ fun c hc => ?_)
    · refine meets_ofC [] mixed Tryz.func4 rfl (by kernel_rfl) (by kernel_rfl) (by rw [Tryz.ntmps4]; simp only [List.length_cons, List.length_nil]; omega) (fun hf hcl => ?_)
      rw [Tryz.results4]
      clear hf
      try simp -implicitDefEqProofs only [hz', lenMax, List.length_set, push_cast, Nat.reduceEqDiff, Nat.reduceBEq, Nat.reduceBNe, Nat.reduceAdd, Nat.reduceMul, Nat.reduceLT, Nat.reduceLeDiff, Nat.reduceSub, reduceCtorEq, Int.reduceToNat, ↓reduceIte]
      repeat'
        (first
         | (refine uYes ?_; first | exact List.mem_cons_self | (simp only [List.mem_cons, List.not_mem_nil, or_false, true_or, or_true]; done))
         | (refine uNo (by kernel_rfl))
         | (refine flatMk ?_; kernel_rfl)
         | (refine And.intro ?_ ?_)
         | (intro hx)
         | ((first
             | (refine callGF ?_)
             | (refine callQGF ?_)
             | (refine skipG ?_)
             | (refine callM (hO _) ?_)
             | (refine callM (dst := some 9) (hG _ _ (ob_app h _ 0) (by simp)) ?_)
             | (refine callM (dst := some 11) (pick_gives cs q _ _ _ (ob_app h _ 0) (by simp) (hR _ (by omega) (by omega))) ?_)
             | (refine callM (dst := some 18) (pick_gives cs (q + 1) _ _ _ (ob_app h _ 0) (by simp) (hR _ (by omega) (by omega))) ?_)); simp -implicitDefEqProofs only [hz', lenMax, List.length_set, push_cast, Nat.reduceEqDiff, Nat.reduceBEq, Nat.reduceBNe, Nat.reduceAdd, Nat.reduceMul, Nat.reduceLT, Nat.reduceLeDiff, Nat.reduceSub, reduceCtorEq, Int.reduceToNat, ↓reduceIte]))
      all_goals first
        | omega
        | exact legs_cl net _ _ hx
        | exact rdC_cl _ _ _ _ hx
        | trace_state
    · simp only [List.mem_cons, List.not_mem_nil, or_false] at hc
      rcases hc with rfl | rfl
      · exact .int _ _
      · exact .slice _ _ (fun _ _ e => nomatch e)
theorem fnShardNew_gives (bs : List Int) (h : Hp) (hb : ∀ x, x ∈ bs → 0 ≤ x ∧ x ≤ 255) : Gives Tryz.prog 3 [.slice (bs.map (.int .u8)) .no] h (.bool true) := by
  obtain ⟨id, net, i0, i3, hD⟩ := drawShardNew_ex bs hb
  have hI := fun g => implShardNew_gives id net g
  have hS := fun g => specShardNew_gives id net g
  have h0L : (0 ≤ lenMax) = True := eq_true (Nat.zero_le _)
  rw [shV] at hI hS
  cases hs : shB id net with
  | true =>
    rw [hs] at hI hS
    simp only [if_true] at hI hS
    have h1 := fun g => shardOk_new id net g hs
    have h2 := fun g => shardTick_new id net g hs
    have h3 := fun g => wsShard_self id net true g
    have hid : decide (id = 0) = false := by
      rw [shB, inB, Bool.and_eq_true, Bool.and_eq_true, decide_eq_true_eq, decide_eq_true_eq] at hs
      exact decide_eq_false (by omega)
    simp only [shD] at hI hS h1 h2 h3
    refine meets_of [] mixed Tryz.func3 rfl (by kernel_rfl) (by kernel_rfl) (by rw [Tryz.ntmps3]; simp only [List.length_cons, List.length_nil]; omega) (fun hf => ?_)
    rw [Tryz.results3]
    clear hf
    try simp -implicitDefEqProofs only [hid, h0L, push_cast, Nat.reduceEqDiff, Nat.reduceBEq, Nat.reduceBNe, Nat.reduceAdd, Nat.reduceMul, Nat.reduceLT, Nat.reduceLeDiff, Nat.reduceSub, reduceCtorEq, Int.reduceToNat, ↓reduceIte]
    repeat'
      (first
       | (refine uYes ?_; first | exact List.mem_cons_self | (simp only [List.mem_cons, List.not_mem_nil, or_false, true_or, or_true]; done))
       | (refine uNo (by kernel_rfl))
       | (refine flatMk ?_; kernel_rfl)
       | (refine And.intro ?_ ?_)
       | (intro hx)
       | ((first
           | (refine callGF ?_)
           | (refine callQGF ?_)
           | (refine skipG ?_)
           | (refine callS (hD _) ?_)
           | (refine callQ (hD _) ?_)
           | (refine callG (fun hc => (hD _)) ?_)
           | (refine callQG (fun hc => (hD _)) ?_)
           | (refine callS (hI _) ?_)
           | (refine callQ (hI _) ?_)
           | (refine callG (fun hc => (hI _)) ?_)
           | (refine callQG (fun hc => (hI _)) ?_)
           | (refine callS (hS _) ?_)
           | (refine callQ (hS _) ?_)
           | (refine callG (fun hc => (hS _)) ?_)
           | (refine callQG (fun hc => (hS _)) ?_)
           | (refine callS (h3 _) ?_)
           | (refine callQ (h3 _) ?_)
           | (refine callG (fun hc => (h3 _)) ?_)
           | (refine callQG (fun hc => (h3 _)) ?_)
           | (refine callS (h1 _) ?_)
           | (refine callQ (h1 _) ?_)
           | (refine callG (fun hc => (h1 _)) ?_)
           | (refine callQG (fun hc => (h1 _)) ?_)
           | (refine callS (h2 _) ?_)
           | (refine callQ (h2 _) ?_)
           | (refine callG (fun hc => (h2 _)) ?_)
           | (refine callQG (fun hc => (h2 _)) ?_)
           | (refine callS (wsLegs_self net _) ?_)
           | (refine callQ (wsLegs_self net _) ?_)
           | (refine callG (fun hc => (wsLegs_self net _)) ?_)
           | (refine callQG (fun hc => (wsLegs_self net _)) ?_)); simp -implicitDefEqProofs only [hid, h0L, push_cast, Nat.reduceEqDiff, Nat.reduceBEq, Nat.reduceBNe, Nat.reduceAdd, Nat.reduceMul, Nat.reduceLT, Nat.reduceLeDiff, Nat.reduceSub, reduceCtorEq, Int.reduceToNat, ↓reduceIte]))
    all_goals first
      | omega
      | trace_state
  | false =>
    rw [hs] at hI hS
    simp only [Bool.false_eq_true, if_false] at hI hS
    have h1 := fun g => shardOk_no g
    have h3 := fun g => wsShard_self 0 [] false g
    simp only [shD, List.map_nil] at hI hS h1 h3
    refine meets_of [] mixed Tryz.func3 rfl (by kernel_rfl) (by kernel_rfl) (by rw [Tryz.ntmps3]; simp only [List.length_cons, List.length_nil]; omega) (fun hf => ?_)
    rw [Tryz.results3]
    clear hf
    try simp -implicitDefEqProofs only [push_cast, Nat.reduceEqDiff, Nat.reduceBEq, Nat.reduceBNe, Nat.reduceAdd, Nat.reduceMul, Nat.reduceLT, Nat.reduceLeDiff, Nat.reduceSub, reduceCtorEq, Int.reduceToNat, ↓reduceIte]
    repeat'
      (first
       | (refine uYes ?_; first | exact List.mem_cons_self | (simp only [List.mem_cons, List.not_mem_nil, or_false, true_or, or_true]; done))
       | (refine uNo (by kernel_rfl))
       | (refine flatMk ?_; kernel_rfl)
       | (refine And.intro ?_ ?_)
       | (intro hx)
       | ((first
           | (refine callGF ?_)
           | (refine callQGF ?_)
           | (refine skipG ?_)
           | (refine callS (hD _) ?_)
           | (refine callQ (hD _) ?_)
           | (refine callG (fun hc => (hD _)) ?_)
           | (refine callQG (fun hc => (hD _)) ?_)
           | (refine callS (hI _) ?_)
           | (refine callQ (hI _) ?_)
           | (refine callG (fun hc => (hI _)) ?_)
           | (refine callQG (fun hc => (hI _)) ?_)
           | (refine callS (hS _) ?_)
           | (refine callQ (hS _) ?_)
           | (refine callG (fun hc => (hS _)) ?_)
           | (refine callQG (fun hc => (hS _)) ?_)
           | (refine callS (h3 _) ?_)
           | (refine callQ (h3 _) ?_)
           | (refine callG (fun hc => (h3 _)) ?_)
           | (refine callQG (fun hc => (h3 _)) ?_)
           | (refine callS (h1 _) ?_)
           | (refine callQ (h1 _) ?_)
           | (refine callG (fun hc => (h1 _)) ?_)
           | (refine callQG (fun hc => (h1 _)) ?_)); simp -implicitDefEqProofs only [push_cast, Nat.reduceEqDiff, Nat.reduceBEq, Nat.reduceBNe, Nat.reduceAdd, Nat.reduceMul, Nat.reduceLT, Nat.reduceLeDiff, Nat.reduceSub, reduceCtorEq, Int.reduceToNat, ↓reduceIte]))
    all_goals first
      | omega
      | trace_state
end Go.Proofs.YthopahcgbbkblaaGreatDoor
