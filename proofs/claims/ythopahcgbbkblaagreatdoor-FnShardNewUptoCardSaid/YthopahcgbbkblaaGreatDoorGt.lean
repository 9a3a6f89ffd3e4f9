/- What a transaction needs of legs ('ops'): its data, compared, copied, measured, checked. -/
import Derived.Test.YthopahcgbbkblaaGreatDoorGe
import Derived.Test.YthopahcgbbkblaaGreatDoorGu
import Derived.Test.YthopahcgbbkblaaGreatDoorGf
import Derived.Test.YthopahcgbbkblaaGreatDoorGs

namespace Go.Proofs.YthopahcgbbkblaaGreatDoor
set_option linter.unusedSectionVars false
open Go.Av
variable [Av.Start]
set_option maxRecDepth 10000
set_option maxHeartbeats 1000000
set_option linter.unusedSimpArgs false
set_option linter.unusedVariables false

structure Opn where
  leg : List UInt8
  cls : Int
  seats : Int
  share : Int
instance : Inhabited Opn := ⟨⟨[], 0, 0, 0⟩⟩
def Opn.cs (o : Opn) : List D := [.str o.leg, .int .i64 o.cls, .int .i64 o.seats, .int .i64 o.share]
def Opn.d (o : Opn) : D := .agg o.cs
attribute [push_cast] Opn.cs Opn.d
theorem Opn.cl (n : Nat) (l : Opn) : ∀ d, d ∈ l.cs → Cl n d := by
  simp only [Opn.cs, List.mem_cons, List.not_mem_nil, or_false, forall_eq_or_imp, forall_eq, cl_int, cl_str, and_self]
theorem zOpn_cl (n : Nat) : ∀ d, d ∈ ([.str [], .int .i64 0, .int .i64 0, .int .i64 0] : List D) → Cl n d := by
  simp only [List.mem_cons, List.not_mem_nil, or_false, forall_eq_or_imp, forall_eq, cl_int, cl_str, and_self]
theorem op_at {xs : List Opn} {k : Nat} (h : k < xs.length) : (xs.map Opn.d).getD k (.agg [.str [], .int .i64 0, .int .i64 0, .int .i64 0]) = .agg (xs.getD k default).cs := getD_at default h
theorem allSz_ops (xs : List Opn) : AllSz 4 (xs.map Opn.d) ↔ True := allSz_map 4 _ xs (fun _ => rfl)
attribute [push_cast] allSz_ops
def eqOpB (a b : Opn) : Bool := decide (a.leg = b.leg) && decide (a.cls = b.cls) && decide (a.seats = b.seats) && decide (a.share = b.share)
theorem eqOpB_self (a : Opn) : eqOpB a a = true := by simp [eqOpB]
def szO (n : Int) (l : Opn) : Int := szGo n [l.leg.length]
def szOs : Int → List Opn → Int
  | n, [] => n
  | n, l :: ls => if szO n l < 0 then -1 else szOs (szO n l) ls
theorem szOs_drop (n : Int) {net : List Opn} {k : Nat} (h : k < net.length) : szOs n (net.drop k) = if szO n (net.getD k default) < 0 then -1 else szOs (szO n (net.getD k default)) (net.drop (k + 1)) := by
  rw [List.drop_eq_getElem_cons h, szOs, List.getD_eq_getElem?_getD, List.getElem?_eq_getElem h]
  rfl
/-- an op that is ok but for its leg -/
def opAtB (xs : List Opn) (i : Nat) : Bool := inB (xs.getD i default).cls 0 2 && inB (xs.getD i default).seats (-4) 4 && !decide ((xs.getD i default).seats = 0) && inB (xs.getD i default).share 0 1000000000000
def opNames (xs : List Opn) : List (List UInt8) := xs.map Opn.leg
def opsB (xs : List Opn) : Bool := inB xs.length 1 3 && allB xs.length (opAtB xs) && allB (opNames xs).length (unlikeAt (opNames xs))
theorem opNames_len (xs : List Opn) : (opNames xs).length = xs.length := List.length_map _
theorem opNames_get {xs : List Opn} {k : Nat} (h : k < xs.length) : (opNames xs).getD k [] = (xs.getD k default).leg := by
  rw [opNames, List.getD_eq_getElem?_getD, List.getElem?_map, List.getD_eq_getElem?_getD, List.getElem?_eq_getElem h]
  rfl
end Go.Proofs.YthopahcgbbkblaaGreatDoor

namespace Go.Proofs.YthopahcgbbkblaaGreatDoor
open Go.Av
set_option maxRecDepth 10000
set_option linter.unusedVariables false

abbrev ROp : List D → Prop := RCat [RStr, RInt .i64, RInt .i64, RInt .i64]
structure Opn.rng (o : Opn) : Prop where
  cls : inI o.cls
  seats : inI o.seats
  share : inI o.share
theorem op_of {ds : List D} (h : ROp ds) : ∃ o : Opn, o.rng ∧ ds = o.cs := by
  obtain ⟨_, _, ⟨a, rfl⟩, ⟨_, _, h2, ⟨_, _, h3, ⟨_, _, h4, rfl, rfl⟩, rfl⟩, rfl⟩, rfl⟩ := h
  obtain ⟨x2, r2, rfl⟩ := rInt_of h2
  obtain ⟨x3, r3, rfl⟩ := rInt_of h3
  obtain ⟨x4, r4, rfl⟩ := rInt_of h4
  exact ⟨⟨a, x2, x3, x4⟩, ⟨r2, r3, r4⟩, rfl⟩
def isOps (d : D) : Prop := ∃ xs : List Opn, ((∀ o, o ∈ xs → o.rng) ∧ xs.length ≤ lenMax) ∧ d = .slice (xs.map Opn.d) .no
end Go.Proofs.YthopahcgbbkblaaGreatDoor

/- Ops as a text, on both sides. -/
namespace Go.Proofs.YthopahcgbbkblaaGreatDoor
set_option linter.unusedSectionVars false
open Go.Av
variable [Av.Start] [TabPow]
set_option maxRecDepth 10000
set_option maxHeartbeats 1000000
set_option linter.unusedSimpArgs false
set_option linter.unusedVariables false

omit [TabPow] in
theorem implOps_gives (xs : List Opn) (h : Hp) : Gives Tryz.prog 117 [.slice (xs.map Opn.d) .no] h (.bool (opsB xs)) := by
  have hU : ∀ g, Gives Tryz.prog 142 [.slice ((xs.map Opn.leg).map .str) (.buf h.length 1)] g (.bool (allB (opNames xs).length (unlikeAt (opNames xs)))) := fun g => gives_wk' (unlike_gives (opNames xs) g) ⟨.tok _ _, trivial⟩
  refine meets_of [] mixed Tryz.func117 rfl (by kernel_rfl) (by kernel_rfl) (by rw [Tryz.ntmps117]; simp only [List.length_cons, List.length_nil]; omega) (fun hf => ?_)
  rw [Tryz.results117]
  have hl : xs.length ≤ 1073741824 := by simpa using slice_fit (hf (.slice (xs.map Opn.d) .no) (by simp))
  clear hf
  simp -implicitDefEqProofs only [push_cast, Nat.reduceEqDiff, Nat.reduceBEq, Nat.reduceBNe, Nat.reduceAdd, Nat.reduceMul, Nat.reduceLT, Nat.reduceLeDiff, Nat.reduceSub, reduceCtorEq, Int.reduceToNat, ↓reduceIte]
  refine ev_loopB [(3, 1)] (fun k : Nat => [(0, .slice (xs.map Opn.d) .no), (3, .slice (((xs.take k).map Opn.leg).map .str) (.buf h.length 1)), (6, .slice (xs.map Opn.d) .no), (7, .int .i64 xs.length), (8, .int .i64 k)])
    (fun k => [.buf k]) (fun k => k ≤ xs.length ∧ ∀ i, i < k → opAtB xs i = true) (fun k => xs.length - k) 0 ?_ ⟨Nat.zero_le _, fun i hi => absurd hi (Nat.not_lt_zero i)⟩ ?_ ?_
  · simp -implicitDefEqProofs only [tokOk, Int.natCast_add, Int.cast_ofNat_Int, List.length_nil, Nat.le_refl, WeakTo, tokSts, tokOks, List.append_cancel_left_eq, exists_eq_left', exists_eq_left, List.append_cancel_left_eq, List.take_length, ObCl, and_true, true_and, push_cast, Nat.reduceEqDiff, Nat.reduceBEq, Nat.reduceBNe, Nat.reduceAdd, Nat.reduceMul, Nat.reduceLT, Nat.reduceLeDiff, Nat.reduceSub, reduceCtorEq, Int.reduceToNat, ↓reduceIte]
  · refine ⟨1, by simp, by simp -implicitDefEqProofs only [tokSt, Int.natCast_add, Int.cast_ofNat_Int, List.length_nil, Nat.le_refl, WeakTo, tokSts, tokOks, List.append_cancel_left_eq, exists_eq_left', exists_eq_left, List.append_cancel_left_eq, List.take_length, ObCl, and_true, true_and, push_cast, Nat.reduceEqDiff, Nat.reduceBEq, Nat.reduceBNe, Nat.reduceAdd, Nat.reduceMul, Nat.reduceLT, Nat.reduceLeDiff, Nat.reduceSub, reduceCtorEq, Int.reduceToNat, ↓reduceIte], ?_⟩
    simp -implicitDefEqProofs only [tokSt, Int.natCast_add, Int.cast_ofNat_Int, List.length_nil, Nat.le_refl, WeakTo, tokSts, tokOks, List.append_cancel_left_eq, exists_eq_left', exists_eq_left, List.append_cancel_left_eq, List.take_length, ObCl, and_true, true_and, push_cast, Nat.reduceEqDiff, Nat.reduceBEq, Nat.reduceBNe, Nat.reduceAdd, Nat.reduceMul, Nat.reduceLT, Nat.reduceLeDiff, Nat.reduceSub, reduceCtorEq, Int.reduceToNat, ↓reduceIte]
  · intro k hk
    have hw : IntKind.i64.wrap ((k : Int) + 1) = k + 1 := wrap_id (by omega) (by omega)
    rcases Nat.lt_or_ge k xs.length with hlt | hge
    · have hL := op_at hlt
      have ht : xs.take (k + 1) = xs.take k ++ [xs.getD k default] := take_succ_getD xs default hlt
      have hf1 : opAtB xs k = false → opsB xs = false := fun e => by rw [opsB, allB_f k hlt e]; simp
      have ho : opAtB xs k = (inB (xs.getD k default).cls 0 2 && inB (xs.getD k default).seats (-4) 4 && !decide ((xs.getD k default).seats = 0) && inB (xs.getD k default).share 0 1000000000000) := rfl
      generalize xs.getD k default = o at hL ht ho
      have hmin : min k xs.length = k := by omega
      try simp -implicitDefEqProofs only [hw, hL, lenMax, hmin, push_cast, Nat.reduceEqDiff, Nat.reduceBEq, Nat.reduceBNe, Nat.reduceAdd, Nat.reduceMul, Nat.reduceLT, Nat.reduceLeDiff, Nat.reduceSub, reduceCtorEq, Int.reduceToNat, ↓reduceIte]
      repeat'
        (first
         | (refine uYes ?_; first | exact List.mem_cons_self | (simp only [List.mem_cons, List.not_mem_nil, or_false, true_or, or_true]; done))
         | (refine uNo (by kernel_rfl))
         | (refine flatMk ?_; kernel_rfl)
         | (refine And.intro ?_ ?_)
         | (intro hx)
         | ((first
             | (refine callGF ?_)
             | (refine callQGF ?_)
             | (refine skipG ?_)
             | (refine callS (isClass_gives _ _) ?_)
             | (refine callQ (isClass_gives _ _) ?_)
             | (refine callG (fun hc => (isClass_gives _ _)) ?_)
             | (refine callQG (fun hc => (isClass_gives _ _)) ?_)
             | (refine callS (in_gives _ _ _ _) ?_)
             | (refine callQ (in_gives _ _ _ _) ?_)
             | (refine callG (fun hc => (in_gives _ _ _ _)) ?_)
             | (refine callQG (fun hc => (in_gives _ _ _ _)) ?_)); simp -implicitDefEqProofs only [hw, hL, lenMax, hmin, push_cast, Nat.reduceEqDiff, Nat.reduceBEq, Nat.reduceBNe, Nat.reduceAdd, Nat.reduceMul, Nat.reduceLT, Nat.reduceLeDiff, Nat.reduceSub, reduceCtorEq, Int.reduceToNat, ↓reduceIte]))
      all_goals first
        | omega
        | exact (hf1 (by rw [ho]; grind)).symm
        | (refine round_mk (k + 1) ⟨by omega, allB_step hk.2 (by rw [ho]; grind)⟩ (by omega) ?_
           simp -implicitDefEqProofs only [ht, List.map_append, hw, hmin, Int.natCast_add, Int.cast_ofNat_Int, List.length_nil, Nat.le_refl, WeakTo, tokSts, tokOks, List.append_cancel_left_eq, exists_eq_left', exists_eq_left, List.append_cancel_left_eq, List.take_length, ObCl, and_true, true_and, push_cast, Nat.reduceEqDiff, Nat.reduceBEq, Nat.reduceBNe, Nat.reduceAdd, Nat.reduceMul, Nat.reduceLT, Nat.reduceLeDiff, Nat.reduceSub, reduceCtorEq, Int.reduceToNat, ↓reduceIte])
        | trace_state
    · obtain rfl : k = xs.length := by omega
      have h1 := hk.2
      try simp -implicitDefEqProofs only [hw, List.take_length, push_cast, Nat.reduceEqDiff, Nat.reduceBEq, Nat.reduceBNe, Nat.reduceAdd, Nat.reduceMul, Nat.reduceLT, Nat.reduceLeDiff, Nat.reduceSub, reduceCtorEq, Int.reduceToNat, ↓reduceIte]
      repeat'
        (first
         | (refine uYes ?_; first | exact List.mem_cons_self | (simp only [List.mem_cons, List.not_mem_nil, or_false, true_or, or_true]; done))
         | (refine uNo (by kernel_rfl))
         | (refine flatMk ?_; kernel_rfl)
         | (refine And.intro ?_ ?_)
         | (intro hx)
         | ((first
             | (refine callGF ?_)
             | (refine callQGF ?_)
             | (refine skipG ?_)
             | (refine callS (in_gives _ _ _ _) ?_)
             | (refine callQ (in_gives _ _ _ _) ?_)
             | (refine callG (fun hc => (in_gives _ _ _ _)) ?_)
             | (refine callQG (fun hc => (in_gives _ _ _ _)) ?_)
             | (refine callS (hU _) ?_)
             | (refine callQ (hU _) ?_)
             | (refine callG (fun hc => (hU _)) ?_)
             | (refine callQG (fun hc => (hU _)) ?_)); simp -implicitDefEqProofs only [hw, List.take_length, push_cast, Nat.reduceEqDiff, Nat.reduceBEq, Nat.reduceBNe, Nat.reduceAdd, Nat.reduceMul, Nat.reduceLT, Nat.reduceLeDiff, Nat.reduceSub, reduceCtorEq, Int.reduceToNat, ↓reduceIte]))
      all_goals first
        | omega
        | (simp only [opsB, allB_t h1]
           grind)
        | trace_state
/-- an op as a text -/
def opT (o : Opn) : List UInt8 := o.leg ++ 58 :: (Lib.itoa o.cls ++ 58 :: (Lib.itoa o.seats ++ 58 :: Lib.itoa o.share))
def opsT (xs : List Opn) : List UInt8 := joinC 44 (xs.map opT)
structure Opn.Small (o : Opn) : Prop where
  leg : o.leg.length ≤ 8
  cls : inI o.cls
  seats : inI o.seats
  share : inI o.share
omit [TabPow] in
theorem Opn.Small.len {o : Opn} (h : o.Small) : (opT o).length ≤ 80 := by
  have h1 := Lib.itoa_length_le _ h.cls.1 h.cls.2
  have h2 := Lib.itoa_length_le _ h.seats.1 h.seats.2
  have h3 := Lib.itoa_length_le _ h.share.1 h.share.2
  have h4 := h.leg
  simp only [opT, List.length_append, List.length_cons]
  omega
omit [TabPow] in
theorem opsT_len : ∀ (xs : List Opn), (∀ x, x ∈ xs → x.Small) → (opsT xs).length ≤ 81 * xs.length
  | [], _ => Nat.le_refl _
  | [x], h => by
    have := (h x (by simp)).len
    show (opT x).length ≤ _
    simp only [List.length_cons, List.length_nil]
    omega
  | x :: y :: ys, h => by
    have h1 := (h x (by simp)).len
    have h2 := opsT_len (y :: ys) (fun z hz => h z (List.mem_cons_of_mem _ hz))
    have e : opsT (x :: y :: ys) = opT x ++ 44 :: opsT (y :: ys) := rfl
    rw [e, List.length_append, List.length_cons]
    simp only [List.length_cons] at h2 ⊢
    omega
omit [TabPow] in
theorem opsT_snoc (xs : List Opn) (n : Opn) (h : xs ≠ []) : opsT (xs ++ [n]) = opsT xs ++ 44 :: opT n := by
  induction xs with
  | nil => exact absurd rfl h
  | cons x xs ih =>
    cases xs with
    | nil => rfl
    | cons y ys =>
      have := ih (by simp)
      simp only [opsT, List.map_cons, List.cons_append, joinC] at this ⊢
      rw [this, List.append_assoc]
      rfl
omit [TabPow] in
theorem ops_small {xs : List Opn} (hb : opsB xs = true) : xs.length ≤ 3 ∧ ∀ x, x ∈ xs → x.Small := by
  simp only [opsB, Bool.and_eq_true] at hb
  obtain ⟨⟨h1, h2⟩, h3⟩ := hb
  have hl := inB_iff.1 h1
  rw [allB_iff] at h2 h3
  refine ⟨by omega, (all_getD (d := default)).1 fun i hi => ?_⟩
  have a := h2 i hi
  have b := h3 i (by rw [opNames_len]; exact hi)
  rw [unlikeAt, opNames_get hi, Bool.and_eq_true] at b
  simp only [opAtB, Bool.and_eq_true] at a
  obtain ⟨⟨⟨a1, a2⟩, a3⟩, a4⟩ := a
  have a1 := inB_iff.1 a1
  have a2 := inB_iff.1 a2
  have a4 := inB_iff.1 a4
  exact ⟨(nameB_len b.1).2, ⟨by omega, by omega⟩, ⟨by omega, by omega⟩, ⟨by omega, by omega⟩⟩
theorem implOpsWrite_gives (xs : List Opn) (h : Hp) : Gives Tryz.prog 99 [.slice (xs.map Opn.d) .no] h (.str (if opsB xs = true then opsT xs else [])) := by
  cases hb : opsB xs with
  | false =>
    refine meets_of [] mixed Tryz.func99 rfl (by kernel_rfl) (by kernel_rfl) (by rw [Tryz.ntmps99]; simp only [List.length_cons, List.length_nil]; omega) (fun hf => ?_)
    rw [Tryz.results99]
    clear hf
    try simp -implicitDefEqProofs only [hb, lenMax, push_cast, Nat.reduceEqDiff, Nat.reduceBEq, Nat.reduceBNe, Nat.reduceAdd, Nat.reduceMul, Nat.reduceLT, Nat.reduceLeDiff, Nat.reduceSub, reduceCtorEq, Int.reduceToNat, ↓reduceIte]
    repeat'
      (first
       | (refine uYes ?_; first | exact List.mem_cons_self | (simp only [List.mem_cons, List.not_mem_nil, or_false, true_or, or_true]; done))
       | (refine uNo (by kernel_rfl))
       | (refine flatMk ?_; kernel_rfl)
       | (refine And.intro ?_ ?_)
       | (intro hx)
       | ((first
           | (refine callGF ?_)
           | (refine callQGF ?_)
           | (refine skipG ?_)
           | (refine callS (implOps_gives _ _) ?_)
           | (refine callQ (implOps_gives _ _) ?_)
           | (refine callG (fun hc => (implOps_gives _ _)) ?_)
           | (refine callQG (fun hc => (implOps_gives _ _)) ?_)); simp -implicitDefEqProofs only [hb, lenMax, push_cast, Nat.reduceEqDiff, Nat.reduceBEq, Nat.reduceBNe, Nat.reduceAdd, Nat.reduceMul, Nat.reduceLT, Nat.reduceLeDiff, Nat.reduceSub, reduceCtorEq, Int.reduceToNat, ↓reduceIte]))
    all_goals first
      | rfl
      | trace_state
  | true =>
    obtain ⟨hn, hs⟩ := ops_small hb
    have hj : Lib.join (xs.map opT) [44] = opsT xs := lib_join 44 _
    have hjl := opsT_len xs hs
    have hJ := fun g => gives_wk' (ys := [.slice ((xs.map opT).map .str) (.buf h.length 1), .str [44]]) (join_gives (xs.map opT) [44] g (by rw [hj]; omega)) ⟨.tok _ _, .refl _, trivial⟩
    rw [hj] at hJ
    refine meets_of [] mixed Tryz.func99 rfl (by kernel_rfl) (by kernel_rfl) (by rw [Tryz.ntmps99]; simp only [List.length_cons, List.length_nil]; omega) (fun hf => ?_)
    rw [Tryz.results99]
    clear hf
    try simp -implicitDefEqProofs only [hb, lenMax, push_cast, Nat.reduceEqDiff, Nat.reduceBEq, Nat.reduceBNe, Nat.reduceAdd, Nat.reduceMul, Nat.reduceLT, Nat.reduceLeDiff, Nat.reduceSub, reduceCtorEq, Int.reduceToNat, ↓reduceIte]
    repeat'
      (first
       | (refine uYes ?_; first | exact List.mem_cons_self | (simp only [List.mem_cons, List.not_mem_nil, or_false, true_or, or_true]; done))
       | (refine uNo (by kernel_rfl))
       | (refine flatMk ?_; kernel_rfl)
       | (refine And.intro ?_ ?_)
       | (intro hx)
       | ((first
           | (refine callGF ?_)
           | (refine callQGF ?_)
           | (refine skipG ?_)
           | (refine callS (implOps_gives _ _) ?_)
           | (refine callQ (implOps_gives _ _) ?_)
           | (refine callG (fun hc => (implOps_gives _ _)) ?_)
           | (refine callQG (fun hc => (implOps_gives _ _)) ?_)); simp -implicitDefEqProofs only [hb, lenMax, push_cast, Nat.reduceEqDiff, Nat.reduceBEq, Nat.reduceBNe, Nat.reduceAdd, Nat.reduceMul, Nat.reduceLT, Nat.reduceLeDiff, Nat.reduceSub, reduceCtorEq, Int.reduceToNat, ↓reduceIte]))
    refine ev_loopB [(3, 1)] (fun k : Nat => [(3, .slice (((xs.take k).map opT).map .str) (.buf h.length 1)), (9, .slice (xs.map Opn.d) .no), (10, .int .i64 xs.length), (11, .int .i64 k)])
      (fun k => [.buf k]) (fun k => k ≤ xs.length) (fun k => xs.length - k) 0 ?_ (Nat.zero_le _) ?_ ?_
    · simp -implicitDefEqProofs only [tokOk, Int.natCast_add, Int.cast_ofNat_Int, List.length_nil, Nat.le_refl, WeakTo, tokSts, tokOks, List.append_cancel_left_eq, exists_eq_left', exists_eq_left, List.append_cancel_left_eq, List.take_length, ObCl, and_true, true_and, push_cast, Nat.reduceEqDiff, Nat.reduceBEq, Nat.reduceBNe, Nat.reduceAdd, Nat.reduceMul, Nat.reduceLT, Nat.reduceLeDiff, Nat.reduceSub, reduceCtorEq, Int.reduceToNat, ↓reduceIte]
    · refine ⟨1, by simp, by simp -implicitDefEqProofs only [tokSt, Int.natCast_add, Int.cast_ofNat_Int, List.length_nil, Nat.le_refl, WeakTo, tokSts, tokOks, List.append_cancel_left_eq, exists_eq_left', exists_eq_left, List.append_cancel_left_eq, List.take_length, ObCl, and_true, true_and, push_cast, Nat.reduceEqDiff, Nat.reduceBEq, Nat.reduceBNe, Nat.reduceAdd, Nat.reduceMul, Nat.reduceLT, Nat.reduceLeDiff, Nat.reduceSub, reduceCtorEq, Int.reduceToNat, ↓reduceIte], ?_⟩
      simp -implicitDefEqProofs only [tokSt, Int.natCast_add, Int.cast_ofNat_Int, List.length_nil, Nat.le_refl, WeakTo, tokSts, tokOks, List.append_cancel_left_eq, exists_eq_left', exists_eq_left, List.append_cancel_left_eq, List.take_length, ObCl, and_true, true_and, push_cast, Nat.reduceEqDiff, Nat.reduceBEq, Nat.reduceBNe, Nat.reduceAdd, Nat.reduceMul, Nat.reduceLT, Nat.reduceLeDiff, Nat.reduceSub, reduceCtorEq, Int.reduceToNat, ↓reduceIte]
    · intro k hk
      have hw : IntKind.i64.wrap ((k : Int) + 1) = k + 1 := wrap_id (by omega) (by omega)
      have hmin : min k xs.length = k := by omega
      rcases Nat.lt_or_ge k xs.length with hlt | hge
      · have hL := op_at hlt
        have ht : xs.take (k + 1) = xs.take k ++ [xs.getD k default] := take_succ_getD xs default hlt
        have ho := (all_getD (d := default)).2 hs k hlt
        generalize xs.getD k default = o at hL ht ho
        have h1 := Lib.itoa_length_le _ ho.cls.1 ho.cls.2
        have h2 := Lib.itoa_length_le _ ho.seats.1 ho.seats.2
        have h3 := Lib.itoa_length_le _ ho.share.1 ho.share.2
        have h4 := ho.leg
        try simp -implicitDefEqProofs only [hw, hL, lenMax, hmin, push_cast, Nat.reduceEqDiff, Nat.reduceBEq, Nat.reduceBNe, Nat.reduceAdd, Nat.reduceMul, Nat.reduceLT, Nat.reduceLeDiff, Nat.reduceSub, reduceCtorEq, Int.reduceToNat, ↓reduceIte]
        repeat'
          (first
           | (refine uYes ?_; first | exact List.mem_cons_self | (simp only [List.mem_cons, List.not_mem_nil, or_false, true_or, or_true]; done))
           | (refine uNo (by kernel_rfl))
           | (refine flatMk ?_; kernel_rfl)
           | (refine And.intro ?_ ?_)
           | (intro hx)
           | ((first
               | (refine callGF ?_)
               | (refine callQGF ?_)
               | (refine skipG ?_)
               | (refine inX_mk [h.length] (by kernel_rfl) (by simp) ?_)
               | (refine callXG (fun _ => itoa_gives o.cls _ ho.cls.1 ho.cls.2) ?_)
               | (refine callXG (fun _ => itoa_gives o.seats _ ho.seats.1 ho.seats.2) ?_)
               | (refine callXG (fun _ => itoa_gives o.share _ ho.share.1 ho.share.2) ?_)); simp -implicitDefEqProofs only [hw, hL, lenMax, hmin, push_cast, Nat.reduceEqDiff, Nat.reduceBEq, Nat.reduceBNe, Nat.reduceAdd, Nat.reduceMul, Nat.reduceLT, Nat.reduceLeDiff, Nat.reduceSub, reduceCtorEq, Int.reduceToNat, ↓reduceIte]))
        all_goals first
          | omega
          | (refine round_mk (k + 1) (by omega) (by omega) ?_
             simp -implicitDefEqProofs only [ht, opT, List.map_append, hw, hmin, Int.natCast_add, Int.cast_ofNat_Int, List.length_nil, Nat.le_refl, WeakTo, tokSts, tokOks, List.append_cancel_left_eq, exists_eq_left', exists_eq_left, List.append_cancel_left_eq, List.take_length, ObCl, and_true, true_and, push_cast, Nat.reduceEqDiff, Nat.reduceBEq, Nat.reduceBNe, Nat.reduceAdd, Nat.reduceMul, Nat.reduceLT, Nat.reduceLeDiff, Nat.reduceSub, reduceCtorEq, Int.reduceToNat, ↓reduceIte])
          | trace_state
      · obtain rfl : k = xs.length := by omega
        try simp -implicitDefEqProofs only [hw, lenMax, List.take_length, push_cast, Nat.reduceEqDiff, Nat.reduceBEq, Nat.reduceBNe, Nat.reduceAdd, Nat.reduceMul, Nat.reduceLT, Nat.reduceLeDiff, Nat.reduceSub, reduceCtorEq, Int.reduceToNat, ↓reduceIte]
        repeat'
          (first
           | (refine uYes ?_; first | exact List.mem_cons_self | (simp only [List.mem_cons, List.not_mem_nil, or_false, true_or, or_true]; done))
           | (refine uNo (by kernel_rfl))
           | (refine flatMk ?_; kernel_rfl)
           | (refine And.intro ?_ ?_)
           | (intro hx)
           | ((first
               | (refine callGF ?_)
               | (refine callQGF ?_)
               | (refine skipG ?_)
               | (refine callS (hJ _) ?_)
               | (refine callQ (hJ _) ?_)
               | (refine callG (fun hc => (hJ _)) ?_)
               | (refine callQG (fun hc => (hJ _)) ?_)); simp -implicitDefEqProofs only [hw, lenMax, List.take_length, push_cast, Nat.reduceEqDiff, Nat.reduceBEq, Nat.reduceBNe, Nat.reduceAdd, Nat.reduceMul, Nat.reduceLT, Nat.reduceLeDiff, Nat.reduceSub, reduceCtorEq, Int.reduceToNat, ↓reduceIte]))
        all_goals first
          | omega
          | trace_state
end Go.Proofs.YthopahcgbbkblaaGreatDoor
