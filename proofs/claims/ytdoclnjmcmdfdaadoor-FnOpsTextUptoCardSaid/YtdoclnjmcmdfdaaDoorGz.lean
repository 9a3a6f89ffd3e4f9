/- Ops as a text, read on both sides: what they read, and where they agree. Plain law. -/
import Derived.Test.YtdoclnjmcmdfdaaDoorGy
import Derived.Test.YtdoclnjmcmdfdaaDoorGt
import Derived.Test.YtdoclnjmcmdfdaaDoorGk

namespace Go.Proofs.YtdoclnjmcmdfdaaDoor
set_option linter.unusedSectionVars false
open Go.Av
variable [Av.Start]
set_option maxRecDepth 10000
set_option maxHeartbeats 1000000
set_option linter.unusedSimpArgs false
set_option linter.unusedVariables false
set_option linter.unusedSectionVars false

def partS (w : List UInt8) : Opn := ⟨(splitC 58 w).getD 0 [], num12 ((splitC 58 w).getD 1 []), (intV ((splitC 58 w).getD 2 [])).1, num12 ((splitC 58 w).getD 3 [])⟩
def partI (w : List UInt8) : Opn := ⟨(splitC 58 w).getD 0 [], (numV ((splitC 58 w).getD 1 [])).1, (numV ((splitC 58 w).getD 2 [])).1, (numV ((splitC 58 w).getD 3 [])).1⟩
def okP (w : List UInt8) : Bool := decide ((splitC 58 w).length = 4)
def okI (w : List UInt8) : Bool := okP w && ((numV ((splitC 58 w).getD 1 [])).2 && (numV ((splitC 58 w).getD 2 [])).2 && (numV ((splitC 58 w).getD 3 [])).2)
def opsOut (xs : List Opn) (s : List UInt8) : List Opn × Bool := if (if opsB xs = true then opsT xs else []) = s then (xs, true) else ([], false)
def opsVI (s : List UInt8) : List Opn × Bool := if (splitC 44 s).all okI = true then opsOut ((splitC 44 s).map partI) s else ([], false)
def opsVS (s : List UInt8) : List Opn × Bool := if ((splitC 44 s).take 4).all okP = true ∧ s ≠ [] then opsOut (((splitC 44 s).take 4).map partS) s else ([], false)
theorem itoa_no {n : Int} {c : UInt8} (h : c = 44 ∨ c = 58) : c ∉ Lib.itoa n := fun hm => by
  rcases itoa_mem hm with h1 | h1
  · rw [isDg, decide_eq_true_eq] at h1
    rcases h with rfl | rfl
    · exact absurd h1 (by decide)
    · exact absurd h1 (by decide)
  · rcases h with rfl | rfl <;> exact absurd h1 (by decide)
theorem name_no {s : List UInt8} {c : UInt8} (hn : nameB s = true) (h : c = 44 ∨ c = 58) : c ∉ s := fun hm => by
  rw [nameB, Bool.and_eq_true, allB_iff] at hn
  obtain ⟨i, hi, rfl⟩ := List.getElem_of_mem hm
  have := inB_iff.1 (hn.1 i hi)
  rw [List.getD_eq_getElem?_getD, List.getElem?_eq_getElem hi] at this
  simp only [Option.getD_some] at this
  rcases h with h | h <;> rw [h] at this <;> exact absurd this (by decide)
theorem ops_mem {xs : List Opn} (hb : opsB xs = true) : 1 ≤ xs.length ∧ xs.length ≤ 3 ∧ ∀ x, x ∈ xs → nameB x.leg = true ∧ (0 ≤ x.cls ∧ x.cls ≤ 2) ∧ (-4 ≤ x.seats ∧ x.seats ≤ 4) ∧ 0 ≤ x.share ∧ x.share ≤ 1000000000000 := by
  simp only [opsB, Bool.and_eq_true] at hb
  obtain ⟨⟨h1, h2⟩, h3⟩ := hb
  have hl := inB_iff.1 h1
  rw [allB_iff] at h2 h3
  refine ⟨by omega, by omega, (all_getD (d := default)).1 fun i hi => ?_⟩
  have a := h2 i hi
  have b := h3 i (by rw [opNames_len]; exact hi)
  rw [unlikeAt, opNames_get hi, Bool.and_eq_true] at b
  simp only [opAtB, Bool.and_eq_true] at a
  obtain ⟨⟨⟨a1, a2⟩, a3⟩, a4⟩ := a
  have a1 := inB_iff.1 a1
  have a2 := inB_iff.1 a2
  have a4 := inB_iff.1 a4
  exact ⟨b.1, by omega, by omega, by omega, by omega⟩
theorem opT_no {x : Opn} (hn : nameB x.leg = true) : (44 : UInt8) ∉ opT x := by
  simp only [opT, List.mem_append, List.mem_cons, not_or]
  exact ⟨name_no hn (.inl rfl), by decide, itoa_no (.inl rfl), by decide, itoa_no (.inl rfl), by decide, itoa_no (.inl rfl)⟩
theorem opT_split {x : Opn} (hn : nameB x.leg = true) : splitC 58 (opT x) = [x.leg, Lib.itoa x.cls, Lib.itoa x.seats, Lib.itoa x.share] := by
  rw [opT, splitC_app _ (name_no hn (.inr rfl)), splitC_app _ (itoa_no (.inr rfl)), splitC_app _ (itoa_no (.inr rfl)), splitC_none (itoa_no (.inr rfl))]
theorem opsT_split {xs : List Opn} (hb : opsB xs = true) : splitC 44 (opsT xs) = xs.map opT := by
  obtain ⟨h1, _, h2⟩ := ops_mem hb
  refine split_join 44 _ (fun e => ?_) fun w hw => ?_
  · rw [List.map_eq_nil_iff] at e
    rw [e] at h1
    cases h1
  · obtain ⟨x, hx, rfl⟩ := List.mem_map.1 hw
    exact opT_no (h2 x hx).1
theorem intV_itoa {n : Int} (h0 : -4 ≤ n) (h1 : n ≤ 4) : (intV (Lib.itoa n)).1 = n := by
  have : n = -4 ∨ n = -3 ∨ n = -2 ∨ n = -1 ∨ n = 0 ∨ n = 1 ∨ n = 2 ∨ n = 3 ∨ n = 4 := by omega
  rcases this with rfl | rfl | rfl | rfl | rfl | rfl | rfl | rfl | rfl <;> simp [intV, Lib.itoa, dec_small, num12, valD, stepD, isDg]
theorem partI_opT {x : Opn} (hn : nameB x.leg = true) (h1 : 0 ≤ x.cls ∧ x.cls ≤ 2) (h2 : -4 ≤ x.seats ∧ x.seats ≤ 4) (h3 : 0 ≤ x.share ∧ x.share ≤ 1000000000000) : partI (opT x) = x ∧ okI (opT x) = true := by
  have e1 := numV_itoa (n := x.cls) (by omega) (by omega)
  have e2 := numV_itoa (n := x.seats) (by omega) (by omega)
  have e3 := numV_itoa (n := x.share) (by omega) (by omega)
  rw [partI, okI, okP, opT_split hn]
  simp only [List.getD_cons_zero, List.getD_cons_succ, e1, e2, e3]
  exact ⟨trivial, rfl⟩
theorem partS_opT {x : Opn} (hn : nameB x.leg = true) (h1 : 0 ≤ x.cls ∧ x.cls ≤ 2) (h2 : -4 ≤ x.seats ∧ x.seats ≤ 4) (h3 : 0 ≤ x.share ∧ x.share < 1000000000000) : partS (opT x) = x ∧ okP (opT x) = true := by
  have e1 := num12_itoa (n := x.cls) (by omega) (by omega)
  have e2 := intV_itoa h2.1 h2.2
  have e3 := num12_itoa (n := x.share) (by omega) (by omega)
  rw [partS, okP, opT_split hn]
  simp only [List.getD_cons_zero, List.getD_cons_succ, e1, e2, e3]
  exact ⟨trivial, rfl⟩
theorem opsT_ne {xs : List Opn} (hb : opsB xs = true) : opsT xs ≠ [] := fun e => by
  obtain ⟨h1, _, h2⟩ := ops_mem hb
  have h := opsT_split hb
  rw [e] at h
  cases xs with
  | nil => cases h1
  | cons x xs =>
    have h4 := congrArg List.head? h
    simp only [splitC, List.map_cons, List.head?_cons, Option.some.injEq] at h4
    have := congrArg List.length h4
    simp only [opT, List.length_append, List.length_cons, List.length_nil] at this
    omega
/-- what is written the program reads -/
theorem opsVI_write {xs : List Opn} (hb : opsB xs = true) : opsVI (opsT xs) = (xs, true) := by
  obtain ⟨_, _, h2⟩ := ops_mem hb
  rw [opsVI, opsT_split hb, if_pos, List.map_map]
  · have : xs.map (partI ∘ opT) = xs := by
      refine (List.map_congr_left fun x hx => ?_).trans (List.map_id _)
      obtain ⟨a, b, c, d⟩ := h2 x hx
      exact (partI_opT a b c d).1
    rw [this, opsOut, if_pos]
    rw [if_pos hb]
  · rw [List.all_map, List.all_eq_true]
    intro x hx
    obtain ⟨a, b, c, d⟩ := h2 x hx
    exact (partI_opT a b c d).2
theorem opsVS_write {xs : List Opn} (hb : opsB xs = true) (hs : ∀ x, x ∈ xs → x.share < 1000000000000) : opsVS (opsT xs) = (xs, true) := by
  obtain ⟨_, hl, h2⟩ := ops_mem hb
  have ht : (xs.map opT).take 4 = xs.map opT := List.take_of_length_le (by rw [List.length_map]; omega)
  rw [opsVS, opsT_split hb, ht, if_pos, List.map_map]
  · have : xs.map (partS ∘ opT) = xs := by
      refine (List.map_congr_left fun x hx => ?_).trans (List.map_id _)
      obtain ⟨a, b, c, d⟩ := h2 x hx
      exact (partS_opT a b c ⟨d.1, hs x hx⟩).1
    rw [this, opsOut, if_pos]
    rw [if_pos hb]
  · refine ⟨?_, opsT_ne hb⟩
    rw [List.all_map, List.all_eq_true]
    intro x hx
    obtain ⟨a, b, c, d⟩ := h2 x hx
    exact (partS_opT a b c ⟨d.1, hs x hx⟩).2
theorem opsOut_or (xs : List Opn) (s : List UInt8) (hs : s ≠ []) : (opsB xs = true ∧ opsT xs = s ∧ opsOut xs s = (xs, true)) ∨ opsOut xs s = ([], false) := by
  rw [opsOut]
  by_cases hb : opsB xs = true
  · rw [if_pos hb]
    by_cases e : opsT xs = s
    · rw [if_pos e]
      exact .inl ⟨hb, e, rfl⟩
    · rw [if_neg e]
      exact .inr rfl
  · rw [if_neg hb, if_neg (fun e => hs e.symm)]
    exact .inr rfl
theorem opsVI_or (s : List UInt8) : (∃ xs, opsB xs = true ∧ opsT xs = s ∧ opsVI s = (xs, true)) ∨ opsVI s = ([], false) := by
  rw [opsVI]
  by_cases h : (splitC 44 s).all okI = true
  · have hs : s ≠ [] := fun e => by
      rw [e] at h
      exact absurd h (by decide)
    rw [if_pos h]
    rcases opsOut_or ((splitC 44 s).map partI) s hs with ⟨a, b, c⟩ | c
    · exact .inl ⟨_, a, b, c⟩
    · exact .inr c
  · rw [if_neg h]
    exact .inr rfl
theorem opsVS_or (s : List UInt8) : (∃ xs, opsB xs = true ∧ (∀ x, x ∈ xs → x.share < 1000000000000) ∧ opsT xs = s ∧ opsVS s = (xs, true)) ∨ opsVS s = ([], false) := by
  rw [opsVS]
  by_cases h : ((splitC 44 s).take 4).all okP = true ∧ s ≠ []
  · rw [if_pos h]
    rcases opsOut_or (((splitC 44 s).take 4).map partS) s h.2 with ⟨a, b, c⟩ | c
    · refine .inl ⟨_, a, fun x hx => ?_, b, c⟩
      obtain ⟨w, _, rfl⟩ := List.mem_map.1 hx
      have h0 := ((ops_mem a).2.2 _ hx).2.2.2.1
      exact (num12_pos h0).2
    · exact .inr c
  · rw [if_neg h]
    exact .inr rfl
/-- both read the same, unless a share has thirteen figures -/
theorem opsV_eq (s : List UInt8) (hs : ∀ x, x ∈ (opsVI s).1 → x.share < 1000000000000) : opsVI s = opsVS s := by
  rcases opsVI_or s with ⟨xs, a, rfl, c⟩ | c
  · rw [c] at hs ⊢
    exact (opsVS_write a hs).symm
  · rcases opsVS_or s with ⟨xs, a, b, rfl, d⟩ | d
    · rw [opsVI_write a] at c
      cases c
    · rw [c, d]
end Go.Proofs.YtdoclnjmcmdfdaaDoor

/- Ops read out of a text, on both sides: the walks. -/
namespace Go.Proofs.YtdoclnjmcmdfdaaDoor
set_option linter.unusedSectionVars false
open Go.Av
variable [Av.Start] [TabPow] [TabErr] [TabMax]
set_option maxRecDepth 10000
set_option maxHeartbeats 1000000
set_option linter.unusedSimpArgs false
set_option linter.unusedVariables false

theorem specOpsRead_gives (s : List UInt8) (h : Hp) (hs : s.length ≤ 10000000) : Gives Tryd.prog 16 [.str s] h (.tup [.slice ((opsVS s).1.map Opn.d) .no, .bool (opsVS s).2]) := by
  have hC := l3Cut_gives s 44
  have hlen := (splitC_le 44 s).1
  have hmem := (splitC_le 44 s).2
  rw [opsVS]
  generalize splitC 44 s = ws at hC hlen hmem
  have hg := fun k => Nat.le_trans (getD_len hmem k) hs
  refine meets_of [] mixed Tryd.func16 rfl (by kernel_rfl) (by kernel_rfl) (by rw [Tryd.ntmps16]; simp only [List.length_cons, List.length_nil]; omega) (fun hf => ?_)
  rw [Tryd.results16]
  clear hf
  try simp -implicitDefEqProofs only [lenMax, push_cast, Nat.reduceEqDiff, Nat.reduceBEq, Nat.reduceBNe, Nat.reduceAdd, Nat.reduceMul, Nat.reduceLT, Nat.reduceLeDiff, Nat.reduceSub, reduceCtorEq, Int.reduceToNat, ↓reduceIte]
  repeat'
    (first
     | (refine uYes ?_; first | exact List.mem_cons_self | (simp only [List.mem_cons, List.not_mem_nil, or_false, true_or, or_true]; done))
     | (refine uNo (by kernel_rfl))
     | (refine flatMk ?_; kernel_rfl)
     | (refine And.intro ?_ ?_)
     | (intro hx)
     | ((first
         | (refine callGF ?_)
         | (refine callQGF ?_)
         | (refine skipG ?_)
         | (refine callS (hC _ hs) ?_)
         | (refine callQ (hC _ hs) ?_)
         | (refine callG (fun hc => (hC _ hs)) ?_)
         | (refine callQG (fun hc => (hC _ hs)) ?_)); simp -implicitDefEqProofs only [lenMax, push_cast, Nat.reduceEqDiff, Nat.reduceBEq, Nat.reduceBNe, Nat.reduceAdd, Nat.reduceMul, Nat.reduceLT, Nat.reduceLeDiff, Nat.reduceSub, reduceCtorEq, Int.reduceToNat, ↓reduceIte]))
  refine ev_loopB [(5, 4)] (fun k : Nat => [(0, .str s), (2, .slice [] .full), (3, .bool false), (4, .slice (ws.map .str) .no), (5, .slice (((ws.take k).map partS).map Opn.d) (.buf h.length 4)), (6, .int .i64 k)])
    (fun k => [.buf (k * 4)]) (fun k => k ≤ ws.length ∧ k ≤ 4 ∧ (ws.take k).all okP = true) (fun k => ws.length - k) 0 ?_ ⟨Nat.zero_le _, Nat.zero_le _, rfl⟩ ?_ ?_
  · simp -implicitDefEqProofs only [tokOk, Int.natCast_add, Int.cast_ofNat_Int, List.length_nil, Nat.le_refl, WeakTo, tokSts, tokOks, List.append_cancel_left_eq, exists_eq_left', exists_eq_left, List.append_cancel_left_eq, List.take_length, ObCl, and_true, true_and, push_cast, Nat.reduceEqDiff, Nat.reduceBEq, Nat.reduceBNe, Nat.reduceAdd, Nat.reduceMul, Nat.reduceLT, Nat.reduceLeDiff, Nat.reduceSub, reduceCtorEq, Int.reduceToNat, ↓reduceIte]
  · refine ⟨1, by simp, by simp -implicitDefEqProofs only [tokSt, Int.natCast_add, Int.cast_ofNat_Int, List.length_nil, Nat.le_refl, WeakTo, tokSts, tokOks, List.append_cancel_left_eq, exists_eq_left', exists_eq_left, List.append_cancel_left_eq, List.take_length, ObCl, and_true, true_and, push_cast, Nat.reduceEqDiff, Nat.reduceBEq, Nat.reduceBNe, Nat.reduceAdd, Nat.reduceMul, Nat.reduceLT, Nat.reduceLeDiff, Nat.reduceSub, reduceCtorEq, Int.reduceToNat, ↓reduceIte], ?_⟩
    simp -implicitDefEqProofs only [tokSt, Int.natCast_add, Int.cast_ofNat_Int, List.length_nil, Nat.le_refl, WeakTo, tokSts, tokOks, List.append_cancel_left_eq, exists_eq_left', exists_eq_left, List.append_cancel_left_eq, List.take_length, ObCl, and_true, true_and, push_cast, Nat.reduceEqDiff, Nat.reduceBEq, Nat.reduceBNe, Nat.reduceAdd, Nat.reduceMul, Nat.reduceLT, Nat.reduceLeDiff, Nat.reduceSub, reduceCtorEq, Int.reduceToNat, ↓reduceIte]
  · rintro k ⟨hk, hk5, hall⟩
    have hw : IntKind.i64.wrap ((k : Int) + 1) = k + 1 := wrap_id (by omega) (by omega)
    have hmin : min k ws.length = k := by omega
    by_cases hlt : k < ws.length ∧ k < 4
    · have ht : ws.take (k + 1) = ws.take k ++ [ws.getD k []] := take_succ_getD ws [] hlt.1
      have hP := fun g => l3Cut_gives (ws.getD k []) 58 g (hg k)
      have hpl := (splitC_le 58 (ws.getD k [])).1
      have hd : partS (ws.getD k []) = ⟨(splitC 58 (ws.getD k [])).getD 0 [], num12 ((splitC 58 (ws.getD k [])).getD 1 []), (intV ((splitC 58 (ws.getD k [])).getD 2 [])).1, num12 ((splitC 58 (ws.getD k [])).getD 3 [])⟩ := rfl
      have ho : okP (ws.getD k []) = decide ((splitC 58 (ws.getD k [])).length = 4) := rfl
      generalize splitC 58 (ws.getD k []) = p at hP hd ho hpl
      by_cases h4 : p.length = 4
      · try simp -implicitDefEqProofs only [hw, h4, lenMax, hmin, push_cast, Nat.reduceEqDiff, Nat.reduceBEq, Nat.reduceBNe, Nat.reduceAdd, Nat.reduceMul, Nat.reduceLT, Nat.reduceLeDiff, Nat.reduceSub, reduceCtorEq, Int.reduceToNat, ↓reduceIte]
        repeat'
          (first
           | (refine uYes ?_; first | exact List.mem_cons_self | (simp only [List.mem_cons, List.not_mem_nil, or_false, true_or, or_true]; done))
           | (refine uNo (by kernel_rfl))
           | (refine flatMk ?_; kernel_rfl)
           | (refine And.intro ?_ ?_)
           | (intro hx)
           | ((first
               | (refine callGF ?_)
               | (refine callQGF ?_)
               | (refine skipG ?_)
               | (refine callS (hP _) ?_)
               | (refine callQ (hP _) ?_)
               | (refine callG (fun hc => (hP _)) ?_)
               | (refine callQG (fun hc => (hP _)) ?_)
               | (refine callS (l2Int_gives (p.getD 2 []) _) ?_)
               | (refine callQ (l2Int_gives (p.getD 2 []) _) ?_)
               | (refine callG (fun hc => (l2Int_gives (p.getD 2 []) _)) ?_)
               | (refine callQG (fun hc => (l2Int_gives (p.getD 2 []) _)) ?_)
               | (refine inX_mk [h.length] (by kernel_rfl) (by simp) ?_)
               | (refine callXG (fun _ => l2Num_gives (p.getD 1 []) _) ?_)
               | (refine callXG (fun _ => l2Num_gives (p.getD 3 []) _) ?_)); simp -implicitDefEqProofs only [hw, h4, lenMax, hmin, push_cast, Nat.reduceEqDiff, Nat.reduceBEq, Nat.reduceBNe, Nat.reduceAdd, Nat.reduceMul, Nat.reduceLT, Nat.reduceLeDiff, Nat.reduceSub, reduceCtorEq, Int.reduceToNat, ↓reduceIte]))
        all_goals first
          | omega
          | skip
        refine round_mk (k + 1) ⟨by omega, by omega, by rw [ht, List.all_append, hall, List.all_cons, List.all_nil, ho, decide_eq_true h4]; rfl⟩ (by omega) ?_
        simp -implicitDefEqProofs only [ht, List.map_append, List.map_cons, List.map_nil, hd, hw, hmin, Int.natCast_add, Int.cast_ofNat_Int, List.length_nil, Nat.le_refl, WeakTo, tokSts, tokOks, List.append_cancel_left_eq, exists_eq_left', exists_eq_left, List.append_cancel_left_eq, List.take_length, ObCl, and_true, true_and, push_cast, Nat.reduceEqDiff, Nat.reduceBEq, Nat.reduceBNe, Nat.reduceAdd, Nat.reduceMul, Nat.reduceLT, Nat.reduceLeDiff, Nat.reduceSub, reduceCtorEq, Int.reduceToNat, ↓reduceIte]
      · have hno : ¬ ((ws.take 4).all okP = true ∧ ¬s = []) := fun hA => by
          have hm : ws.getD k [] ∈ ws.take 4 := by
            rw [List.getD_eq_getElem?_getD, List.getElem?_eq_getElem hlt.1]
            exact List.mem_iff_getElem.2 ⟨k, by rw [List.length_take]; omega, by rw [List.getElem_take]; rfl⟩
          have := List.all_eq_true.1 hA.1 _ hm
          rw [ho, decide_eq_true_eq] at this
          exact h4 this
        try simp -implicitDefEqProofs only [hw, h4, lenMax, hmin, push_cast, Nat.reduceEqDiff, Nat.reduceBEq, Nat.reduceBNe, Nat.reduceAdd, Nat.reduceMul, Nat.reduceLT, Nat.reduceLeDiff, Nat.reduceSub, reduceCtorEq, Int.reduceToNat, ↓reduceIte]
        repeat'
          (first
           | (refine uYes ?_; first | exact List.mem_cons_self | (simp only [List.mem_cons, List.not_mem_nil, or_false, true_or, or_true]; done))
           | (refine uNo (by kernel_rfl))
           | (refine flatMk ?_; kernel_rfl)
           | (refine And.intro ?_ ?_)
           | (intro hx)
           | ((first
               | (refine callGF ?_)
               | (refine callQGF ?_)
               | (refine skipG ?_)
               | (refine callS (hP _) ?_)
               | (refine callQ (hP _) ?_)
               | (refine callG (fun hc => (hP _)) ?_)
               | (refine callQG (fun hc => (hP _)) ?_)); simp -implicitDefEqProofs only [hw, h4, lenMax, hmin, push_cast, Nat.reduceEqDiff, Nat.reduceBEq, Nat.reduceBNe, Nat.reduceAdd, Nat.reduceMul, Nat.reduceLT, Nat.reduceLeDiff, Nat.reduceSub, reduceCtorEq, Int.reduceToNat, ↓reduceIte]))
        all_goals first
          | omega
          | (rw [if_neg hno]; done)
          | (rw [if_neg hno]; rfl)
          | trace_state
    · have he : ws.take 4 = ws.take k := by
        rcases Nat.lt_or_ge k ws.length with h1 | h1
        · rw [show k = 4 by omega]
        · rw [List.take_of_length_le h1, List.take_of_length_le (by omega)]
      have hW := fun g => gives_wk' (ys := [.slice (((ws.take k).map partS).map Opn.d) (.buf h.length 4)]) (specOpsWrite_gives ((ws.take k).map partS) g) ⟨.tok _ _, trivial⟩
      rw [he]
      simp only [hall, opsOut, true_and]
      generalize (if opsB ((ws.take k).map partS) = true then opsT ((ws.take k).map partS) else []) = tx at hW
      try simp -implicitDefEqProofs only [hw, lenMax, hmin, push_cast, Nat.reduceEqDiff, Nat.reduceBEq, Nat.reduceBNe, Nat.reduceAdd, Nat.reduceMul, Nat.reduceLT, Nat.reduceLeDiff, Nat.reduceSub, reduceCtorEq, Int.reduceToNat, ↓reduceIte]
      repeat'
        (first
         | (refine uYes ?_; first | exact List.mem_cons_self | (simp only [List.mem_cons, List.not_mem_nil, or_false, true_or, or_true]; done))
         | (refine uNo (by kernel_rfl))
         | (refine flatMk ?_; kernel_rfl)
         | (refine And.intro ?_ ?_)
         | (intro hx)
         | ((first
             | (refine callGF ?_)
             | (refine callQGF ?_)
             | (refine skipG ?_)
             | (refine callS (hW _) ?_)
             | (refine callQ (hW _) ?_)
             | (refine callG (fun hc => (hW _)) ?_)
             | (refine callQG (fun hc => (hW _)) ?_)); simp -implicitDefEqProofs only [hw, lenMax, hmin, push_cast, Nat.reduceEqDiff, Nat.reduceBEq, Nat.reduceBNe, Nat.reduceAdd, Nat.reduceMul, Nat.reduceLT, Nat.reduceLeDiff, Nat.reduceSub, reduceCtorEq, Int.reduceToNat, ↓reduceIte]))
      all_goals first
        | omega
        | (rcases hx with hx | hx <;> simp [hx]; done)
        | (simp [hx.1, hx.2]; done)
        | trace_state
theorem opClip_gives (xs : List Opn) (h : Hp) : Gives Tryd.prog 39 [.slice (xs.map Opn.d) .no] h (.slice (xs.map Opn.d) .full) := by
  refine meets_of [] mixed Tryd.func39 rfl (by kernel_rfl) (by kernel_rfl) (by rw [Tryd.ntmps39]; simp only [List.length_cons, List.length_nil]; omega) (fun hf => ?_)
  rw [Tryd.results39]
  clear hf
  try simp -implicitDefEqProofs only [push_cast, Nat.reduceEqDiff, Nat.reduceBEq, Nat.reduceBNe, Nat.reduceAdd, Nat.reduceMul, Nat.reduceLT, Nat.reduceLeDiff, Nat.reduceSub, reduceCtorEq, Int.reduceToNat, ↓reduceIte]
  repeat'
    (first
     | (refine uYes ?_; first | exact List.mem_cons_self | (simp only [List.mem_cons, List.not_mem_nil, or_false, true_or, or_true]; done))
     | (refine uNo (by kernel_rfl))
     | (refine flatMk ?_; kernel_rfl)
     | (refine And.intro ?_ ?_)
     | (intro hx)
     | ((first
         | (refine callGF ?_)
         | (refine callQGF ?_)
         | (refine skipG ?_)
         | (refine callS (in_gives _ _ _ _) ?_)
         | (refine callQ (in_gives _ _ _ _) ?_)
         | (refine callG (fun hc => (in_gives _ _ _ _)) ?_)
         | (refine callQG (fun hc => (in_gives _ _ _ _)) ?_)); simp -implicitDefEqProofs only [push_cast, Nat.reduceEqDiff, Nat.reduceBEq, Nat.reduceBNe, Nat.reduceAdd, Nat.reduceMul, Nat.reduceLT, Nat.reduceLeDiff, Nat.reduceSub, reduceCtorEq, Int.reduceToNat, ↓reduceIte]))
  all_goals first
    | omega
theorem implOpsRead_gives (s : List UInt8) (h : Hp) (hs : s.length ≤ 10000000) : Gives Tryd.prog 15 [.str s] h (.tup [.slice ((opsVI s).1.map Opn.d) .no, .bool (opsVI s).2]) := by
  have hC := fun g => split_gives s 44 g hs
  have hlen := (splitC_le 44 s).1
  have hmem := (splitC_le 44 s).2
  rw [opsVI]
  generalize splitC 44 s = ws at hC hlen hmem
  have hg := fun k => Nat.le_trans (getD_len hmem k) hs
  refine meets_of [] mixed Tryd.func15 rfl (by kernel_rfl) (by kernel_rfl) (by rw [Tryd.ntmps15]; simp only [List.length_cons, List.length_nil]; omega) (fun hf => ?_)
  rw [Tryd.results15]
  clear hf
  try simp -implicitDefEqProofs only [lenMax, push_cast, Nat.reduceEqDiff, Nat.reduceBEq, Nat.reduceBNe, Nat.reduceAdd, Nat.reduceMul, Nat.reduceLT, Nat.reduceLeDiff, Nat.reduceSub, reduceCtorEq, Int.reduceToNat, ↓reduceIte]
  repeat'
    (first
     | (refine uYes ?_; first | exact List.mem_cons_self | (simp only [List.mem_cons, List.not_mem_nil, or_false, true_or, or_true]; done))
     | (refine uNo (by kernel_rfl))
     | (refine flatMk ?_; kernel_rfl)
     | (refine And.intro ?_ ?_)
     | (intro hx)
     | ((first
         | (refine callGF ?_)
         | (refine callQGF ?_)
         | (refine skipG ?_)
         | (refine callS (hC _) ?_)
         | (refine callQ (hC _) ?_)
         | (refine callG (fun hc => (hC _)) ?_)
         | (refine callQG (fun hc => (hC _)) ?_)); simp -implicitDefEqProofs only [lenMax, push_cast, Nat.reduceEqDiff, Nat.reduceBEq, Nat.reduceBNe, Nat.reduceAdd, Nat.reduceMul, Nat.reduceLT, Nat.reduceLeDiff, Nat.reduceSub, reduceCtorEq, Int.reduceToNat, ↓reduceIte]))
  refine ev_loopB [(4, 4)] (fun k : Nat => [(0, .str s), (4, .slice (((ws.take k).map partI).map Opn.d) (.buf h.length 4)), (15, .slice (ws.map .str) .no), (16, .int .i64 ws.length), (17, .int .i64 k)])
    (fun k => [.buf (k * 4)]) (fun k => k ≤ ws.length ∧ (ws.take k).all okI = true) (fun k => ws.length - k) 0 ?_ ⟨Nat.zero_le _, rfl⟩ ?_ ?_
  · simp -implicitDefEqProofs only [tokOk, Int.natCast_add, Int.cast_ofNat_Int, List.length_nil, Nat.le_refl, WeakTo, tokSts, tokOks, List.append_cancel_left_eq, exists_eq_left', exists_eq_left, List.append_cancel_left_eq, List.take_length, ObCl, and_true, true_and, push_cast, Nat.reduceEqDiff, Nat.reduceBEq, Nat.reduceBNe, Nat.reduceAdd, Nat.reduceMul, Nat.reduceLT, Nat.reduceLeDiff, Nat.reduceSub, reduceCtorEq, Int.reduceToNat, ↓reduceIte]
  · refine ⟨1, by simp, by simp -implicitDefEqProofs only [tokSt, Int.natCast_add, Int.cast_ofNat_Int, List.length_nil, Nat.le_refl, WeakTo, tokSts, tokOks, List.append_cancel_left_eq, exists_eq_left', exists_eq_left, List.append_cancel_left_eq, List.take_length, ObCl, and_true, true_and, push_cast, Nat.reduceEqDiff, Nat.reduceBEq, Nat.reduceBNe, Nat.reduceAdd, Nat.reduceMul, Nat.reduceLT, Nat.reduceLeDiff, Nat.reduceSub, reduceCtorEq, Int.reduceToNat, ↓reduceIte], ?_⟩
    simp -implicitDefEqProofs only [tokSt, Int.natCast_add, Int.cast_ofNat_Int, List.length_nil, Nat.le_refl, WeakTo, tokSts, tokOks, List.append_cancel_left_eq, exists_eq_left', exists_eq_left, List.append_cancel_left_eq, List.take_length, ObCl, and_true, true_and, push_cast, Nat.reduceEqDiff, Nat.reduceBEq, Nat.reduceBNe, Nat.reduceAdd, Nat.reduceMul, Nat.reduceLT, Nat.reduceLeDiff, Nat.reduceSub, reduceCtorEq, Int.reduceToNat, ↓reduceIte]
  · rintro k ⟨hk, hall⟩
    have hw : IntKind.i64.wrap ((k : Int) + 1) = k + 1 := wrap_id (by omega) (by omega)
    have hmin : min k ws.length = k := by omega
    by_cases hlt : k < ws.length
    · have ht : ws.take (k + 1) = ws.take k ++ [ws.getD k []] := take_succ_getD ws [] hlt
      have hP := fun g => split_gives (ws.getD k []) 58 g (hg k)
      have hpl := (splitC_le 58 (ws.getD k [])).1
      have hd : partI (ws.getD k []) = ⟨(splitC 58 (ws.getD k [])).getD 0 [], (numV ((splitC 58 (ws.getD k [])).getD 1 [])).1, (numV ((splitC 58 (ws.getD k [])).getD 2 [])).1, (numV ((splitC 58 (ws.getD k [])).getD 3 [])).1⟩ := rfl
      have ho : okI (ws.getD k []) = (decide ((splitC 58 (ws.getD k [])).length = 4) && ((numV ((splitC 58 (ws.getD k [])).getD 1 [])).2 && (numV ((splitC 58 (ws.getD k [])).getD 2 [])).2 && (numV ((splitC 58 (ws.getD k [])).getD 3 [])).2)) := rfl
      generalize splitC 58 (ws.getD k []) = p at hP hd ho hpl
      have hno : okI (ws.getD k []) = false → ¬ (ws.all okI = true) := fun hf hA => by
        have hm : ws.getD k [] ∈ ws := by
          rw [List.getD_eq_getElem?_getD, List.getElem?_eq_getElem hlt]
          exact List.getElem_mem hlt
        rw [List.all_eq_true.1 hA _ hm] at hf
        cases hf
      by_cases h4 : p.length = 4
      · have c1 := number_gives (p.getD 1 [])
        have c2 := number_gives (p.getD 2 [])
        have c3 := number_gives (p.getD 3 [])
        rw [decide_eq_true h4, Bool.true_and] at ho
        try simp -implicitDefEqProofs only [hw, h4, lenMax, hmin, push_cast, Nat.reduceEqDiff, Nat.reduceBEq, Nat.reduceBNe, Nat.reduceAdd, Nat.reduceMul, Nat.reduceLT, Nat.reduceLeDiff, Nat.reduceSub, reduceCtorEq, Int.reduceToNat, ↓reduceIte]
        repeat'
          (first
           | (refine uYes ?_; first | exact List.mem_cons_self | (simp only [List.mem_cons, List.not_mem_nil, or_false, true_or, or_true]; done))
           | (refine uNo (by kernel_rfl))
           | (refine flatMk ?_; kernel_rfl)
           | (refine And.intro ?_ ?_)
           | (intro hx)
           | ((first
               | (refine callGF ?_)
               | (refine callQGF ?_)
               | (refine skipG ?_)
               | (refine callS (hP _) ?_)
               | (refine callQ (hP _) ?_)
               | (refine callG (fun hc => (hP _)) ?_)
               | (refine callQG (fun hc => (hP _)) ?_)
               | (refine callS (c1 _) ?_)
               | (refine callQ (c1 _) ?_)
               | (refine callG (fun hc => (c1 _)) ?_)
               | (refine callQG (fun hc => (c1 _)) ?_)
               | (refine callS (c2 _) ?_)
               | (refine callQ (c2 _) ?_)
               | (refine callG (fun hc => (c2 _)) ?_)
               | (refine callQG (fun hc => (c2 _)) ?_)
               | (refine callS (c3 _) ?_)
               | (refine callQ (c3 _) ?_)
               | (refine callG (fun hc => (c3 _)) ?_)
               | (refine callQG (fun hc => (c3 _)) ?_)); simp -implicitDefEqProofs only [hw, h4, lenMax, hmin, push_cast, Nat.reduceEqDiff, Nat.reduceBEq, Nat.reduceBNe, Nat.reduceAdd, Nat.reduceMul, Nat.reduceLT, Nat.reduceLeDiff, Nat.reduceSub, reduceCtorEq, Int.reduceToNat, ↓reduceIte]))
        all_goals first
          | omega
          | (rw [if_neg (hno (by rw [ho]; clear c1 c2 c3 hP hC; grind))]; done)
          | (rw [if_neg (hno (by rw [ho]; clear c1 c2 c3 hP hC; grind))]; rfl)
          | (have hx2 : okI (ws.getD k []) = true := by rw [ho, hx.1.1, hx.1.2, hx.2]; rfl
             refine round_mk (k + 1) ⟨by omega, by rw [ht, List.all_append, hall, List.all_cons, List.all_nil, hx2]; rfl⟩ (by omega) ?_
             simp -implicitDefEqProofs only [ht, List.map_append, List.map_cons, List.map_nil, hd, hw, hmin, Int.natCast_add, Int.cast_ofNat_Int, List.length_nil, Nat.le_refl, WeakTo, tokSts, tokOks, List.append_cancel_left_eq, exists_eq_left', exists_eq_left, List.append_cancel_left_eq, List.take_length, ObCl, and_true, true_and, push_cast, Nat.reduceEqDiff, Nat.reduceBEq, Nat.reduceBNe, Nat.reduceAdd, Nat.reduceMul, Nat.reduceLT, Nat.reduceLeDiff, Nat.reduceSub, reduceCtorEq, Int.reduceToNat, ↓reduceIte])
          | trace_state
      · rw [decide_eq_false h4, Bool.false_and] at ho
        try simp -implicitDefEqProofs only [hw, h4, lenMax, hmin, push_cast, Nat.reduceEqDiff, Nat.reduceBEq, Nat.reduceBNe, Nat.reduceAdd, Nat.reduceMul, Nat.reduceLT, Nat.reduceLeDiff, Nat.reduceSub, reduceCtorEq, Int.reduceToNat, ↓reduceIte]
        repeat'
          (first
           | (refine uYes ?_; first | exact List.mem_cons_self | (simp only [List.mem_cons, List.not_mem_nil, or_false, true_or, or_true]; done))
           | (refine uNo (by kernel_rfl))
           | (refine flatMk ?_; kernel_rfl)
           | (refine And.intro ?_ ?_)
           | (intro hx)
           | ((first
               | (refine callGF ?_)
               | (refine callQGF ?_)
               | (refine skipG ?_)
               | (refine callS (hP _) ?_)
               | (refine callQ (hP _) ?_)
               | (refine callG (fun hc => (hP _)) ?_)
               | (refine callQG (fun hc => (hP _)) ?_)); simp -implicitDefEqProofs only [hw, h4, lenMax, hmin, push_cast, Nat.reduceEqDiff, Nat.reduceBEq, Nat.reduceBNe, Nat.reduceAdd, Nat.reduceMul, Nat.reduceLT, Nat.reduceLeDiff, Nat.reduceSub, reduceCtorEq, Int.reduceToNat, ↓reduceIte]))
        all_goals first
          | omega
          | (rw [if_neg (hno ho)]; done)
          | (rw [if_neg (hno ho)]; rfl)
          | trace_state
    · obtain rfl : k = ws.length := by omega
      rw [List.take_length] at hall
      have hW := fun g => gives_wk' (ys := [.slice ((ws.map partI).map Opn.d) (.buf h.length 4)]) (implOpsWrite_gives (ws.map partI) g) ⟨.tok _ _, trivial⟩
      have hL := fun g => gives_wk' (ys := [.slice ((ws.map partI).map Opn.d) (.buf h.length 4)]) (opClip_gives (ws.map partI) g) ⟨.tok _ _, trivial⟩
      simp only [hall, opsOut, true_and, if_true]
      generalize (if opsB (ws.map partI) = true then opsT (ws.map partI) else []) = tx at hW
      try simp -implicitDefEqProofs only [hw, lenMax, hmin, List.take_length, push_cast, Nat.reduceEqDiff, Nat.reduceBEq, Nat.reduceBNe, Nat.reduceAdd, Nat.reduceMul, Nat.reduceLT, Nat.reduceLeDiff, Nat.reduceSub, reduceCtorEq, Int.reduceToNat, ↓reduceIte]
      repeat'
        (first
         | (refine uYes ?_; first | exact List.mem_cons_self | (simp only [List.mem_cons, List.not_mem_nil, or_false, true_or, or_true]; done))
         | (refine uNo (by kernel_rfl))
         | (refine flatMk ?_; kernel_rfl)
         | (refine And.intro ?_ ?_)
         | (intro hx)
         | ((first
             | (refine callGF ?_)
             | (refine callQGF ?_)
             | (refine skipG ?_)
             | (refine callS (hW _) ?_)
             | (refine callQ (hW _) ?_)
             | (refine callG (fun hc => (hW _)) ?_)
             | (refine callQG (fun hc => (hW _)) ?_)
             | (refine callS (hL _) ?_)
             | (refine callQ (hL _) ?_)
             | (refine callG (fun hc => (hL _)) ?_)
             | (refine callQG (fun hc => (hL _)) ?_)); simp -implicitDefEqProofs only [hw, lenMax, hmin, List.take_length, push_cast, Nat.reduceEqDiff, Nat.reduceBEq, Nat.reduceBNe, Nat.reduceAdd, Nat.reduceMul, Nat.reduceLT, Nat.reduceLeDiff, Nat.reduceSub, reduceCtorEq, Int.reduceToNat, ↓reduceIte]))
      all_goals first
        | omega
        | (simp [hx]; done)
        | trace_state
end Go.Proofs.YtdoclnjmcmdfdaaDoor

/- What FnOpsText draws and compares. -/
namespace Go.Proofs.YtdoclnjmcmdfdaaDoor
set_option linter.unusedSectionVars false
open Go.Av
variable [Av.Start] [TabPow] [TabErr] [TabMax]
set_option maxRecDepth 10000
set_option maxHeartbeats 1000000
set_option linter.unusedSimpArgs false
set_option linter.unusedVariables false

omit [Av.Start] [TabPow] [TabErr] [TabMax] in
theorem getD_ops (xs : List Opn) (i : Nat) : (xs.map Opn.d).getD i (.agg [.str [], .int .i64 0, .int .i64 0, .int .i64 0]) = .agg (xs.getD i default).cs := getD_map Opn.d default xs i
attribute [push_cast] getD_ops
theorem wsOps_self (a : List Opn) (h : Hp) : Gives Tryd.prog 17 [.slice (a.map Opn.d) .no, .slice (a.map Opn.d) .no] h (.bool true) := by
  refine meets_of [] mixed Tryd.func17 rfl (by kernel_rfl) (by kernel_rfl) (by rw [Tryd.ntmps17]; simp only [List.length_cons, List.length_nil]; omega) (fun hf => ?_)
  rw [Tryd.results17]
  have hl : a.length ≤ 1073741824 := by simpa using slice_fit (hf (.slice (a.map Opn.d) .no) (by simp))
  clear hf
  try simp -implicitDefEqProofs only [push_cast, Nat.reduceEqDiff, Nat.reduceBEq, Nat.reduceBNe, Nat.reduceAdd, Nat.reduceMul, Nat.reduceLT, Nat.reduceLeDiff, Nat.reduceSub, reduceCtorEq, Int.reduceToNat, ↓reduceIte]
  repeat'
    (first
     | (refine uYes ?_; first | exact List.mem_cons_self | (simp only [List.mem_cons, List.not_mem_nil, or_false, true_or, or_true]; done))
     | (refine uNo (by kernel_rfl))
     | (refine flatMk ?_; kernel_rfl)
     | (refine And.intro ?_ ?_)
     | (intro hx)
     | ((first
         | (refine callGF ?_)
         | (refine callQGF ?_)
         | (refine skipG ?_)
         | (refine callS (in_gives _ _ _ _) ?_)
         | (refine callQ (in_gives _ _ _ _) ?_)
         | (refine callG (fun hc => (in_gives _ _ _ _)) ?_)
         | (refine callQG (fun hc => (in_gives _ _ _ _)) ?_)); simp -implicitDefEqProofs only [push_cast, Nat.reduceEqDiff, Nat.reduceBEq, Nat.reduceBNe, Nat.reduceAdd, Nat.reduceMul, Nat.reduceLT, Nat.reduceLeDiff, Nat.reduceSub, reduceCtorEq, Int.reduceToNat, ↓reduceIte]))
  refine ev_loop0 [] (fun k : Nat => [(0, .slice (a.map Opn.d) .no), (1, .slice (a.map Opn.d) .no), (5, .int .i64 k)]) (fun k => k ≤ a.length) (fun k => a.length - k) 0 trivial (Nat.zero_le _) ?_ ?_
  · exact ⟨rfl, [], by simp -implicitDefEqProofs only [Int.natCast_add, Int.cast_ofNat_Int, List.length_nil, Nat.le_refl, WeakTo, tokSts, tokOks, List.append_cancel_left_eq, exists_eq_left', exists_eq_left, List.append_cancel_left_eq, List.take_length, ObCl, and_true, true_and, push_cast, Nat.reduceEqDiff, Nat.reduceBEq, Nat.reduceBNe, Nat.reduceAdd, Nat.reduceMul, Nat.reduceLT, Nat.reduceLeDiff, Nat.reduceSub, reduceCtorEq, Int.reduceToNat, ↓reduceIte]⟩
  · intro k hk
    have hw : IntKind.i64.wrap ((k : Int) + 1) = k + 1 := wrap_id (by omega) (by omega)
    rcases Nat.lt_or_ge k a.length with hlt | hge
    · have hL := op_at hlt
      try simp -implicitDefEqProofs only [hw, hL, push_cast, Nat.reduceEqDiff, Nat.reduceBEq, Nat.reduceBNe, Nat.reduceAdd, Nat.reduceMul, Nat.reduceLT, Nat.reduceLeDiff, Nat.reduceSub, reduceCtorEq, Int.reduceToNat, ↓reduceIte]
      repeat'
        (first
         | (refine uYes ?_; first | exact List.mem_cons_self | (simp only [List.mem_cons, List.not_mem_nil, or_false, true_or, or_true]; done))
         | (refine uNo (by kernel_rfl))
         | (refine flatMk ?_; kernel_rfl)
         | (refine And.intro ?_ ?_)
         | (intro hx)
         | ((first
             | (refine callGF ?_)
             | (refine callQGF ?_)
             | (refine skipG ?_)
             | (refine callS (in_gives _ _ _ _) ?_)
             | (refine callQ (in_gives _ _ _ _) ?_)
             | (refine callG (fun hc => (in_gives _ _ _ _)) ?_)
             | (refine callQG (fun hc => (in_gives _ _ _ _)) ?_)); simp -implicitDefEqProofs only [hw, hL, push_cast, Nat.reduceEqDiff, Nat.reduceBEq, Nat.reduceBNe, Nat.reduceAdd, Nat.reduceMul, Nat.reduceLT, Nat.reduceLeDiff, Nat.reduceSub, reduceCtorEq, Int.reduceToNat, ↓reduceIte]))
      all_goals first
        | omega
        | (refine round_mk0 (k + 1) (by omega) (by omega) ⟨[], ?_⟩
           simp -implicitDefEqProofs only [hw, Int.natCast_add, Int.cast_ofNat_Int, List.length_nil, Nat.le_refl, WeakTo, tokSts, tokOks, List.append_cancel_left_eq, exists_eq_left', exists_eq_left, List.append_cancel_left_eq, List.take_length, ObCl, and_true, true_and, push_cast, Nat.reduceEqDiff, Nat.reduceBEq, Nat.reduceBNe, Nat.reduceAdd, Nat.reduceMul, Nat.reduceLT, Nat.reduceLeDiff, Nat.reduceSub, reduceCtorEq, Int.reduceToNat, ↓reduceIte])
        | trace_state
    · try simp -implicitDefEqProofs only [hw, push_cast, Nat.reduceEqDiff, Nat.reduceBEq, Nat.reduceBNe, Nat.reduceAdd, Nat.reduceMul, Nat.reduceLT, Nat.reduceLeDiff, Nat.reduceSub, reduceCtorEq, Int.reduceToNat, ↓reduceIte]
      repeat'
        (first
         | (refine uYes ?_; first | exact List.mem_cons_self | (simp only [List.mem_cons, List.not_mem_nil, or_false, true_or, or_true]; done))
         | (refine uNo (by kernel_rfl))
         | (refine flatMk ?_; kernel_rfl)
         | (refine And.intro ?_ ?_)
         | (intro hx)
         | ((first
             | (refine callGF ?_)
             | (refine callQGF ?_)
             | (refine skipG ?_)
             | (refine callS (in_gives _ _ _ _) ?_)
             | (refine callQ (in_gives _ _ _ _) ?_)
             | (refine callG (fun hc => (in_gives _ _ _ _)) ?_)
             | (refine callQG (fun hc => (in_gives _ _ _ _)) ?_)); simp -implicitDefEqProofs only [hw, push_cast, Nat.reduceEqDiff, Nat.reduceBEq, Nat.reduceBNe, Nat.reduceAdd, Nat.reduceMul, Nat.reduceLT, Nat.reduceLeDiff, Nat.reduceSub, reduceCtorEq, Int.reduceToNat, ↓reduceIte]))
      all_goals first
        | omega
        | trace_state
end Go.Proofs.YtdoclnjmcmdfdaaDoor

/- The reference's draws of texts: a text bent. -/
namespace Go.Proofs.YtdoclnjmcmdfdaaDoor
set_option linter.unusedSectionVars false
open Go.Av
variable [Av.Start] [TabPow] [TabErr] [TabMax]
set_option maxRecDepth 10000
set_option maxHeartbeats 1000000
set_option linter.unusedSimpArgs false
set_option linter.unusedVariables false
attribute [local irreducible] finS

def bendV (bs : List Int) (p : Int) (s : List UInt8) (ss : List (List UInt8)) (n : Int) : List UInt8 × Int :=
  if 0 < pickV bs p n then (s, p + 1) else
  (s.take (pickV bs (p + 1) (s.length + 1)).toNat ++ ss.getD (pickV bs (p + 1 + 1) ss.length).toNat [] ++ s.drop (pickV bs (p + 1) (s.length + 1)).toNat, p + 1 + 1 + 1)
omit [TabPow] [TabErr] [TabMax] in
theorem l14Bend_gives (bs : List Int) (p : Int) (s : List UInt8) (ss : List (List UInt8)) (t : Tok) (n : Int) (r : Nat) (h : Hp) (hr : ob h r = .row (rdC bs p)) (hrl : r < h.length) (H : Rd bs (p + 10)) (hp0 : 0 ≤ p) (hn : 1 ≤ n) (hs : s.length ≤ 1000000) (hss : 1 ≤ ss.length ∧ ss.length ≤ 100 ∧ ∀ x, x ∈ ss → x.length ≤ 100) :
    Meets Tryd.prog 36 [.ptr r 0, .str s, .slice (ss.map .str) t, .int .i64 n] h fun d' h' => d' = .str (bendV bs p s ss n).1 ∧ h' = h.set r (.row (rdC bs (bendV bs p s ss n).2)) := by
  have hhi := H.hi
  obtain ⟨r1, r2, r3, r4, r5, r6, r7, r8, r9⟩ := rdf hrl
  have r4' := fun ls => (r4 ls).trans hr
  have v1 := pickV_range (p := p) (H.up (by omega) (by omega)) n hn
  have v2 := pickV_range (p := p + 1) (H.up (by omega) (by omega)) (s.length + 1) (by omega)
  have v3 := pickV_range (p := p + 1 + 1) (H.up (by omega) (by omega)) ss.length (by omega)
  have w1 : IntKind.i64.wrap ((s.length : Int) + 1) = s.length + 1 := wrap_id (by omega) (by omega)
  rw [bendV]
  by_cases hz : 0 < pickV bs p n
  · have hz' : decide (0 < pickV bs p n) = true := decide_eq_true hz
    rw [if_pos hz]
    refine meets_of [] mixed Tryd.func36 rfl (by kernel_rfl) (by kernel_rfl) (by rw [Tryd.ntmps36]; simp only [List.length_cons, List.length_nil]; omega) (fun hf => ?_)
    rw [Tryd.results36]
    clear hf
    try simp -implicitDefEqProofs only [hz', w1, r1, r2, r5, r6, r7, r8, lenMax, List.length_set, push_cast, Nat.reduceEqDiff, Nat.reduceBEq, Nat.reduceBNe, Nat.reduceAdd, Nat.reduceMul, Nat.reduceLT, Nat.reduceLeDiff, Nat.reduceSub, reduceCtorEq, Int.reduceToNat, ↓reduceIte]
    repeat'
      (first
       | (refine uYes ?_; first | exact List.mem_cons_self | (simp only [List.mem_cons, List.not_mem_nil, or_false, true_or, or_true]; done))
       | (refine uNo (by kernel_rfl))
       | (refine flatMk ?_; kernel_rfl)
       | (refine And.intro ?_ ?_)
       | (intro hx)
       | ((first
           | (refine callGF ?_)
           | (refine callQGF ?_)
           | (refine skipG ?_)
           | (refine callM (dst := some 12) (pick_gives bs _ _ r _ hr hrl (H.up (by omega) (by omega))) ?_)
           | (refine callS (in_gives _ _ _ _) ?_)
           | (refine callQ (in_gives _ _ _ _) ?_)
           | (refine callG (fun hc => (in_gives _ _ _ _)) ?_)
           | (refine callQG (fun hc => (in_gives _ _ _ _)) ?_)); simp -implicitDefEqProofs only [hz', w1, r1, r2, r5, r6, r7, r8, lenMax, List.length_set, push_cast, Nat.reduceEqDiff, Nat.reduceBEq, Nat.reduceBNe, Nat.reduceAdd, Nat.reduceMul, Nat.reduceLT, Nat.reduceLeDiff, Nat.reduceSub, reduceCtorEq, Int.reduceToNat, ↓reduceIte]))
    all_goals first
      | omega
      | exact back_rd hrl bs _ _
      | exact back_set rfl hrl (rdC_cl _ _ _)
      | trace_state
  · have hz' : decide (0 < pickV bs p n) = false := decide_eq_false hz
    rw [if_neg hz]
    have hgl : (ss.getD (pickV bs (p + 1 + 1) ss.length).toNat []).length ≤ 100 := by
      rw [List.getD_eq_getElem?_getD, List.getElem?_eq_getElem (by omega)]
      exact hss.2.2 _ (List.getElem_mem _)
    refine meets_of [1000004] mixed Tryd.func36 rfl (by kernel_rfl) (by kernel_rfl) (by rw [Tryd.ntmps36]; simp only [List.length_cons, List.length_nil]; omega) (fun hf => ?_)
    rw [Tryd.results36]
    clear hf
    try simp -implicitDefEqProofs only [hz', w1, r1, r2, r5, r6, r7, r8, lenMax, List.set_set, List.length_set, push_cast, Nat.reduceEqDiff, Nat.reduceBEq, Nat.reduceBNe, Nat.reduceAdd, Nat.reduceMul, Nat.reduceLT, Nat.reduceLeDiff, Nat.reduceSub, reduceCtorEq, Int.reduceToNat, ↓reduceIte]
    repeat'
      (first
       | (refine uYes ?_; first | exact List.mem_cons_self | (simp only [List.mem_cons, List.not_mem_nil, or_false, true_or, or_true]; done))
       | (refine uNo (by kernel_rfl))
       | (refine flatMk ?_; kernel_rfl)
       | (refine And.intro ?_ ?_)
       | (intro hx)
       | ((first
           | (refine callGF ?_)
           | (refine callQGF ?_)
           | (refine skipG ?_)
           | (refine callM (dst := some 12) (pick_gives bs _ _ r _ hr hrl (H.up (by omega) (by omega))) ?_)
           | (refine callM (dst := some 19) (pick_gives bs _ _ r _ (r9 _) (by simp; omega) (H.up (by omega) (by omega))) ?_)
           | (refine inX_mkU [r] [] (by kernel_rfl) (by simp; omega) ?_)
           | (refine callXR (dst := some 25) (r := r) (by simp) (by simp; omega) (fun h' hr' hl' => of_gives bs _ ss t r h' (hr'.trans (r9 _)) hl' (H.up (by omega) (by omega)) hss.1) ?_)); simp -implicitDefEqProofs only [hz', w1, r1, r2, r5, r6, r7, r8, lenMax, List.set_set, List.length_set, push_cast, Nat.reduceEqDiff, Nat.reduceBEq, Nat.reduceBNe, Nat.reduceAdd, Nat.reduceMul, Nat.reduceLT, Nat.reduceLeDiff, Nat.reduceSub, reduceCtorEq, Int.reduceToNat, ↓reduceIte]))
    all_goals first
      | omega
      | exact back_rd hrl bs _ _
      | exact back_set rfl hrl (rdC_cl _ _ _)
      | trace_state
end Go.Proofs.YtdoclnjmcmdfdaaDoor
