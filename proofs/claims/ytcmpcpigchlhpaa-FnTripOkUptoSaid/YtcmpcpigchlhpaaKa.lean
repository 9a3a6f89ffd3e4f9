/- The reference's numeral, without the library's tables. -/
import Derived.Test.YtcmpcpigchlhpaaGr
import Derived.Test.YtcmpcpigchlhpaaGe
import Derived.Test.YtcmpcpigchlhpaaGo

namespace Go.Proofs.Ytcmpcpigchlhpaa
set_option linter.unusedSectionVars false
open Go.Av
variable [Av.Start]
set_option maxRecDepth 10000
set_option maxHeartbeats 1000000
set_option linter.unusedSimpArgs false
set_option linter.unusedVariables false

theorem u8wP {n : Int} (h0 : 0 ≤ n) (h1 : n ≤ 255) : IntKind.u8.wrap n = n := by
  rw [show IntKind.u8.wrap n = n % 256 from rfl]
  omega
theorem decP_gives : ∀ (k : Nat) (u : Nat), u < 10 ^ (k + 1) → u ≤ 9223372036854775807 → ∀ h : Hp, Gives Try.prog 96 [.int .i64 u] h (.str (Lib.decDigits u))
  | k, u, hk, hu, h => by
    have hl : (Lib.decDigits u).length ≤ 20 := by
      have := Lib.nDigits_le20 u (by omega)
      rwa [← Lib.decDigits_length] at this
    have d0 : decide ((u : Int) < -9223372036854775807) = false := decide_eq_false (by omega)
    have d1 : decide ((u : Int) < 0) = false := decide_eq_false (by omega)
    by_cases h10 : u < 10
    · have d2 : decide ((u : Int) < 10) = true := decide_eq_true (by omega)
      have w1 : IntKind.i64.wrap (48 + (u : Int)) = 48 + u := wrap_id (by omega) (by omega)
      have w2 : IntKind.u8.wrap (48 + (u : Int)) = 48 + u := u8wP (by omega) (by omega)
      have w3 : (48 + (u : Int)).toNat = 48 + u := by omega
      rw [dec_small h10]
      refine meets_of [] mixed Try.func96 rfl (by kernel_rfl) (by kernel_rfl) (by rw [Try.ntmps96]; simp only [List.length_cons, List.length_nil]; omega) (fun hf => ?_)
      rw [Try.results96]
      clear hf
      try simp -implicitDefEqProofs only [d0, d1, d2, w1, w2, w3, lenMax, push_cast, Nat.reduceEqDiff, Nat.reduceBEq, Nat.reduceBNe, Nat.reduceAdd, Nat.reduceMul, Nat.reduceLT, Nat.reduceLeDiff, Nat.reduceSub, reduceCtorEq, Int.reduceToNat, ↓reduceIte]
      repeat'
        (first
         | (refine uYes ?_; first | exact List.mem_cons_self | (simp only [List.mem_cons, List.not_mem_nil, or_false, true_or, or_true]; done))
         | (refine uNo (by kernel_rfl))
         | (refine flatMk ?_; kernel_rfl)
         | (refine And.intro ?_ ?_)
         | (intro hx)
         | ((first
             | (refine callGF ?_)
             | (refine callQGF ?_)
             | (refine skipG ?_)
             | (refine callS (in_gives ..) ?_)
             | (refine callQ (in_gives ..) ?_)
             | (refine callG (fun hc => (in_gives ..)) ?_)
             | (refine callQG (fun hc => (in_gives ..)) ?_)); simp -implicitDefEqProofs only [d0, d1, d2, w1, w2, w3, lenMax, push_cast, Nat.reduceEqDiff, Nat.reduceBEq, Nat.reduceBNe, Nat.reduceAdd, Nat.reduceMul, Nat.reduceLT, Nat.reduceLeDiff, Nat.reduceSub, reduceCtorEq, Int.reduceToNat, ↓reduceIte]))
      all_goals first
        | omega
        | rfl
        | trace_state
    · have d2 : decide ((u : Int) < 10) = false := decide_eq_false (by omega)
      match k, hk with
      | 0, hk => omega
      | k + 1, hk =>
        have ih := decP_gives k (u / 10) (by rw [Nat.pow_succ] at hk; omega) (by omega)
        rw [Int.natCast_ediv] at ih
        have q0 : (u : Int).tdiv 10 = u / 10 := Int.tdiv_eq_ediv_of_nonneg (by omega)
        have q1 : (u : Int).tmod 10 = u % 10 := Int.tmod_eq_emod_of_nonneg (by omega)
        have w1 : IntKind.i64.wrap ((u : Int) / 10) = u / 10 := wrap_id (by omega) (by omega)
        have w2 : IntKind.i64.wrap (48 + (u : Int) % 10) = 48 + u % 10 := wrap_id (by omega) (by omega)
        have w3 : IntKind.u8.wrap (48 + (u : Int) % 10) = 48 + u % 10 := u8wP (by omega) (by omega)
        have w4 : (48 + (u : Int) % 10).toNat = 48 + u % 10 := by omega
        have w5 : IntKind.i64.wrap ((u : Int) % 10) = u % 10 := wrap_id (by omega) (by omega)
        rw [dec_big h10] at hl ⊢
        refine meets_of [1000007] mixed Try.func96 rfl (by kernel_rfl) (by kernel_rfl) (by rw [Try.ntmps96]; simp only [List.length_cons, List.length_nil]; omega) (fun hf => ?_)
        rw [Try.results96]
        clear hf
        try simp -implicitDefEqProofs only [d0, d1, d2, q0, q1, w1, w2, w3, w4, w5, lenMax, push_cast, Nat.reduceEqDiff, Nat.reduceBEq, Nat.reduceBNe, Nat.reduceAdd, Nat.reduceMul, Nat.reduceLT, Nat.reduceLeDiff, Nat.reduceSub, reduceCtorEq, Int.reduceToNat, ↓reduceIte]
        repeat'
          (first
           | (refine uYes ?_; first | exact List.mem_cons_self | (simp only [List.mem_cons, List.not_mem_nil, or_false, true_or, or_true]; done))
           | (refine uNo (by kernel_rfl))
           | (refine flatMk ?_; kernel_rfl)
           | (refine And.intro ?_ ?_)
           | (intro hx)
           | ((first
               | (refine inX_mk [] (by kernel_rfl) (by simp) ?_)
               | (refine callGF ?_)
               | (refine callQGF ?_)
               | (refine skipG ?_)
               | (refine callS (ih _) ?_)
               | (refine callQ (ih _) ?_)
               | (refine callG (fun hc => (ih _)) ?_)
               | (refine callQG (fun hc => (ih _)) ?_)
               | (refine callXG (fun _ => (ih _)) ?_)); simp -implicitDefEqProofs only [d0, d1, d2, q0, q1, w1, w2, w3, w4, w5, lenMax, push_cast, Nat.reduceEqDiff, Nat.reduceBEq, Nat.reduceBNe, Nat.reduceAdd, Nat.reduceMul, Nat.reduceLT, Nat.reduceLeDiff, Nat.reduceSub, reduceCtorEq, Int.reduceToNat, ↓reduceIte]))
        all_goals first
          | omega
          | (exact absurd hx (by decide))
          | (rw [List.length_append] at hl; omega)
          | trace_state
theorem l1DecP_gives (n : Int) (h : Hp) (h0 : -9223372036854775808 ≤ n) (h1 : n ≤ 9223372036854775807) : Gives Try.prog 96 [.int .i64 n] h (.str (Lib.itoa n)) := by
  by_cases hn : n < 0
  · by_cases hm : n < -9223372036854775807
    · obtain rfl : n = -9223372036854775808 := by omega
      have e : Lib.itoa (-9223372036854775808) = [45, 57, 50, 50, 51, 51, 55, 50, 48, 51, 54, 56, 53, 52, 55, 55, 53, 56, 48, 56] := by
        have hv := dec_valD _ [57, 50, 50, 51, 51, 55, 50, 48, 51, 54, 56, 53, 52, 55, 55, 53, 56, 48, 56] rfl (by simp) (by decide) (.inr (by decide))
        rw [show valD [57, 50, 50, 51, 51, 55, 50, 48, 51, 54, 56, 53, 52, 55, 55, 53, 56, 48, 56] = 9223372036854775808 by decide] at hv
        rw [Lib.itoa, if_pos (by omega), show (-9223372036854775808 : Int).natAbs = 9223372036854775808 by decide, hv]
      rw [e]
      refine meets_of [] mixed Try.func96 rfl (by kernel_rfl) (by kernel_rfl) (by rw [Try.ntmps96]; simp only [List.length_cons, List.length_nil]; omega) (fun hf => ?_)
      rw [Try.results96]
      clear hf
      try simp -implicitDefEqProofs only [lenMax, push_cast, Nat.reduceEqDiff, Nat.reduceBEq, Nat.reduceBNe, Nat.reduceAdd, Nat.reduceMul, Nat.reduceLT, Nat.reduceLeDiff, Nat.reduceSub, reduceCtorEq, Int.reduceToNat, ↓reduceIte]
      repeat'
        (first
         | (refine uYes ?_; first | exact List.mem_cons_self | (simp only [List.mem_cons, List.not_mem_nil, or_false, true_or, or_true]; done))
         | (refine uNo (by kernel_rfl))
         | (refine flatMk ?_; kernel_rfl)
         | (refine And.intro ?_ ?_)
         | (intro hx)
         | ((first
             | (refine callGF ?_)
             | (refine callQGF ?_)
             | (refine skipG ?_)
             | (refine callS (in_gives ..) ?_)
             | (refine callQ (in_gives ..) ?_)
             | (refine callG (fun hc => (in_gives ..)) ?_)
             | (refine callQG (fun hc => (in_gives ..)) ?_)); simp -implicitDefEqProofs only [lenMax, push_cast, Nat.reduceEqDiff, Nat.reduceBEq, Nat.reduceBNe, Nat.reduceAdd, Nat.reduceMul, Nat.reduceLT, Nat.reduceLeDiff, Nat.reduceSub, reduceCtorEq, Int.reduceToNat, ↓reduceIte]))
      all_goals first
        | omega
        | rfl
        | trace_state
    · obtain ⟨u, rfl⟩ : ∃ u : Nat, n = -(u : Int) := ⟨n.natAbs, by omega⟩
      have ih := decP_gives 19 u (by omega) (by omega)
      have hl : (Lib.decDigits u).length ≤ 20 := by
        have := Lib.nDigits_le20 u (by omega)
        rwa [← Lib.decDigits_length] at this
      have e : Lib.itoa (-(u : Int)) = 45 :: Lib.decDigits u := by
        rw [Lib.itoa, if_pos hn]
        congr 2
        omega
      rw [e]
      have d0 : decide (-(u : Int) < -9223372036854775807) = false := decide_eq_false hm
      have d1 : decide (-(u : Int) < 0) = true := decide_eq_true hn
      have w1 : IntKind.i64.wrap (0 - -(u : Int)) = u := by rw [wrap_id (by omega) (by omega)]; omega
      have w2 : IntKind.i64.wrap (u : Int) = u := wrap_id (by omega) (by omega)
      refine meets_of [] mixed Try.func96 rfl (by kernel_rfl) (by kernel_rfl) (by rw [Try.ntmps96]; simp only [List.length_cons, List.length_nil]; omega) (fun hf => ?_)
      rw [Try.results96]
      clear hf
      try simp -implicitDefEqProofs only [d0, d1, w1, w2, Int.neg_neg, lenMax, push_cast, Nat.reduceEqDiff, Nat.reduceBEq, Nat.reduceBNe, Nat.reduceAdd, Nat.reduceMul, Nat.reduceLT, Nat.reduceLeDiff, Nat.reduceSub, reduceCtorEq, Int.reduceToNat, ↓reduceIte]
      repeat'
        (first
         | (refine uYes ?_; first | exact List.mem_cons_self | (simp only [List.mem_cons, List.not_mem_nil, or_false, true_or, or_true]; done))
         | (refine uNo (by kernel_rfl))
         | (refine flatMk ?_; kernel_rfl)
         | (refine And.intro ?_ ?_)
         | (intro hx)
         | ((first
             | (refine callGF ?_)
             | (refine callQGF ?_)
             | (refine skipG ?_)
             | (refine callS (ih _) ?_)
             | (refine callQ (ih _) ?_)
             | (refine callG (fun hc => (ih _)) ?_)
             | (refine callQG (fun hc => (ih _)) ?_)); simp -implicitDefEqProofs only [d0, d1, w1, w2, Int.neg_neg, lenMax, push_cast, Nat.reduceEqDiff, Nat.reduceBEq, Nat.reduceBNe, Nat.reduceAdd, Nat.reduceMul, Nat.reduceLT, Nat.reduceLeDiff, Nat.reduceSub, reduceCtorEq, Int.reduceToNat, ↓reduceIte]))
      all_goals first
        | omega
        | rfl
        | trace_state
  · obtain ⟨u, rfl⟩ : ∃ u : Nat, n = (u : Int) := ⟨n.toNat, by omega⟩
    rw [itoa_nat]
    exact decP_gives 19 u (by omega) (by omega) h
end Go.Proofs.Ytcmpcpigchlhpaa

/- Rules: what may be drawn, and what the reference says of it. -/
namespace Go.Proofs.Ytcmpcpigchlhpaa
set_option linter.unusedSectionVars false
open Go.Av
variable [Av.Start]
set_option maxRecDepth 10000
set_option maxHeartbeats 1000000
set_option linter.unusedSimpArgs false
set_option linter.unusedVariables false

structure Mrk where
  at_ : Int
  price : Int
instance : Inhabited Mrk := ⟨⟨0, 0⟩⟩
def Mrk.cs (m : Mrk) : List D := [.int .i64 m.at_, .int .i64 m.price]
def Mrk.d (m : Mrk) : D := .agg m.cs
omit [Av.Start] in
theorem allSz_mrks (xs : List Mrk) : AllSz 2 (xs.map Mrk.d) ↔ True := allSz_map 2 _ xs (fun _ => rfl)
attribute [push_cast] Mrk.cs Mrk.d allSz_mrks
omit [Av.Start] in
theorem mrk_at {xs : List Mrk} {k : Nat} (h : k < xs.length) : (xs.map Mrk.d).getD k (.agg [.int .i64 0, .int .i64 0]) = .agg [.int .i64 (xs.getD k default).at_, .int .i64 (xs.getD k default).price] := getD_at default h
structure MrkP (ms : List Mrk) : Prop where
  len : 1 ≤ ms.length ∧ ms.length ≤ 4
  num : ∀ i, i < ms.length → 0 ≤ (ms.getD i default).at_ ∧ (ms.getD i default).at_ ≤ 1000 ∧ 0 ≤ (ms.getD i default).price ∧ (ms.getD i default).price ≤ 1000000
  first : (ms.getD 0 default).at_ = 0
  asc : ∀ i, 0 < i → i < ms.length → (ms.getD (i - 1) default).at_ < (ms.getD i default).at_
def kidsN (op : Int) : Nat := if op = 1 ∨ op = 2 then 0 else if op = 10 then 1 else if op = 6 then 3 else if op = 9 then 4 else 2
def ruD (op num : Int) (name : List UInt8) (kids : List D) (ms : List Mrk) : D := .agg [.int .i64 op, .int .i64 num, .str name, .slice kids .no, .slice (ms.map Mrk.d) .no]
def leafP (op num : Int) (name : List UInt8) : Prop := (op = 1 ∧ -1000000000 ≤ num ∧ num ≤ 1000000000 ∧ name = []) ∨ (op = 2 ∧ num = 0 ∧ nameB name = true ∧ name.length ≤ 8)
structure NodeP (op : Int) (kids : List D) (ms : List Mrk) : Prop where
  lo : 3 ≤ op
  hi : op ≤ 10
  klen : kids.length = kidsN op
  no : op ≠ 10 → ms = []
  ms : op = 10 → MrkP ms
def RuleD : Nat → D → Prop
  | 0, d => ∃ op num name, leafP op num name ∧ d = ruD op num name [] []
  | n + 1, d => (∃ op num name, leafP op num name ∧ d = ruD op num name [] []) ∨ ∃ op kids ms, NodeP op kids ms ∧ (∀ k, k ∈ kids → RuleD n k) ∧ d = ruD op 0 [] kids ms
/-- all that a drawn rule is -/
structure RuleP (n : Nat) (op num : Int) (name : List UInt8) (kids : List D) (ms : List Mrk) : Prop where
  lo : 1 ≤ op
  hi : op ≤ 10
  klen : kids.length = kidsN op
  sub : ∀ k, k ∈ kids → ∃ m, n = m + 1 ∧ RuleD m k
  no : op ≠ 10 → ms = []
  ms : op = 10 → MrkP ms
  num : op = 1 ∧ -1000000000 ≤ num ∧ num ≤ 1000000000 ∨ op ≠ 1 ∧ num = 0
  name : op = 2 ∧ nameB name = true ∧ name.length ≤ 8 ∨ op ≠ 2 ∧ name = []
omit [Av.Start] in
theorem leaf_p {n : Nat} {op num : Int} {name : List UInt8} (h : leafP op num name) : RuleP n op num name [] [] := by
  rcases h with ⟨rfl, h1, h2, rfl⟩ | ⟨rfl, rfl, h1, h2⟩
  · exact ⟨by omega, by omega, rfl, fun k hk => (nomatch hk), fun _ => rfl, fun e => absurd e (by decide), .inl ⟨rfl, h1, h2⟩, .inr ⟨by decide, rfl⟩⟩
  · exact ⟨by omega, by omega, rfl, fun k hk => (nomatch hk), fun _ => rfl, fun e => absurd e (by decide), .inr ⟨by decide, rfl⟩, .inl ⟨rfl, h1, h2⟩⟩
omit [Av.Start] in
theorem RuleD.p : ∀ {n : Nat} {d : D}, RuleD n d → ∃ op num name kids ms, d = ruD op num name kids ms ∧ RuleP n op num name kids ms
  | 0, d, ⟨op, num, name, h, e⟩ => ⟨op, num, name, [], [], e, leaf_p h⟩
  | n + 1, d, .inl ⟨op, num, name, h, e⟩ => ⟨op, num, name, [], [], e, leaf_p h⟩
  | n + 1, d, .inr ⟨op, kids, ms, h, hk, e⟩ => ⟨op, 0, [], kids, ms, e, by have := h.lo; omega, h.hi, h.klen, fun k hk' => ⟨n, rfl, hk k hk'⟩, h.no, h.ms, .inr ⟨by have := h.lo; omega, rfl⟩, .inr ⟨by have := h.lo; omega, rfl⟩⟩
omit [Av.Start] in
theorem kidsN_le (op : Int) : kidsN op ≤ 4 := by
  rw [kidsN]
  repeat' split
  all_goals omega
omit [Av.Start] in
theorem ruleD_sz {n : Nat} {d : D} (H : RuleD n d) : d.cells.length = 5 := by
  obtain ⟨op, num, name, kids, ms, rfl, _⟩ := H.p
  rfl
omit [Av.Start] in
theorem RuleP.allSz {n : Nat} {op num : Int} {name : List UInt8} {kids : List D} {ms : List Mrk} (H : RuleP n op num name kids ms) : AllSz 5 kids ↔ True :=
  ⟨fun _ => trivial, fun _ k hk => by obtain ⟨m, _, h⟩ := H.sub k hk; exact ruleD_sz h⟩
omit [Av.Start] in
theorem RuleP.kid {n : Nat} {op num : Int} {name : List UInt8} {kids : List D} {ms : List Mrk} (H : RuleP n op num name kids ms) {i : Nat} (hi : i < kids.length) : ∃ m, n = m + 1 ∧ RuleD m (kids.getD i .junk) ∧ ∀ z, kids.getD i z = kids.getD i .junk := by
  have e : ∀ z, kids.getD i z = kids[i] := fun z => by rw [List.getD_eq_getElem?_getD, List.getElem?_eq_getElem hi]; rfl
  obtain ⟨m, h1, h2⟩ := H.sub _ (List.getElem_mem hi)
  exact ⟨m, h1, by rw [e]; exact h2, fun z => by rw [e, e]⟩

theorem l4Kids_gives (op : Int) (h : Hp) (h1 : 1 ≤ op) (h2 : op ≤ 10) : Gives Try.prog 98 [.int .i64 op] h (.int .i64 (kidsN op)) := by
  have hc : op = 1 ∨ op = 2 ∨ op = 3 ∨ op = 4 ∨ op = 5 ∨ op = 6 ∨ op = 7 ∨ op = 8 ∨ op = 9 ∨ op = 10 := by omega
  rcases hc with rfl | rfl | rfl | rfl | rfl | rfl | rfl | rfl | rfl | rfl
  all_goals
    refine meets_of [] mixed Try.func98 rfl (by kernel_rfl) (by kernel_rfl) (by rw [Try.ntmps98]; simp only [List.length_cons, List.length_nil]; omega) (fun hf => ?_)
    rw [Try.results98]
    clear hf
    try simp -implicitDefEqProofs only [push_cast, Nat.reduceEqDiff, Nat.reduceBEq, Nat.reduceBNe, Nat.reduceAdd, Nat.reduceMul, Nat.reduceLT, Nat.reduceLeDiff, Nat.reduceSub, reduceCtorEq, Int.reduceToNat, ↓reduceIte]
    repeat'
      (first
       | (refine uYes ?_; first | exact List.mem_cons_self | (simp only [List.mem_cons, List.not_mem_nil, or_false, true_or, or_true]; done))
       | (refine uNo (by kernel_rfl))
       | (refine flatMk ?_; kernel_rfl)
       | (refine And.intro ?_ ?_)
       | (intro hx)
       | ((first
           | (refine callGF ?_)
           | (refine callQGF ?_)
           | (refine skipG ?_)
           | (refine callS (in_gives _ _ _ _) ?_)
           | (refine callQ (in_gives _ _ _ _) ?_)
           | (refine callG (fun hc => (in_gives _ _ _ _)) ?_)
           | (refine callQG (fun hc => (in_gives _ _ _ _)) ?_)); simp -implicitDefEqProofs only [push_cast, Nat.reduceEqDiff, Nat.reduceBEq, Nat.reduceBNe, Nat.reduceAdd, Nat.reduceMul, Nat.reduceLT, Nat.reduceLeDiff, Nat.reduceSub, reduceCtorEq, Int.reduceToNat, ↓reduceIte]))
    all_goals first
      | rfl
      | omega
      | trace_state
end Go.Proofs.Ytcmpcpigchlhpaa
