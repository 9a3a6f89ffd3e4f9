/- The library's Itoa and Join, as contracts over data. -/
import Derived.Test.YtcmpcpigchlhpaaDoorShl
import Derived.Test.YtcmpcpigchlhpaaDoorEs
import Derived.Test.YtcmpcpigchlhpaaDoorGa
import Derived.Test.YtcmpcpigchlhpaaDoorGr
import Derived.Test.YtcmpcpigchlhpaaDoorGe
import Derived.Test.YtcmpcpigchlhpaaDoorGf
import Derived.Test.YtcmpcpigchlhpaaDoorGc
import Derived.Test.YtcmpcpigchlhpaaDoorGd
import Derived.Test.YtcmpcpigchlhpaaDoorGg
import Derived.Test.YtcmpcpigchlhpaaDoorGu
import Derived.Test.YtcmpcpigchlhpaaDoorEd
import Derived.Stop.LaidErr
import Derived.MakeChecks

namespace Go.Proofs.YtcmpcpigchlhpaaDoor
set_option linter.unusedSectionVars false
open Go.Av
variable [Av.Start]
set_option maxRecDepth 10000
set_option maxHeartbeats 1000000
set_option linter.unusedSimpArgs false
set_option linter.unusedVariables false

theorem repL1 {w : World} {ow : Nat → Nat → Prop} {σ : Sg} {h : Hp} {d : D} {vs : List Value} (H : RepL w ow σ h [d] vs) : ∃ v, vs = [v] ∧ Rep w ow σ h d v := by
  obtain ⟨h1, h2⟩ := H
  match vs, h1 with
  | [v], _ => exact ⟨v, rfl, h2 0 (by simp) (by simp)⟩
theorem repL2 {w : World} {ow : Nat → Nat → Prop} {σ : Sg} {h : Hp} {d e : D} {vs : List Value} (H : RepL w ow σ h [d, e] vs) : ∃ v u, vs = [v, u] ∧ Rep w ow σ h d v ∧ Rep w ow σ h e u := by
  obtain ⟨h1, h2⟩ := H
  match vs, h1 with
  | [v, u], _ => exact ⟨v, u, rfl, h2 0 (by simp) (by simp), h2 1 (by simp) (by simp)⟩
theorem bytes_back (s : List UInt8) : (⟨s.toArray⟩ : ByteArray).data.toList = s := rfl
theorem below_grow (w : World) (k : Nat) (os : Array Obj) : RowKit.Below w.heap.size w (Sort.grow (w.drewN k) os) := by
  refine ⟨rfl, rfl, rfl, by simp [Sort.grow, World.drewN], fun b hb => ?_⟩
  simp only [Sort.grow, World.drewN]
  rw [Array.getElem?_append_left hb]

/-- the table of powers of ten, as it is laid at the start -/
class TabPow [Av.Start] : Prop where
  pow10 : Lib.TabIs Tryd.prog Av.Start.w0 "internal/strconv.uint64pow10" .u64 Lib.pow10Tab
theorem tab_now {P : Program} {w : World} {σ : Sg} {h : Hp} (hi : Inv w σ h) {n : String} {k : IntKind} {zs : List Int} (e : Lib.TabIs P Av.Start.w0 n k zs) : Lib.TabIs P w n k zs := var_kept hi.kept.same e
variable [TabPow]
theorem itoa_gives (n : Int) (h : Hp) (h0 : -9223372036854775808 ≤ n) (h1 : n ≤ 9223372036854775807) : Gives Tryd.prog 36 [.int .i64 n] h (.str (Lib.itoa n)) := by
  refine gives_lib (enters_at Tryd.func36 (by kernel_rfl) (by kernel_rfl)) fun w σ vs hi hr => ?_
  obtain ⟨v, rfl, hv⟩ := repL1 hr
  cases hv
  refine (Any.strconv_Itoa Tryd.laysM171 n h0 h1 w (tab_now hi TabPow.pow10)).mono ?_
  rintro e w' ⟨rfl, k, os, rfl⟩
  have hl := Lib.itoa_length_le n h0 h1
  exact ⟨_, rfl, below_grow w k os, fun ow _ => .str _ (by simp only [lenMax]; omega)⟩
end Go.Proofs.YtcmpcpigchlhpaaDoor

/- The reference's l1Dec, l2Num, l3Cut, l6List. -/
namespace Go.Proofs.YtcmpcpigchlhpaaDoor
set_option linter.unusedSectionVars false
open Go.Av
variable [Av.Start]
set_option maxRecDepth 10000
set_option maxHeartbeats 1000000
set_option linter.unusedSimpArgs false
set_option linter.unusedVariables false

theorem u8w {n : Int} (h0 : 0 ≤ n) (h1 : n ≤ 255) : IntKind.u8.wrap n = n := by
  rw [show IntKind.u8.wrap n = n % 256 from rfl]
  omega
theorem dec_gives : ∀ (k : Nat) (u : Nat), u < 10 ^ (k + 1) → u ≤ 9223372036854775807 → ∀ h : Hp, Gives Tryd.prog 40 [.int .i64 u] h (.str (Lib.decDigits u))
  | k, u, hk, hu, h => by
    have hl : (Lib.decDigits u).length ≤ 20 := by
      have := Lib.nDigits_le20 u (by omega)
      rwa [← Lib.decDigits_length] at this
    have d0 : decide ((u : Int) < -9223372036854775807) = false := decide_eq_false (by omega)
    have d1 : decide ((u : Int) < 0) = false := decide_eq_false (by omega)
    by_cases h10 : u < 10
    · have d2 : decide ((u : Int) < 10) = true := decide_eq_true (by omega)
      have w1 : IntKind.i64.wrap (48 + (u : Int)) = 48 + u := wrap_id (by omega) (by omega)
      have w2 : IntKind.u8.wrap (48 + (u : Int)) = 48 + u := u8w (by omega) (by omega)
      have w3 : (48 + (u : Int)).toNat = 48 + u := by omega
      rw [dec_small h10]
      refine meets_of [] mixed Tryd.func40 rfl (by kernel_rfl) (by kernel_rfl) (by rw [Tryd.ntmps40]; simp only [List.length_cons, List.length_nil]; omega) (fun hf => ?_)
      rw [Tryd.results40]
      clear hf
      try simp -implicitDefEqProofs only [d0, d1, d2, w1, w2, w3, lenMax, push_cast, Nat.reduceEqDiff, Nat.reduceBEq, Nat.reduceBNe, Nat.reduceAdd, Nat.reduceMul, Nat.reduceLT, Nat.reduceLeDiff, Nat.reduceSub, reduceCtorEq, Int.reduceToNat, ↓reduceIte]
      repeat'
        (first
         | (refine uYes ?_; first | exact List.mem_cons_self | (simp only [List.mem_cons, List.not_mem_nil, or_false, true_or, or_true]; done))
         | (refine uNo (by kernel_rfl))
         | (refine flatMk ?_; kernel_rfl)
         | (refine And.intro ?_ ?_)
         | (intro hx)
         | ((first
             | (refine callGF ?_)
             | (refine callQGF ?_)
             | (refine skipG ?_)
             | (refine callS (in_gives ..) ?_)
             | (refine callQ (in_gives ..) ?_)
             | (refine callG (fun hc => (in_gives ..)) ?_)
             | (refine callQG (fun hc => (in_gives ..)) ?_)); simp -implicitDefEqProofs only [d0, d1, d2, w1, w2, w3, lenMax, push_cast, Nat.reduceEqDiff, Nat.reduceBEq, Nat.reduceBNe, Nat.reduceAdd, Nat.reduceMul, Nat.reduceLT, Nat.reduceLeDiff, Nat.reduceSub, reduceCtorEq, Int.reduceToNat, ↓reduceIte]))
      all_goals first
        | omega
        | rfl
        | trace_state
    · have d2 : decide ((u : Int) < 10) = false := decide_eq_false (by omega)
      match k, hk with
      | 0, hk => omega
      | k + 1, hk =>
        have ih := dec_gives k (u / 10) (by rw [Nat.pow_succ] at hk; omega) (by omega)
        rw [Int.natCast_ediv] at ih
        have q0 : (u : Int).tdiv 10 = u / 10 := Int.tdiv_eq_ediv_of_nonneg (by omega)
        have q1 : (u : Int).tmod 10 = u % 10 := Int.tmod_eq_emod_of_nonneg (by omega)
        have w1 : IntKind.i64.wrap ((u : Int) / 10) = u / 10 := wrap_id (by omega) (by omega)
        have w2 : IntKind.i64.wrap (48 + (u : Int) % 10) = 48 + u % 10 := wrap_id (by omega) (by omega)
        have w3 : IntKind.u8.wrap (48 + (u : Int) % 10) = 48 + u % 10 := u8w (by omega) (by omega)
        have w4 : (48 + (u : Int) % 10).toNat = 48 + u % 10 := by omega
        have w5 : IntKind.i64.wrap ((u : Int) % 10) = u % 10 := wrap_id (by omega) (by omega)
        rw [dec_big h10] at hl ⊢
        refine meets_of [1000007] mixed Tryd.func40 rfl (by kernel_rfl) (by kernel_rfl) (by rw [Tryd.ntmps40]; simp only [List.length_cons, List.length_nil]; omega) (fun hf => ?_)
        rw [Tryd.results40]
        clear hf
        try simp -implicitDefEqProofs only [d0, d1, d2, q0, q1, w1, w2, w3, w4, w5, lenMax, push_cast, Nat.reduceEqDiff, Nat.reduceBEq, Nat.reduceBNe, Nat.reduceAdd, Nat.reduceMul, Nat.reduceLT, Nat.reduceLeDiff, Nat.reduceSub, reduceCtorEq, Int.reduceToNat, ↓reduceIte]
        repeat'
          (first
           | (refine uYes ?_; first | exact List.mem_cons_self | (simp only [List.mem_cons, List.not_mem_nil, or_false, true_or, or_true]; done))
           | (refine uNo (by kernel_rfl))
           | (refine flatMk ?_; kernel_rfl)
           | (refine And.intro ?_ ?_)
           | (intro hx)
           | ((first
               | (refine inX_mk [] (by kernel_rfl) (by simp) ?_)
               | (refine callGF ?_)
               | (refine callQGF ?_)
               | (refine skipG ?_)
               | (refine callS (ih _) ?_)
               | (refine callQ (ih _) ?_)
               | (refine callG (fun hc => (ih _)) ?_)
               | (refine callQG (fun hc => (ih _)) ?_)
               | (refine callXG (fun _ => (ih _)) ?_)); simp -implicitDefEqProofs only [d0, d1, d2, q0, q1, w1, w2, w3, w4, w5, lenMax, push_cast, Nat.reduceEqDiff, Nat.reduceBEq, Nat.reduceBNe, Nat.reduceAdd, Nat.reduceMul, Nat.reduceLT, Nat.reduceLeDiff, Nat.reduceSub, reduceCtorEq, Int.reduceToNat, ↓reduceIte]))
        all_goals first
          | omega
          | (exact absurd hx (by decide))
          | (rw [List.length_append] at hl; omega)
          | trace_state
theorem l1Dec_gives (n : Int) (h : Hp) (h0 : -9223372036854775808 ≤ n) (h1 : n ≤ 9223372036854775807) : Gives Tryd.prog 40 [.int .i64 n] h (.str (Lib.itoa n)) := by
  by_cases hn : n < 0
  · by_cases hm : n < -9223372036854775807
    · obtain rfl : n = -9223372036854775808 := by omega
      have e : Lib.itoa (-9223372036854775808) = [45, 57, 50, 50, 51, 51, 55, 50, 48, 51, 54, 56, 53, 52, 55, 55, 53, 56, 48, 56] := by
        have hv := dec_valD _ [57, 50, 50, 51, 51, 55, 50, 48, 51, 54, 56, 53, 52, 55, 55, 53, 56, 48, 56] rfl (by simp) (by decide) (.inr (by decide))
        rw [show valD [57, 50, 50, 51, 51, 55, 50, 48, 51, 54, 56, 53, 52, 55, 55, 53, 56, 48, 56] = 9223372036854775808 by decide] at hv
        rw [Lib.itoa, if_pos (by omega), show (-9223372036854775808 : Int).natAbs = 9223372036854775808 by decide, hv]
      rw [e]
      refine meets_of [] mixed Tryd.func40 rfl (by kernel_rfl) (by kernel_rfl) (by rw [Tryd.ntmps40]; simp only [List.length_cons, List.length_nil]; omega) (fun hf => ?_)
      rw [Tryd.results40]
      clear hf
      try simp -implicitDefEqProofs only [lenMax, push_cast, Nat.reduceEqDiff, Nat.reduceBEq, Nat.reduceBNe, Nat.reduceAdd, Nat.reduceMul, Nat.reduceLT, Nat.reduceLeDiff, Nat.reduceSub, reduceCtorEq, Int.reduceToNat, ↓reduceIte]
      repeat'
        (first
         | (refine uYes ?_; first | exact List.mem_cons_self | (simp only [List.mem_cons, List.not_mem_nil, or_false, true_or, or_true]; done))
         | (refine uNo (by kernel_rfl))
         | (refine flatMk ?_; kernel_rfl)
         | (refine And.intro ?_ ?_)
         | (intro hx)
         | ((first
             | (refine callGF ?_)
             | (refine callQGF ?_)
             | (refine skipG ?_)
             | (refine callS (in_gives ..) ?_)
             | (refine callQ (in_gives ..) ?_)
             | (refine callG (fun hc => (in_gives ..)) ?_)
             | (refine callQG (fun hc => (in_gives ..)) ?_)); simp -implicitDefEqProofs only [lenMax, push_cast, Nat.reduceEqDiff, Nat.reduceBEq, Nat.reduceBNe, Nat.reduceAdd, Nat.reduceMul, Nat.reduceLT, Nat.reduceLeDiff, Nat.reduceSub, reduceCtorEq, Int.reduceToNat, ↓reduceIte]))
      all_goals first
        | omega
        | rfl
        | trace_state
    · obtain ⟨u, rfl⟩ : ∃ u : Nat, n = -(u : Int) := ⟨n.natAbs, by omega⟩
      have ih := dec_gives 19 u (by omega) (by omega)
      have hl : (Lib.decDigits u).length ≤ 20 := by
        have := Lib.nDigits_le20 u (by omega)
        rwa [← Lib.decDigits_length] at this
      have e : Lib.itoa (-(u : Int)) = 45 :: Lib.decDigits u := by
        rw [Lib.itoa, if_pos hn]
        congr 2
        omega
      rw [e]
      have d0 : decide (-(u : Int) < -9223372036854775807) = false := decide_eq_false hm
      have d1 : decide (-(u : Int) < 0) = true := decide_eq_true hn
      have w1 : IntKind.i64.wrap (0 - -(u : Int)) = u := by rw [wrap_id (by omega) (by omega)]; omega
      have w2 : IntKind.i64.wrap (u : Int) = u := wrap_id (by omega) (by omega)
      refine meets_of [] mixed Tryd.func40 rfl (by kernel_rfl) (by kernel_rfl) (by rw [Tryd.ntmps40]; simp only [List.length_cons, List.length_nil]; omega) (fun hf => ?_)
      rw [Tryd.results40]
      clear hf
      try simp -implicitDefEqProofs only [d0, d1, w1, w2, Int.neg_neg, lenMax, push_cast, Nat.reduceEqDiff, Nat.reduceBEq, Nat.reduceBNe, Nat.reduceAdd, Nat.reduceMul, Nat.reduceLT, Nat.reduceLeDiff, Nat.reduceSub, reduceCtorEq, Int.reduceToNat, ↓reduceIte]
      repeat'
        (first
         | (refine uYes ?_; first | exact List.mem_cons_self | (simp only [List.mem_cons, List.not_mem_nil, or_false, true_or, or_true]; done))
         | (refine uNo (by kernel_rfl))
         | (refine flatMk ?_; kernel_rfl)
         | (refine And.intro ?_ ?_)
         | (intro hx)
         | ((first
             | (refine callGF ?_)
             | (refine callQGF ?_)
             | (refine skipG ?_)
             | (refine callS (ih _) ?_)
             | (refine callQ (ih _) ?_)
             | (refine callG (fun hc => (ih _)) ?_)
             | (refine callQG (fun hc => (ih _)) ?_)); simp -implicitDefEqProofs only [d0, d1, w1, w2, Int.neg_neg, lenMax, push_cast, Nat.reduceEqDiff, Nat.reduceBEq, Nat.reduceBNe, Nat.reduceAdd, Nat.reduceMul, Nat.reduceLT, Nat.reduceLeDiff, Nat.reduceSub, reduceCtorEq, Int.reduceToNat, ↓reduceIte]))
      all_goals first
        | omega
        | rfl
        | trace_state
  · obtain ⟨u, rfl⟩ : ∃ u : Nat, n = (u : Int) := ⟨n.toNat, by omega⟩
    rw [itoa_nat]
    exact dec_gives 19 u (by omega) (by omega) h
/-- numbers with commas between -/
def numsT (xs : List Int) : List UInt8 := joinC 44 (xs.map Lib.itoa)
theorem numsT_snoc (xs : List Int) (n : Int) (h : xs ≠ []) : numsT (xs ++ [n]) = numsT xs ++ 44 :: Lib.itoa n := by
  induction xs with
  | nil => exact absurd rfl h
  | cons x xs ih =>
    cases xs with
    | nil => rfl
    | cons y ys =>
      have := ih (by simp)
      simp only [numsT, List.map_cons, List.cons_append, joinC] at this ⊢
      rw [this, List.append_assoc]
      rfl
theorem numsT_len : ∀ (xs : List Int), (∀ x, x ∈ xs → inI x) → (numsT xs).length ≤ 22 * xs.length
  | [], _ => Nat.le_refl _
  | [x], h => by
    have := Lib.itoa_length_le x (h x (by simp)).1 (h x (by simp)).2
    show (Lib.itoa x).length ≤ _
    simp only [List.length_cons, List.length_nil]
    omega
  | x :: y :: ys, h => by
    have h1 := Lib.itoa_length_le x (h x (by simp)).1 (h x (by simp)).2
    have h2 := numsT_len (y :: ys) (fun z hz => h z (List.mem_cons_of_mem _ hz))
    have e : numsT (x :: y :: ys) = Lib.itoa x ++ 44 :: numsT (y :: ys) := rfl
    rw [e, List.length_append, List.length_cons]
    simp only [List.length_cons] at h2 ⊢
    omega
end Go.Proofs.YtcmpcpigchlhpaaDoor

/- A leg as a text, on both sides. -/
namespace Go.Proofs.YtcmpcpigchlhpaaDoor
set_option linter.unusedSectionVars false
open Go.Av
variable [Av.Start] [TabPow]
set_option maxRecDepth 10000
set_option maxHeartbeats 1000000
set_option linter.unusedSimpArgs false
set_option linter.unusedVariables false

omit [TabPow] in
theorem gives_wk' {P : Program} {f : FuncId} {ys xs : List D} {h : Hp} {d : D} (H : Gives P f xs h d) (hw : WkL ys xs) : Gives P f ys h d := ⟨H.1, fun w σ vs hi hr => H.2 w σ vs hi (hr.wk hw)⟩
omit [TabPow] in
theorem strs_cln' (xs : List (List UInt8)) (n : Nat) : Cl n (.slice (xs.map D.str) .no) := .slice _ _ (fun _ _ e => nomatch e)
/-- a leg's text -/
def legT (l : Leg) : List UInt8 := joinC 32 [l.name, l.src, l.dst, Lib.itoa l.dep, Lib.itoa l.arr, numsT l.limits, numsT l.sold, numsT l.bids]
structure Leg.Small (l : Leg) : Prop where
  name : l.name.length ≤ 8
  src : l.src.length ≤ 8
  dst : l.dst.length ≤ 8
  dep : inI l.dep
  arr : inI l.arr
  limits : (∀ x, x ∈ l.limits → inI x) ∧ l.limits.length ≤ 10
  sold : (∀ x, x ∈ l.sold → inI x) ∧ l.sold.length ≤ 10
  bids : (∀ x, x ∈ l.bids → inI x) ∧ l.bids.length ≤ 10
theorem Leg.small {l : Leg} (hb : legB l = true) : l.Small := by
  have hp := legP_of hb
  have hd := hp.dep
  have ha := hp.arr
  have hc := hp.cap
  have hl := hp.limits
  have hs := hp.sold
  have hbi := hp.bids
  refine ⟨(nameB_len hp.name).2, (nameB_len hp.src).2, (nameB_len hp.dst).2, ⟨by omega, by omega⟩, ⟨by omega, by omega⟩, ⟨(all_getD (d := 0)).1 fun i hi => ?_, by omega⟩, ⟨fun x hx => ?_, by omega⟩, ⟨(all_getD (d := 0)).1 fun i hi => ?_, by omega⟩⟩
  · have := hp.lim i (by omega)
    exact ⟨by omega, by omega⟩
  · have := hp.sol x hx
    exact ⟨by omega, by omega⟩
  · have := hp.bid i hi
    exact ⟨by omega, by omega⟩
end Go.Proofs.YtcmpcpigchlhpaaDoor

/- What a row's list of laid tables gives. -/
namespace Go.Proofs.YtcmpcpigchlhpaaDoor
set_option linter.unusedSectionVars false
set_option maxRecDepth 10000
set_option maxHeartbeats 1000000
set_option linter.unusedVariables false

theorem pow10_g : Tryd.prog.globalNamed "internal/strconv.uint64pow10" = some (Tryd.prog.globalNamed "internal/strconv.uint64pow10" |>.getD 0) := by kernel_rfl
theorem pow10_tab : (Rows.laid_internal_strconv_uint64pow10 : DataW Unit) = Lib.tabData .u64 Lib.pow10Tab := by kernel_rfl
theorem pow10_of {W : World} {a b : String × DataW Unit} {rest : List (String × DataW Unit)} (h : laidMet Tryd.prog (a :: b :: ("internal/strconv.uint64pow10", Rows.laid_internal_strconv_uint64pow10) :: rest) W) : Lib.TabIs Tryd.prog W "internal/strconv.uint64pow10" .u64 Lib.pow10Tab := by
  have h := h.tail.tail
  rw [pow10_tab] at h
  exact Lib.tabIs_of_head pow10_g (t := 120) (e := 67) (n := 20) (by kernel_rfl) Tryd.underlying120 Tryd.underlying67 (by kernel_rfl) (by kernel_rfl) h
end Go.Proofs.YtcmpcpigchlhpaaDoor
