/- Contracts of functions of the program (Ge). -/
import Derived.Test.YthopahcgbbkblaaGreatDoorGd

namespace Go.Proofs.YthopahcgbbkblaaGreatDoor
set_option linter.unusedSectionVars false
open Go.Av
variable [Av.Start]
set_option maxRecDepth 10000
set_option linter.unusedSimpArgs false
set_option linter.unusedVariables false

def eqSB {α : Type} [Inhabited α] (B : α → α → Bool) (a b : List α) : Bool := decide (a.length = b.length) && allB a.length (fun i => B (a.getD i default) (b.getD i default))
omit [Av.Start] in
theorem eqSB_self {α : Type} [Inhabited α] {B : α → α → Bool} (hB : ∀ x, B x x = true) (a : List α) : eqSB B a a = true := by
  rw [eqSB, decide_eq_true rfl, allB_t (fun i _ => hB _)]
  rfl
omit [Av.Start] in
theorem Leg.cl (n : Nat) (l : Leg) : ∀ d, d ∈ l.cs → Cl n d := by
  simp only [Leg.cs, List.mem_cons, List.not_mem_nil, or_false, forall_eq_or_imp, forall_eq, cl_int, cl_str, cl_no, and_self]
omit [Av.Start] in
theorem zLeg_cl (n : Nat) : ∀ d, d ∈ ([.str [], .str [], .str [], .int .i64 0, .int .i64 0, .int .i64 0, .slice [] .full, .slice [] .full, .slice [] .full, .slice [] .full] : List D) → Cl n d := by
  simp only [List.mem_cons, List.not_mem_nil, or_false, forall_eq_or_imp, forall_eq, cl_int, cl_str, cl_full, and_self]

def szL (n : Int) (l : Leg) : Int := szGo n [l.name.length, l.src.length, l.dst.length, l.limits.length, l.sold.length, l.bids.length, l.holds.length]
def szLs : Int → List Leg → Int
  | n, [] => n
  | n, l :: ls => if szL n l < 0 then -1 else szLs (szL n l) ls
omit [Av.Start] in
theorem szLs_drop (n : Int) {net : List Leg} {k : Nat} (h : k < net.length) : szLs n (net.drop k) = if szL n (net.getD k default) < 0 then -1 else szLs (szL n (net.getD k default)) (net.drop (k + 1)) := by
  rw [List.drop_eq_getElem_cons h, szLs, List.getD_eq_getElem?_getD, List.getElem?_eq_getElem h]
  rfl
end Go.Proofs.YthopahcgbbkblaaGreatDoor

namespace Go.Proofs.YthopahcgbbkblaaGreatDoor
set_option linter.unusedSectionVars false
open Go.Av
variable [Av.Start]
set_option maxRecDepth 10000
set_option linter.unusedSimpArgs false
set_option linter.unusedVariables false

structure Trip where
  legs : List (List UInt8)
  fare : List UInt8
  seats : Int
def Trip.cs (t : Trip) : List D := [.slice (t.legs.map .str) .no, .str t.fare, .int .i64 t.seats]
def Trip.d (t : Trip) : D := .agg t.cs
attribute [push_cast] Trip.cs Trip.d
omit [Av.Start] in
theorem Trip.fit {t : Trip} (h : fitsD t.d) : t.legs.length ≤ 1073741824 ∧ t.fare.length ≤ 1073741824 := by
  simpa [fitsD, Trip.d, Trip.cs, flen, lenMax] using h

theorem indexStr_gives (xs : List (List UInt8)) (s : List UInt8) (h : Hp) : Gives Tryz.prog 174 [.slice (xs.map .str) .no, .str s] h (.int .i64 (idxV (fun x => decide (s = x)) xs)) := by
  refine meets_of [] mixed Tryz.func174 rfl (by kernel_rfl) (by kernel_rfl) (by rw [Tryz.ntmps174]; simp only [List.length_cons, List.length_nil]; omega) (fun hf => ?_)
  rw [Tryz.results174]
  have hl : xs.length ≤ 1073741824 := by simpa using slice_fit (hf (.slice (xs.map .str) .no) (by simp))
  clear hf
  simp -implicitDefEqProofs only [push_cast, Nat.reduceEqDiff, Nat.reduceBEq, Nat.reduceBNe, Nat.reduceAdd, Nat.reduceMul, Nat.reduceLT, Nat.reduceLeDiff, Nat.reduceSub, reduceCtorEq, Int.reduceToNat, ↓reduceIte]
  refine ev_loop0 [] (fun k : Nat => [(0, .slice (xs.map .str) .no), (1, .str s), (7, .int .i64 xs.length), (8, .int .i64 k)]) (fun k => k ≤ xs.length ∧ ∀ i, i < k → ¬s = xs.getD i []) (fun k => xs.length - k) 0 trivial ⟨Nat.zero_le _, fun i hi => absurd hi (Nat.not_lt_zero i)⟩ ?_ ?_
  · refine ⟨rfl, [], ?_⟩
    simp -implicitDefEqProofs only [Int.natCast_add, Int.cast_ofNat_Int, List.length_nil, Nat.le_refl, WeakTo, tokSts, tokOks, List.append_cancel_left_eq, exists_eq_left', exists_eq_left, List.append_cancel_left_eq, List.take_length, ObCl, and_true, true_and, push_cast, Nat.reduceEqDiff, Nat.reduceBEq, Nat.reduceBNe, Nat.reduceAdd, Nat.reduceMul, Nat.reduceLT, Nat.reduceLeDiff, Nat.reduceSub, reduceCtorEq, Int.reduceToNat, ↓reduceIte]
  · intro k hk
    have hw : IntKind.i64.wrap ((k : Int) + 1) = k + 1 := wrap_id (by omega) (by omega)
    try simp -implicitDefEqProofs only [hw, push_cast, Nat.reduceEqDiff, Nat.reduceBEq, Nat.reduceBNe, Nat.reduceAdd, Nat.reduceMul, Nat.reduceLT, Nat.reduceLeDiff, Nat.reduceSub, reduceCtorEq, Int.reduceToNat, ↓reduceIte]
    repeat'
      (first
       | (refine uYes ?_; first | exact List.mem_cons_self | (simp only [List.mem_cons, List.not_mem_nil, or_false, true_or, or_true]; done))
       | (refine uNo (by kernel_rfl))
       | (refine flatMk ?_; kernel_rfl)
       | (refine And.intro ?_ ?_)
       | (intro hx)
       | ((first
           | (refine callGF ?_)
           | (refine callQGF ?_)
           | (refine skipG ?_)
           | (refine callS (in_gives ..) ?_)
           | (refine callQ (in_gives ..) ?_)
           | (refine callG (fun hc => (in_gives ..)) ?_)
           | (refine callQG (fun hc => (in_gives ..)) ?_)); simp -implicitDefEqProofs only [hw, push_cast, Nat.reduceEqDiff, Nat.reduceBEq, Nat.reduceBNe, Nat.reduceAdd, Nat.reduceMul, Nat.reduceLT, Nat.reduceLeDiff, Nat.reduceSub, reduceCtorEq, Int.reduceToNat, ↓reduceIte]))
    all_goals first
      | omega
      | (refine round_mk0 (k + 1) ⟨by omega, fun i hi => ?_⟩ (by omega) ⟨[], ?_⟩
         · by_cases e : i = k
           · rw [e]; exact hx
           · exact hk.2 i (by omega)
         · simp -implicitDefEqProofs only [hw, Int.natCast_add, Int.cast_ofNat_Int, List.length_nil, Nat.le_refl, WeakTo, tokSts, tokOks, List.append_cancel_left_eq, exists_eq_left', exists_eq_left, List.append_cancel_left_eq, List.take_length, ObCl, and_true, true_and, push_cast, Nat.reduceEqDiff, Nat.reduceBEq, Nat.reduceBNe, Nat.reduceAdd, Nat.reduceMul, Nat.reduceLT, Nat.reduceLeDiff, Nat.reduceSub, reduceCtorEq, Int.reduceToNat, ↓reduceIte])
      | (rw [idxV_at [] (by omega) (fun i hi => decide_eq_false (hk.2 i hi)) (decide_eq_true hx)])
      | (rw [idxV_none [] (fun i hi => decide_eq_false (hk.2 i (by omega)))])
def hasB (xs : List (List UInt8)) (s : List UInt8) : Bool := decide (0 ≤ idxV (fun x => decide (s = x)) xs)
omit [Av.Start] in
theorem hasB_iff {xs : List (List UInt8)} {s : List UInt8} : hasB xs s = true ↔ s ∈ xs := by
  rw [hasB, decide_eq_true_eq]
  constructor
  · intro h
    obtain ⟨k, k1, k2, k3, _⟩ := idxV_spec ([] : List UInt8) h
    rw [of_decide_eq_true k3, List.getD_eq_getElem?_getD, List.getElem?_eq_getElem k2]
    exact List.getElem_mem k2
  · intro h
    rw [idxV, if_pos]
    · omega
    · rw [List.any_eq_true]
      exact ⟨s, h, decide_eq_true rfl⟩
theorem containsStr_gives (xs : List (List UInt8)) (s : List UInt8) (h : Hp) : Gives Tryz.prog 164 [.slice (xs.map .str) .no, .str s] h (.bool (hasB xs s)) := by
  refine meets_of [] mixed Tryz.func164 rfl (by kernel_rfl) (by kernel_rfl) (by rw [Tryz.ntmps164]; simp only [List.length_cons, List.length_nil]; omega) (fun hf => ?_)
  rw [Tryz.results164]
  clear hf
  try simp -implicitDefEqProofs only [push_cast, Nat.reduceEqDiff, Nat.reduceBEq, Nat.reduceBNe, Nat.reduceAdd, Nat.reduceMul, Nat.reduceLT, Nat.reduceLeDiff, Nat.reduceSub, reduceCtorEq, Int.reduceToNat, ↓reduceIte]
  repeat'
    (first
     | (refine uYes ?_; first | exact List.mem_cons_self | (simp only [List.mem_cons, List.not_mem_nil, or_false, true_or, or_true]; done))
     | (refine uNo (by kernel_rfl))
     | (refine flatMk ?_; kernel_rfl)
     | (refine And.intro ?_ ?_)
     | (intro hx)
     | ((first
         | (refine callGF ?_)
         | (refine callQGF ?_)
         | (refine skipG ?_)
         | (refine callS (indexStr_gives xs s _) ?_)
         | (refine callQ (indexStr_gives xs s _) ?_)
         | (refine callG (fun hc => (indexStr_gives xs s _)) ?_)
         | (refine callQG (fun hc => (indexStr_gives xs s _)) ?_)); simp -implicitDefEqProofs only [push_cast, Nat.reduceEqDiff, Nat.reduceBEq, Nat.reduceBNe, Nat.reduceAdd, Nat.reduceMul, Nat.reduceLT, Nat.reduceLeDiff, Nat.reduceSub, reduceCtorEq, Int.reduceToNat, ↓reduceIte]))
  all_goals rfl

/-- a name, and none of those ahead of it -/
def unlikeAt (xs : List (List UInt8)) (i : Nat) : Bool := nameB (xs.getD i []) && !hasB (xs.take i) (xs.getD i [])
omit [Av.Start] in
theorem hasB_take {xs : List (List UInt8)} {s : List UInt8} {i : Nat} (hi : i ≤ xs.length) : hasB (xs.take i) s = true ↔ ∃ j, j < i ∧ xs.getD j [] = s := by
  rw [hasB_iff, List.mem_iff_getElem]
  constructor
  · rintro ⟨j, hj, e⟩
    rw [List.length_take] at hj
    refine ⟨j, by omega, ?_⟩
    rw [← e, List.getElem_take, List.getD_eq_getElem?_getD, List.getElem?_eq_getElem (by omega)]
    rfl
  · rintro ⟨j, hj, e⟩
    refine ⟨j, by rw [List.length_take]; omega, ?_⟩
    rw [← e, List.getElem_take, List.getD_eq_getElem?_getD, List.getElem?_eq_getElem (by omega)]
    rfl
theorem unlike_gives (xs : List (List UInt8)) (h : Hp) : Gives Tryz.prog 142 [.slice (xs.map .str) .no] h (.bool (allB xs.length (unlikeAt xs))) := by
  refine meets_of [] mixed Tryz.func142 rfl (by kernel_rfl) (by kernel_rfl) (by rw [Tryz.ntmps142]; simp only [List.length_cons, List.length_nil]; omega) (fun hf => ?_)
  rw [Tryz.results142]
  have hl : xs.length ≤ 1073741824 := by simpa using slice_fit (hf (.slice (xs.map .str) .no) (by simp))
  clear hf
  simp -implicitDefEqProofs only [push_cast, Nat.reduceEqDiff, Nat.reduceBEq, Nat.reduceBNe, Nat.reduceAdd, Nat.reduceMul, Nat.reduceLT, Nat.reduceLeDiff, Nat.reduceSub, reduceCtorEq, Int.reduceToNat, ↓reduceIte]
  refine ev_loop0 [] (fun k : Nat => [(0, .slice (xs.map .str) .no), (5, .slice (xs.map .str) .no), (6, .int .i64 xs.length), (7, .int .i64 k)]) (fun k => k ≤ xs.length ∧ ∀ i, i < k → unlikeAt xs i = true) (fun k => xs.length - k) 0 trivial ⟨Nat.zero_le _, fun i hi => absurd hi (Nat.not_lt_zero i)⟩ ?_ ?_
  · refine ⟨rfl, [], ?_⟩
    simp -implicitDefEqProofs only [Int.natCast_add, Int.cast_ofNat_Int, List.length_nil, Nat.le_refl, WeakTo, tokSts, tokOks, List.append_cancel_left_eq, exists_eq_left', exists_eq_left, List.append_cancel_left_eq, List.take_length, ObCl, and_true, true_and, push_cast, Nat.reduceEqDiff, Nat.reduceBEq, Nat.reduceBNe, Nat.reduceAdd, Nat.reduceMul, Nat.reduceLT, Nat.reduceLeDiff, Nat.reduceSub, reduceCtorEq, Int.reduceToNat, ↓reduceIte]
  · intro k hk
    have hw : IntKind.i64.wrap ((k : Int) + 1) = k + 1 := wrap_id (by omega) (by omega)
    try simp -implicitDefEqProofs only [hw, push_cast, Nat.reduceEqDiff, Nat.reduceBEq, Nat.reduceBNe, Nat.reduceAdd, Nat.reduceMul, Nat.reduceLT, Nat.reduceLeDiff, Nat.reduceSub, reduceCtorEq, Int.reduceToNat, ↓reduceIte]
    repeat'
      (first
       | (refine uYes ?_; first | exact List.mem_cons_self | (simp only [List.mem_cons, List.not_mem_nil, or_false, true_or, or_true]; done))
       | (refine uNo (by kernel_rfl))
       | (refine flatMk ?_; kernel_rfl)
       | (refine And.intro ?_ ?_)
       | (intro hx)
       | ((first
           | (refine callGF ?_)
           | (refine callQGF ?_)
           | (refine skipG ?_)
           | (refine callS (implName_gives _ _) ?_)
           | (refine callQ (implName_gives _ _) ?_)
           | (refine callG (fun hc => (implName_gives _ _)) ?_)
           | (refine callQG (fun hc => (implName_gives _ _)) ?_)
           | (refine callS (containsStr_gives (xs.take k) _ _) ?_)
           | (refine callQ (containsStr_gives (xs.take k) _ _) ?_)
           | (refine callG (fun hc => (containsStr_gives (xs.take k) _ _)) ?_)
           | (refine callQG (fun hc => (containsStr_gives (xs.take k) _ _)) ?_)); simp -implicitDefEqProofs only [hw, push_cast, Nat.reduceEqDiff, Nat.reduceBEq, Nat.reduceBNe, Nat.reduceAdd, Nat.reduceMul, Nat.reduceLT, Nat.reduceLeDiff, Nat.reduceSub, reduceCtorEq, Int.reduceToNat, ↓reduceIte]))
    all_goals first
      | omega
      | (refine round_mk0 (k + 1) ⟨by omega, allB_step hk.2 ?_⟩ (by omega) ⟨[], ?_⟩
         · rw [unlikeAt]; grind
         · simp -implicitDefEqProofs only [hw, Int.natCast_add, Int.cast_ofNat_Int, List.length_nil, Nat.le_refl, WeakTo, tokSts, tokOks, List.append_cancel_left_eq, exists_eq_left', exists_eq_left, List.append_cancel_left_eq, List.take_length, ObCl, and_true, true_and, push_cast, Nat.reduceEqDiff, Nat.reduceBEq, Nat.reduceBNe, Nat.reduceAdd, Nat.reduceMul, Nat.reduceLT, Nat.reduceLeDiff, Nat.reduceSub, reduceCtorEq, Int.reduceToNat, ↓reduceIte])
      | (rw [allB_f k (by omega) (by rw [unlikeAt]; grind)])
      | (obtain rfl : k = xs.length := by omega
         rw [allB_t hk.2])
def formB (t : Trip) : Bool := inB t.legs.length 1 3 && allB t.legs.length (unlikeAt t.legs) && nameB t.fare && inB t.seats 1 4
end Go.Proofs.YthopahcgbbkblaaGreatDoor

namespace Go.Proofs.YthopahcgbbkblaaGreatDoor
set_option linter.unusedSectionVars false
open Go.Av
variable [Av.Start]
set_option maxRecDepth 10000
set_option linter.unusedSimpArgs false
set_option linter.unusedVariables false

def sCs (s : List UInt8) : List D := [.str s]
omit [Av.Start] in
theorem sCs_cl (n : Nat) (s : List UInt8) : ∀ d, d ∈ sCs s → Cl n d := by
  simp only [sCs, List.mem_cons, List.not_mem_nil, or_false, forall_eq, cl_str]
omit [Av.Start] in
theorem zStr_cl (n : Nat) : ∀ d, d ∈ ([.str []] : List D) → Cl n d := by
  simp only [List.mem_cons, List.not_mem_nil, or_false, forall_eq, cl_str]
attribute [push_cast] sCs

def szS : Int → List (List UInt8) → Int
  | n, [] => n
  | n, s :: ss => if IntKind.i64.wrap (n - s.length) < 0 then -1 else szS (IntKind.i64.wrap (n - s.length)) ss
omit [Av.Start] in
theorem szS_drop (n : Int) {xs : List (List UInt8)} {k : Nat} (h : k < xs.length) : szS n (xs.drop k) = if IntKind.i64.wrap (n - (xs.getD k []).length) < 0 then -1 else szS (IntKind.i64.wrap (n - (xs.getD k []).length)) (xs.drop (k + 1)) := by
  rw [List.drop_eq_getElem_cons h, szS, List.getD_eq_getElem?_getD, List.getElem?_eq_getElem h]
  rfl
def szSs (n : Int) (xs : List (List UInt8)) : Int := if IntKind.i64.wrap (n - xs.length) < 0 then -1 else szS (IntKind.i64.wrap (n - xs.length)) xs
def szT (n : Int) (t : Trip) : Int := if szSs n t.legs < 0 then -1 else if IntKind.i64.wrap (szSs n t.legs - t.fare.length) < 0 then -1 else IntKind.i64.wrap (szSs n t.legs - t.fare.length)
def eqTripB (a b : Trip) : Bool := decide (a.legs = b.legs) && decide (a.fare = b.fare) && decide (a.seats = b.seats)
omit [Av.Start] in
theorem eqTripB_self (a : Trip) : eqTripB a a = true := by
  simp [eqTripB]
/-- where a trip's leg is -/
def tripIdx (net : List Leg) (t : Trip) (i : Nat) : Int := legIdx net (t.legs.getD i [])
def tripLeg (net : List Leg) (t : Trip) (i : Nat) : Leg := net.getD (tripIdx net t i).toNat default
def nextB (a b : Leg) : Bool := decide (a.dst = b.src) && decide (a.arr < b.dep)
def tripAt (net : List Leg) (t : Trip) (i : Nat) : Bool := decide (0 ≤ tripIdx net t i) && (decide (i = 0) || nextB (tripLeg net t (i - 1)) (tripLeg net t i))
def fitsB (net : List Leg) (t : Trip) : Bool := formB t && allB t.legs.length (tripAt net t)
omit [Av.Start] in
theorem tripIdx_lt {net : List Leg} {t : Trip} {i : Nat} (h : 0 ≤ tripIdx net t i) : tripIdx net t i < net.length := by
  obtain ⟨k, k1, k2, _⟩ := idxV_spec (default : Leg) h
  rw [tripIdx, legIdx, k1]
  omega
omit [Av.Start] in
theorem leg_at' {xs : List Leg} {k : Int} (h0 : 0 ≤ k) (h : k < xs.length) : (xs.map Leg.d).getD k.toNat (.agg [.str [], .str [], .str [], .int .i64 0, .int .i64 0, .int .i64 0, .slice [] .full, .slice [] .full, .slice [] .full, .slice [] .full]) = .agg (xs.getD k.toNat default).cs := leg_at (by omega)
def lastCs (net : List Leg) (t : Trip) : Nat → List D
  | 0 => [.str [], .str [], .str [], .int .i64 0, .int .i64 (-1), .int .i64 0, .slice [] .full, .slice [] .full, .slice [] .full, .slice [] .full]
  | k + 1 => (tripLeg net t k).cs
omit [Av.Start] in
theorem lastCs_cl (net : List Leg) (t : Trip) (n : Nat) : ∀ k d, d ∈ lastCs net t k → Cl n d
  | 0 => by simp only [lastCs, List.mem_cons, List.not_mem_nil, or_false, forall_eq_or_imp, forall_eq, cl_int, cl_str, cl_full, and_self, implies_true]
  | k + 1 => Leg.cl n _
end Go.Proofs.YthopahcgbbkblaaGreatDoor
