/- Contracts of functions of the program (Ga). -/
import Derived.Test.YtcmpcpigchlhpaaTis

namespace Go.Proofs.Ytcmpcpigchlhpaa
set_option linter.unusedSectionVars false
open Go.Av
variable [Av.Start]
set_option maxRecDepth 10000
set_option linter.unusedSimpArgs false
set_option linter.unusedVariables false

structure Hold where
  txn : Int
  cls : Int
  seats : Int
structure Leg where
  name : List UInt8
  src : List UInt8
  dst : List UInt8
  dep : Int
  arr : Int
  cap : Int
  limits : List Int
  sold : List Int
  bids : List Int
  holds : List Hold
instance : DecidableEq Hold := fun a b => decidable_of_iff (a.txn = b.txn ∧ a.cls = b.cls ∧ a.seats = b.seats) ⟨fun h => by cases a; cases b; simp only at h; obtain ⟨rfl, rfl, rfl⟩ := h; rfl, fun h => by subst h; exact ⟨rfl, rfl, rfl⟩⟩
instance : Inhabited Hold := ⟨⟨0, 0, 0⟩⟩
instance : Inhabited Leg := ⟨⟨[], [], [], 0, 0, 0, [], [], [], []⟩⟩
def Hold.cs (h : Hold) : List D := [.int .i64 h.txn, .int .i64 h.cls, .int .i64 h.seats]
def Hold.d (h : Hold) : D := .agg h.cs
def Leg.cs (l : Leg) : List D := [.str l.name, .str l.src, .str l.dst, .int .i64 l.dep, .int .i64 l.arr, .int .i64 l.cap, .slice (l.limits.map (.int .i64)) .no, .slice (l.sold.map (.int .i64)) .no, .slice (l.bids.map (.int .i64)) .no, .slice (l.holds.map Hold.d) .no]
def Leg.d (l : Leg) : D := .agg l.cs
omit [Av.Start] in
theorem getD_holds (xs : List Hold) (i : Nat) : (xs.map Hold.d).getD i (.agg [.int .i64 0, .int .i64 0, .int .i64 0]) = .agg (xs.getD i default).cs := getD_map Hold.d default xs i
omit [Av.Start] in
theorem allSz_holds (xs : List Hold) : AllSz 3 (xs.map Hold.d) ↔ True := allSz_map 3 _ xs (fun _ => rfl)
attribute [push_cast] Hold.cs Hold.d Leg.cs Leg.d getD_holds allSz_holds
omit [Av.Start] in
theorem Leg.fit {l : Leg} (h : fitsD l.d) : l.name.length ≤ 1073741824 ∧ l.src.length ≤ 1073741824 ∧ l.dst.length ≤ 1073741824 ∧ l.limits.length ≤ 1073741824 ∧ l.sold.length ≤ 1073741824 ∧ l.bids.length ≤ 1073741824 ∧ l.holds.length ≤ 1073741824 := by
  simpa [fitsD, Leg.d, Leg.cs, flen, lenMax] using h

omit [Av.Start] in
theorem wrap_id {n : Int} (h1 : -9223372036854775808 ≤ n) (h2 : n ≤ 9223372036854775807) : IntKind.i64.wrap n = n := by
  rw [IntKind.wrap_i64]
  omega

omit [Av.Start] in
theorem take_succ_getD {α : Type} (xs : List α) (d : α) {k : Nat} (h : k < xs.length) : xs.take (k + 1) = xs.take k ++ [xs.getD k d] := by
  rw [List.take_succ_eq_append_getElem h, List.getD_eq_getElem?_getD, List.getElem?_eq_getElem h]; rfl
/-- all of the first n numbers -/
def allB (n : Nat) (f : Nat → Bool) : Bool := (List.range n).all f
omit [Av.Start] in
theorem allB_iff {n : Nat} {f : Nat → Bool} : allB n f = true ↔ ∀ i, i < n → f i = true := by
  simp [allB]
omit [Av.Start] in
theorem allB_t {n : Nat} {f : Nat → Bool} (h : ∀ i, i < n → f i = true) : allB n f = true := allB_iff.2 h
omit [Av.Start] in
theorem allB_f {n : Nat} {f : Nat → Bool} (k : Nat) (hk : k < n) (h : f k = false) : allB n f = false := by
  cases e : allB n f with
  | false => rfl
  | true => rw [allB_iff.1 e k hk] at h; cases h
omit [Av.Start] in
theorem allB_step {k : Nat} {f : Nat → Bool} (h : ∀ i, i < k → f i = true) (hk : f k = true) : ∀ i, i < k + 1 → f i = true := by
  intro i hi
  by_cases e : i = k
  · exact e ▸ hk
  · exact h i (by omega)
section
variable {P : Program} {mu : List Nat} {ops rest : List Oper} {dst : Option Tmp} {fr : Fr} {h : Hp} {K : St → Prop}
omit [Av.Start] in
theorem wkL_refl : ∀ ys, WkL ys ys
  | [] => trivial
  | a :: ys => ⟨.refl a, wkL_refl ys⟩
theorem callS {f : FuncId} {ys : List D} {d : D} (c : Gives P f ys h d) (k : evOps P mu ops rest ⟨putO fr dst d, h⟩ K) : CallSt P mu ops rest dst fr h K f ys := call_gives c (wkL_refl ys) k
theorem callG {f : FuncId} {ys : List D} {d : D} {c : Bool} (hc : c = true → Gives P f ys h d) (k : evOps P mu ops rest ⟨putO fr dst (.when c d), h⟩ K) : CallG P mu ops rest dst fr h K c f ys := callG_gives hc (fun _ => wkL_refl ys) k
theorem callQ {f : FuncId} {ys : List D} {d : D} (c : Gives P f ys h d) (k : evQs P ops rest ⟨putO fr dst d, h⟩ K) : CallQ P ops rest dst fr h K f ys := callQ_gives c (wkL_refl ys) k
theorem callQG {f : FuncId} {ys : List D} {d : D} {c : Bool} (hc : c = true → Gives P f ys h d) (k : evQs P ops rest ⟨putO fr dst (.when c d), h⟩ K) : CallQG P ops rest dst fr h K c f ys := callQG_gives hc (fun _ => wkL_refl ys) k
theorem ev_loop0 {c : Code} {Q : Exit → St → Prop} {α : Type} (toks : List (Nat × Nat)) (L : α → List (Nat × D)) (I : α → Prop) (μ : α → Nat) (x0 : α)
    (ht : tokOks ⟨fr, h⟩ toks) (hI : I x0) (hW : (tokSts ⟨fr, h⟩ toks).h.length = h.length ∧ WeakTo h 0 (tokSts ⟨fr, h⟩ toks) (L x0) [])
    (hround : ∀ x, I x → ev P mu c (thenE (RoundOk h.length (LoopInv h L (fun _ => []) I μ) (μ x) ⟨frL (L x), h⟩) Q) ⟨frL (L x), h⟩) : ev P mu (.loop c) Q ⟨fr, h⟩ := by
  have e := ev_loop (h := h) (ls := []) (P := P) (mu := mu) (fr := fr) (c := c) (Q := Q) toks L (fun _ => []) I μ x0
  simp only [List.append_nil] at e
  exact e ht hI ⟨0, Nat.le_refl _, hW.1, hW.2⟩ hround
omit [Av.Start] in
theorem round_mk0 {n0 : Nat} {α : Type} {L : α → List (Nat × D)} {I : α → Prop} {μ : α → Nat} {m : Nat} {st'' : St} (y : α) (h1 : I y) (h2 : μ y < m) (h3 : WeakTo h 0 st'' (L y) []) :
    RoundOk n0 (LoopInv h L (fun _ => []) I μ) m ⟨fr, h⟩ st'' := by
  have e := round_mk (n0 := n0) (h := h) (L := L) (ls0 := fun _ => []) (I := I) (μ := μ) (m := m) (fr := fr) (ls := []) (st'' := st'') y h1 h2 h3
  simpa only [List.append_nil] using e
end
def inB (n lo hi : Int) : Bool := decide (lo ≤ n) && decide (n ≤ hi)
end Go.Proofs.Ytcmpcpigchlhpaa

namespace Go.Proofs.Ytcmpcpigchlhpaa
set_option linter.unusedSectionVars false
open Go.Av
variable [Av.Start]
set_option maxRecDepth 10000
set_option linter.unusedSimpArgs false
set_option linter.unusedVariables false

theorem l1In_gives (n lo hi : Int) (h : Hp) : Gives Try.prog 30 [.int .i64 n, .int .i64 lo, .int .i64 hi] h (.bool (inB n lo hi)) := by
  refine meets_of [] mixed Try.func30 rfl (by kernel_rfl) (by kernel_rfl) (by rw [Try.ntmps30]; simp only [List.length_cons, List.length_nil]; omega) (fun hf => ?_)
  rw [Try.results30]
  simp -implicitDefEqProofs only [inB, push_cast, Nat.reduceEqDiff, Nat.reduceBEq, Nat.reduceBNe, Nat.reduceAdd, Nat.reduceMul, Nat.reduceLT, Nat.reduceLeDiff, Nat.reduceSub, reduceCtorEq, Int.reduceToNat, ↓reduceIte]
theorem in_gives (n lo hi : Int) (h : Hp) : Gives Try.prog 55 [.int .i64 n, .int .i64 lo, .int .i64 hi] h (.bool (inB n lo hi)) := by
  refine meets_of [] mixed Try.func55 rfl (by kernel_rfl) (by kernel_rfl) (by rw [Try.ntmps55]; simp only [List.length_cons, List.length_nil]; omega) (fun hf => ?_)
  rw [Try.results55]
  simp -implicitDefEqProofs only [inB, push_cast, Nat.reduceEqDiff, Nat.reduceBEq, Nat.reduceBNe, Nat.reduceAdd, Nat.reduceMul, Nat.reduceLT, Nat.reduceLeDiff, Nat.reduceSub, reduceCtorEq, Int.reduceToNat, ↓reduceIte]
theorem isClass_gives (n : Int) (h : Hp) : Gives Try.prog 102 [.int .i64 n] h (.bool (inB n 0 2)) := by
  refine meets_of [] mixed Try.func102 rfl (by kernel_rfl) (by kernel_rfl) (by rw [Try.ntmps102]; simp only [List.length_cons, List.length_nil]; omega) (fun hf => ?_)
  rw [Try.results102]
  try simp -implicitDefEqProofs only [push_cast, Nat.reduceEqDiff, Nat.reduceBEq, Nat.reduceBNe, Nat.reduceAdd, Nat.reduceMul, Nat.reduceLT, Nat.reduceLeDiff, Nat.reduceSub, reduceCtorEq, Int.reduceToNat, ↓reduceIte]
  repeat'
    (first
     | (refine uYes ?_; first | exact List.mem_cons_self | (simp only [List.mem_cons, List.not_mem_nil, or_false, true_or, or_true]; done))
     | (refine uNo (by kernel_rfl))
     | (refine flatMk ?_; kernel_rfl)
     | (refine And.intro ?_ ?_)
     | ((first
         | (refine callGF ?_)
         | (refine callQGF ?_)
         | (refine skipG ?_)
         | (refine callS (in_gives ..) ?_)
         | (refine callQ (in_gives ..) ?_)
         | (refine callG (fun hc => (in_gives ..)) ?_)
         | (refine callQG (fun hc => (in_gives ..)) ?_)); simp -implicitDefEqProofs only [push_cast, Nat.reduceEqDiff, Nat.reduceBEq, Nat.reduceBNe, Nat.reduceAdd, Nat.reduceMul, Nat.reduceLT, Nat.reduceLeDiff, Nat.reduceSub, reduceCtorEq, Int.reduceToNat, ↓reduceIte]))
theorem isTxn_gives (n : Int) (h : Hp) : Gives Try.prog 101 [.int .i64 n] h (.bool (inB n 1 99)) := by
  refine meets_of [] mixed Try.func101 rfl (by kernel_rfl) (by kernel_rfl) (by rw [Try.ntmps101]; simp only [List.length_cons, List.length_nil]; omega) (fun hf => ?_)
  rw [Try.results101]
  try simp -implicitDefEqProofs only [push_cast, Nat.reduceEqDiff, Nat.reduceBEq, Nat.reduceBNe, Nat.reduceAdd, Nat.reduceMul, Nat.reduceLT, Nat.reduceLeDiff, Nat.reduceSub, reduceCtorEq, Int.reduceToNat, ↓reduceIte]
  repeat'
    (first
     | (refine uYes ?_; first | exact List.mem_cons_self | (simp only [List.mem_cons, List.not_mem_nil, or_false, true_or, or_true]; done))
     | (refine uNo (by kernel_rfl))
     | (refine flatMk ?_; kernel_rfl)
     | (refine And.intro ?_ ?_)
     | ((first
         | (refine callGF ?_)
         | (refine callQGF ?_)
         | (refine skipG ?_)
         | (refine callS (in_gives ..) ?_)
         | (refine callQ (in_gives ..) ?_)
         | (refine callG (fun hc => (in_gives ..)) ?_)
         | (refine callQG (fun hc => (in_gives ..)) ?_)); simp -implicitDefEqProofs only [push_cast, Nat.reduceEqDiff, Nat.reduceBEq, Nat.reduceBNe, Nat.reduceAdd, Nat.reduceMul, Nat.reduceLT, Nat.reduceLeDiff, Nat.reduceSub, reduceCtorEq, Int.reduceToNat, ↓reduceIte]))
def mayB (l : Leg) (o : Hold) : Bool := inB o.txn 1 99 && inB o.cls 0 2 && inB o.seats (IntKind.i64.wrap (0 - l.cap)) l.cap && !decide (o.seats = 0)
theorem may_gives (l : Leg) (o : Hold) (h : Hp) : Gives Try.prog 87 [l.d, o.d] h (.bool (mayB l o)) := by
  rw [mayB]
  refine meets_of [] mixed Try.func87 rfl (by kernel_rfl) (by kernel_rfl) (by rw [Try.ntmps87]; simp only [List.length_cons, List.length_nil]; omega) (fun hf => ?_)
  rw [Try.results87]
  try simp -implicitDefEqProofs only [push_cast, Nat.reduceEqDiff, Nat.reduceBEq, Nat.reduceBNe, Nat.reduceAdd, Nat.reduceMul, Nat.reduceLT, Nat.reduceLeDiff, Nat.reduceSub, reduceCtorEq, Int.reduceToNat, ↓reduceIte]
  repeat'
    (first
     | (refine uYes ?_; first | exact List.mem_cons_self | (simp only [List.mem_cons, List.not_mem_nil, or_false, true_or, or_true]; done))
     | (refine uNo (by kernel_rfl))
     | (refine flatMk ?_; kernel_rfl)
     | (refine And.intro ?_ ?_)
     | ((first
         | (refine callGF ?_)
         | (refine callQGF ?_)
         | (refine skipG ?_)
         | (refine callS (in_gives ..) ?_)
         | (refine callQ (in_gives ..) ?_)
         | (refine callG (fun hc => (in_gives ..)) ?_)
         | (refine callQG (fun hc => (in_gives ..)) ?_)
         | (refine callS (isClass_gives ..) ?_)
         | (refine callQ (isClass_gives ..) ?_)
         | (refine callG (fun hc => (isClass_gives ..)) ?_)
         | (refine callQG (fun hc => (isClass_gives ..)) ?_)
         | (refine callS (isTxn_gives ..) ?_)
         | (refine callQ (isTxn_gives ..) ?_)
         | (refine callG (fun hc => (isTxn_gives ..)) ?_)
         | (refine callQG (fun hc => (isTxn_gives ..)) ?_)); simp -implicitDefEqProofs only [push_cast, Nat.reduceEqDiff, Nat.reduceBEq, Nat.reduceBNe, Nat.reduceAdd, Nat.reduceMul, Nat.reduceLT, Nat.reduceLeDiff, Nat.reduceSub, reduceCtorEq, Int.reduceToNat, ↓reduceIte]))
def nameB (s : List UInt8) : Bool := allB s.length (fun i => inB (s.getD i 0).toNat 97 122) && inB s.length 1 8
theorem specName_gives (s : List UInt8) (h : Hp) : Gives Try.prog 85 [.str s] h (.bool (nameB s)) := by
  refine meets_of [] mixed Try.func85 rfl (by kernel_rfl) (by kernel_rfl) (by rw [Try.ntmps85]; simp only [List.length_cons, List.length_nil]; omega) (fun hf => ?_)
  rw [Try.results85]
  have hl : s.length ≤ 1073741824 := by simpa [fitsD, flen, lenMax] using hf
  simp -implicitDefEqProofs only [push_cast, Nat.reduceEqDiff, Nat.reduceBEq, Nat.reduceBNe, Nat.reduceAdd, Nat.reduceMul, Nat.reduceLT, Nat.reduceLeDiff, Nat.reduceSub, reduceCtorEq, Int.reduceToNat, ↓reduceIte]
  refine ev_loop0 [] (fun k : Nat => [(0, .str s), (3, .int .i64 k)]) (fun k => k ≤ s.length ∧ ∀ i, i < k → inB (s.getD i 0).toNat 97 122 = true) (fun k => s.length - k) 0 trivial ⟨Nat.zero_le _, fun i hi => absurd hi (Nat.not_lt_zero i)⟩ ?_ ?_
  · exact ⟨rfl, [], by simp -implicitDefEqProofs only [Int.natCast_add, Int.cast_ofNat_Int, List.length_nil, Nat.le_refl, WeakTo, tokSts, tokOks, List.append_cancel_left_eq, exists_eq_left', exists_eq_left, List.append_cancel_left_eq, List.take_length, ObCl, and_true, true_and, push_cast, Nat.reduceEqDiff, Nat.reduceBEq, Nat.reduceBNe, Nat.reduceAdd, Nat.reduceMul, Nat.reduceLT, Nat.reduceLeDiff, Nat.reduceSub, reduceCtorEq, Int.reduceToNat, ↓reduceIte, List.length_nil, Nat.le_refl]⟩
  · intro k hk
    simp -implicitDefEqProofs only [push_cast, Nat.reduceEqDiff, Nat.reduceBEq, Nat.reduceBNe, Nat.reduceAdd, Nat.reduceMul, Nat.reduceLT, Nat.reduceLeDiff, Nat.reduceSub, reduceCtorEq, Int.reduceToNat, ↓reduceIte]
    refine ⟨fun hlt => ⟨⟨by omega, hlt⟩, fun e => ⟨e, e, by omega, hlt⟩, fun hc => ?_, fun hc => round_mk0 (k + 1) ⟨by omega, allB_step hk.2 ?_⟩ (by omega) ?_⟩, fun hge => ?_⟩
    · rw [nameB, allB_f k (by omega) (by simp only [inB, Bool.and_eq_false_imp, decide_eq_true_eq, decide_eq_false_iff_not]; omega)]; rfl
    · simp only [inB, Bool.and_eq_true, decide_eq_true_eq]; exact hc
    · refine ⟨[], ?_⟩
      simp -implicitDefEqProofs only [Int.natCast_add, Int.cast_ofNat_Int, List.length_nil, Nat.le_refl, WeakTo, tokSts, tokOks, List.append_cancel_left_eq, exists_eq_left', exists_eq_left, List.append_cancel_left_eq, List.take_length, ObCl, and_true, true_and, push_cast, Nat.reduceEqDiff, Nat.reduceBEq, Nat.reduceBNe, Nat.reduceAdd, Nat.reduceMul, Nat.reduceLT, Nat.reduceLeDiff, Nat.reduceSub, reduceCtorEq, Int.reduceToNat, ↓reduceIte, List.length_nil, Nat.le_refl]
      exact wrap_id (by omega) (by omega)
    · obtain rfl : k = s.length := by omega
      try simp -implicitDefEqProofs only [push_cast, Nat.reduceEqDiff, Nat.reduceBEq, Nat.reduceBNe, Nat.reduceAdd, Nat.reduceMul, Nat.reduceLT, Nat.reduceLeDiff, Nat.reduceSub, reduceCtorEq, Int.reduceToNat, ↓reduceIte]
      repeat'
        (first
         | (refine uYes ?_; first | exact List.mem_cons_self | (simp only [List.mem_cons, List.not_mem_nil, or_false, true_or, or_true]; done))
         | (refine uNo (by kernel_rfl))
         | (refine flatMk ?_; kernel_rfl)
         | (refine And.intro ?_ ?_)
         | ((first
             | (refine callGF ?_)
             | (refine callQGF ?_)
             | (refine skipG ?_)
             | (refine callS (l1In_gives ..) ?_)
             | (refine callQ (l1In_gives ..) ?_)
             | (refine callG (fun hc => (l1In_gives ..)) ?_)
             | (refine callQG (fun hc => (l1In_gives ..)) ?_)); simp -implicitDefEqProofs only [push_cast, Nat.reduceEqDiff, Nat.reduceBEq, Nat.reduceBNe, Nat.reduceAdd, Nat.reduceMul, Nat.reduceLT, Nat.reduceLeDiff, Nat.reduceSub, reduceCtorEq, Int.reduceToNat, ↓reduceIte]))
      rw [nameB, allB_t hk.2]; rfl
theorem implName_gives (s : List UInt8) (h : Hp) : Gives Try.prog 54 [.str s] h (.bool (nameB s)) := by
  refine meets_of [] mixed Try.func54 rfl (by kernel_rfl) (by kernel_rfl) (by rw [Try.ntmps54]; simp only [List.length_cons, List.length_nil]; omega) (fun hf => ?_)
  rw [Try.results54]
  have hl : s.length ≤ 1073741824 := by simpa [fitsD, flen, lenMax] using hf
  simp -implicitDefEqProofs only [push_cast, Nat.reduceEqDiff, Nat.reduceBEq, Nat.reduceBNe, Nat.reduceAdd, Nat.reduceMul, Nat.reduceLT, Nat.reduceLeDiff, Nat.reduceSub, reduceCtorEq, Int.reduceToNat, ↓reduceIte]
  refine ev_loop0 [] (fun k : Nat => [(0, .str s), (3, .int .i64 k)]) (fun k => k ≤ s.length ∧ ∀ i, i < k → inB (s.getD i 0).toNat 97 122 = true) (fun k => s.length - k) 0 trivial ⟨Nat.zero_le _, fun i hi => absurd hi (Nat.not_lt_zero i)⟩ ?_ ?_
  · exact ⟨rfl, [], by simp -implicitDefEqProofs only [Int.natCast_add, Int.cast_ofNat_Int, List.length_nil, Nat.le_refl, WeakTo, tokSts, tokOks, List.append_cancel_left_eq, exists_eq_left', exists_eq_left, List.append_cancel_left_eq, List.take_length, ObCl, and_true, true_and, push_cast, Nat.reduceEqDiff, Nat.reduceBEq, Nat.reduceBNe, Nat.reduceAdd, Nat.reduceMul, Nat.reduceLT, Nat.reduceLeDiff, Nat.reduceSub, reduceCtorEq, Int.reduceToNat, ↓reduceIte, List.length_nil, Nat.le_refl]⟩
  · intro k hk
    simp -implicitDefEqProofs only [push_cast, Nat.reduceEqDiff, Nat.reduceBEq, Nat.reduceBNe, Nat.reduceAdd, Nat.reduceMul, Nat.reduceLT, Nat.reduceLeDiff, Nat.reduceSub, reduceCtorEq, Int.reduceToNat, ↓reduceIte]
    refine ⟨fun hlt => ⟨⟨by omega, hlt⟩, fun e => ⟨e, e, by omega, hlt⟩, fun hc => ?_, fun hc => round_mk0 (k + 1) ⟨by omega, allB_step hk.2 ?_⟩ (by omega) ?_⟩, fun hge => ?_⟩
    · rw [nameB, allB_f k (by omega) (by simp only [inB, Bool.and_eq_false_imp, decide_eq_true_eq, decide_eq_false_iff_not]; omega)]; rfl
    · simp only [inB, Bool.and_eq_true, decide_eq_true_eq]; exact hc
    · refine ⟨[], ?_⟩
      simp -implicitDefEqProofs only [Int.natCast_add, Int.cast_ofNat_Int, List.length_nil, Nat.le_refl, WeakTo, tokSts, tokOks, List.append_cancel_left_eq, exists_eq_left', exists_eq_left, List.append_cancel_left_eq, List.take_length, ObCl, and_true, true_and, push_cast, Nat.reduceEqDiff, Nat.reduceBEq, Nat.reduceBNe, Nat.reduceAdd, Nat.reduceMul, Nat.reduceLT, Nat.reduceLeDiff, Nat.reduceSub, reduceCtorEq, Int.reduceToNat, ↓reduceIte, List.length_nil, Nat.le_refl]
      exact wrap_id (by omega) (by omega)
    · obtain rfl : k = s.length := by omega
      try simp -implicitDefEqProofs only [push_cast, Nat.reduceEqDiff, Nat.reduceBEq, Nat.reduceBNe, Nat.reduceAdd, Nat.reduceMul, Nat.reduceLT, Nat.reduceLeDiff, Nat.reduceSub, reduceCtorEq, Int.reduceToNat, ↓reduceIte]
      repeat'
        (first
         | (refine uYes ?_; first | exact List.mem_cons_self | (simp only [List.mem_cons, List.not_mem_nil, or_false, true_or, or_true]; done))
         | (refine uNo (by kernel_rfl))
         | (refine flatMk ?_; kernel_rfl)
         | (refine And.intro ?_ ?_)
         | ((first
             | (refine callGF ?_)
             | (refine callQGF ?_)
             | (refine skipG ?_)
             | (refine callS (in_gives ..) ?_)
             | (refine callQ (in_gives ..) ?_)
             | (refine callG (fun hc => (in_gives ..)) ?_)
             | (refine callQG (fun hc => (in_gives ..)) ?_)); simp -implicitDefEqProofs only [push_cast, Nat.reduceEqDiff, Nat.reduceBEq, Nat.reduceBNe, Nat.reduceAdd, Nat.reduceMul, Nat.reduceLT, Nat.reduceLeDiff, Nat.reduceSub, reduceCtorEq, Int.reduceToNat, ↓reduceIte]))
      rw [nameB, allB_t hk.2]; rfl
end Go.Proofs.Ytcmpcpigchlhpaa

namespace Go.Proofs.Ytcmpcpigchlhpaa
set_option linter.unusedSectionVars false
open Go.Av
variable [Av.Start]
set_option maxRecDepth 10000
set_option linter.unusedSimpArgs false
set_option linter.unusedVariables false

def sumW (n : Int) (xs : List Int) : Int := xs.foldl (fun n s => IntKind.i64.wrap (n + s)) n
def usedW (c n : Int) (hs : List Hold) : Int := hs.foldl (fun n h => if c ≤ h.cls ∧ 0 < h.seats then IntKind.i64.wrap (n + h.seats) else n) n
def backW (c n : Int) (hs : List Hold) : Int := hs.foldl (fun n h => if h.cls = c ∧ h.seats < 0 then IntKind.i64.wrap (n - h.seats) else n) n
omit [Av.Start] in
theorem sumW_succ (n : Int) (xs : List Int) {k : Nat} (h : k < xs.length) : sumW n (xs.take (k + 1)) = IntKind.i64.wrap (sumW n (xs.take k) + xs.getD k 0) := by
  rw [take_succ_getD xs 0 h, sumW, List.foldl_append]; rfl
omit [Av.Start] in
theorem usedW_succ (c n : Int) (xs : List Hold) {k : Nat} (h : k < xs.length) : usedW c n (xs.take (k + 1)) = if c ≤ (xs.getD k default).cls ∧ 0 < (xs.getD k default).seats then IntKind.i64.wrap (usedW c n (xs.take k) + (xs.getD k default).seats) else usedW c n (xs.take k) := by
  rw [take_succ_getD xs default h, usedW, List.foldl_append]; rfl
omit [Av.Start] in
theorem backW_succ (c n : Int) (xs : List Hold) {k : Nat} (h : k < xs.length) : backW c n (xs.take (k + 1)) = if (xs.getD k default).cls = c ∧ (xs.getD k default).seats < 0 then IntKind.i64.wrap (backW c n (xs.take k) - (xs.getD k default).seats) else backW c n (xs.take k) := by
  rw [take_succ_getD xs default h, backW, List.foldl_append]; rfl
omit [Av.Start] in
theorem getD_drop0 (xs : List Int) (a k : Nat) : (xs.drop a).getD k 0 = xs.getD (a + k) 0 := by
  simp [List.getD_eq_getElem?_getD]

/-- what a class and all lower ones use -/
def usedV (l : Leg) (c : Int) : Int := usedW c (sumW 0 (l.sold.drop c.toNat)) l.holds
def backV (l : Leg) (c : Int) : Int := backW c 0 l.holds

theorem used_gives (l : Leg) (c : Int) (h : Hp) (h0 : 0 ≤ c) (h1 : c ≤ l.sold.length) : Gives Try.prog 88 [l.d, .int .i64 c] h (.int .i64 (usedV l c)) := by
  refine meets_of [] mixed Try.func88 rfl (by kernel_rfl) (by kernel_rfl) (by rw [Try.ntmps88]; simp only [List.length_cons, List.length_nil]; omega) (fun hf => ?_)
  rw [Try.results88]
  obtain ⟨_, _, _, _, hf1, _, hf2⟩ := Leg.fit (hf l.d (by simp))
  clear hf
  simp -implicitDefEqProofs only [push_cast, Nat.reduceEqDiff, Nat.reduceBEq, Nat.reduceBNe, Nat.reduceAdd, Nat.reduceMul, Nat.reduceLT, Nat.reduceLeDiff, Nat.reduceSub, reduceCtorEq, Int.reduceToNat, ↓reduceIte]
  refine ⟨⟨h0, h1⟩, ?_⟩
  refine ev_loop [] (fun k : Nat => [(1, .int .i64 c), (2, .ptr h.length 0), (5, .int .i64 (sumW 0 ((l.sold.drop c.toNat).take k))), (13, .slice ((l.sold.drop c.toNat).map (.int .i64)) .no), (14, .int .i64 ((l.sold.length - c.toNat : Nat))), (15, .int .i64 (k : Int))])
    (fun _ => [.row l.cs]) (fun k => k ≤ l.sold.length - c.toNat) (fun k => l.sold.length - c.toNat - k) 0 trivial (Nat.zero_le _) ?_ ?_
  · refine ⟨1, by simp, by simp [tokSts], ?_⟩
    simp -implicitDefEqProofs only [Int.natCast_add, Int.cast_ofNat_Int, List.length_nil, Nat.le_refl, WeakTo, tokSts, tokOks, List.append_cancel_left_eq, exists_eq_left', exists_eq_left, List.append_cancel_left_eq, List.take_length, ObCl, and_true, true_and, push_cast, Nat.reduceEqDiff, Nat.reduceBEq, Nat.reduceBNe, Nat.reduceAdd, Nat.reduceMul, Nat.reduceLT, Nat.reduceLeDiff, Nat.reduceSub, reduceCtorEq, Int.reduceToNat, ↓reduceIte]
    simp [sumW]
  · intro k hk
    simp -implicitDefEqProofs only [push_cast, Nat.reduceEqDiff, Nat.reduceBEq, Nat.reduceBNe, Nat.reduceAdd, Nat.reduceMul, Nat.reduceLT, Nat.reduceLeDiff, Nat.reduceSub, reduceCtorEq, Int.reduceToNat, ↓reduceIte]
    refine ⟨fun hlt => ⟨⟨by omega, hlt⟩, round_mk (k + 1) (by omega) (by omega) ?_⟩, fun hge => ?_⟩
    · simp -implicitDefEqProofs only [Int.natCast_add, Int.cast_ofNat_Int, List.length_nil, Nat.le_refl, WeakTo, tokSts, tokOks, List.append_cancel_left_eq, exists_eq_left', exists_eq_left, List.append_cancel_left_eq, List.take_length, ObCl, and_true, true_and, push_cast, Nat.reduceEqDiff, Nat.reduceBEq, Nat.reduceBNe, Nat.reduceAdd, Nat.reduceMul, Nat.reduceLT, Nat.reduceLeDiff, Nat.reduceSub, reduceCtorEq, Int.reduceToNat, ↓reduceIte]
      exact ⟨(sumW_succ 0 _ (by simp; omega)).symm, wrap_id (by omega) (by omega)⟩
    · obtain rfl : k = l.sold.length - c.toNat := by omega
      rw [List.take_of_length_le (l := l.sold.drop c.toNat) (by simp)]
      refine ev_loop [] (fun k : Nat => [(1, .int .i64 c), (2, .ptr h.length 0), (5, .int .i64 (usedW c (sumW 0 (l.sold.drop c.toNat)) (l.holds.take k))), (24, .slice (l.holds.map Hold.d) .no), (25, .int .i64 (l.holds.length : Int)), (26, .int .i64 (k : Int))])
        (fun _ => [.row l.cs]) (fun k => k ≤ l.holds.length) (fun k => l.holds.length - k) 0 trivial (Nat.zero_le _) ?_ ?_
      · refine ⟨1, by simp, by simp [tokSts], ?_⟩
        simp -implicitDefEqProofs only [Int.natCast_add, Int.cast_ofNat_Int, List.length_nil, Nat.le_refl, WeakTo, tokSts, tokOks, List.append_cancel_left_eq, exists_eq_left', exists_eq_left, List.append_cancel_left_eq, List.take_length, ObCl, and_true, true_and, push_cast, Nat.reduceEqDiff, Nat.reduceBEq, Nat.reduceBNe, Nat.reduceAdd, Nat.reduceMul, Nat.reduceLT, Nat.reduceLeDiff, Nat.reduceSub, reduceCtorEq, Int.reduceToNat, ↓reduceIte]
        simp [usedW]
      · intro k hk
        simp -implicitDefEqProofs only [push_cast, Nat.reduceEqDiff, Nat.reduceBEq, Nat.reduceBNe, Nat.reduceAdd, Nat.reduceMul, Nat.reduceLT, Nat.reduceLeDiff, Nat.reduceSub, reduceCtorEq, Int.reduceToNat, ↓reduceIte]
        refine ⟨fun hlt => ⟨⟨by omega, hlt⟩, fun hc => round_mk (k + 1) (by omega) (by omega) ?_, fun hc => round_mk (k + 1) (by omega) (by omega) ?_⟩, fun hge => ?_⟩
        · simp -implicitDefEqProofs only [Int.natCast_add, Int.cast_ofNat_Int, List.length_nil, Nat.le_refl, WeakTo, tokSts, tokOks, List.append_cancel_left_eq, exists_eq_left', exists_eq_left, List.append_cancel_left_eq, List.take_length, ObCl, and_true, true_and, push_cast, Nat.reduceEqDiff, Nat.reduceBEq, Nat.reduceBNe, Nat.reduceAdd, Nat.reduceMul, Nat.reduceLT, Nat.reduceLeDiff, Nat.reduceSub, reduceCtorEq, Int.reduceToNat, ↓reduceIte]
          rw [usedW_succ _ _ _ (by omega), if_pos hc]
          exact ⟨rfl, wrap_id (by omega) (by omega)⟩
        · simp -implicitDefEqProofs only [Int.natCast_add, Int.cast_ofNat_Int, List.length_nil, Nat.le_refl, WeakTo, tokSts, tokOks, List.append_cancel_left_eq, exists_eq_left', exists_eq_left, List.append_cancel_left_eq, List.take_length, ObCl, and_true, true_and, push_cast, Nat.reduceEqDiff, Nat.reduceBEq, Nat.reduceBNe, Nat.reduceAdd, Nat.reduceMul, Nat.reduceLT, Nat.reduceLeDiff, Nat.reduceSub, reduceCtorEq, Int.reduceToNat, ↓reduceIte]
          rw [usedW_succ _ _ _ (by omega), if_neg (fun e => by have := hc e.1; omega)]
          exact ⟨rfl, wrap_id (by omega) (by omega)⟩
        · obtain rfl : k = l.holds.length := by omega
          rw [List.take_length, usedV]

theorem back_gives (l : Leg) (c : Int) (h : Hp) : Gives Try.prog 89 [l.d, .int .i64 c] h (.int .i64 (backV l c)) := by
  refine meets_of [] mixed Try.func89 rfl (by kernel_rfl) (by kernel_rfl) (by rw [Try.ntmps89]; simp only [List.length_cons, List.length_nil]; omega) (fun hf => ?_)
  rw [Try.results89]
  obtain ⟨_, _, _, _, hf1, _, hf2⟩ := Leg.fit (hf l.d (by simp))
  clear hf
  simp -implicitDefEqProofs only [push_cast, Nat.reduceEqDiff, Nat.reduceBEq, Nat.reduceBNe, Nat.reduceAdd, Nat.reduceMul, Nat.reduceLT, Nat.reduceLeDiff, Nat.reduceSub, reduceCtorEq, Int.reduceToNat, ↓reduceIte]
  refine ev_loop [] (fun k : Nat => [(1, .int .i64 c), (2, .ptr h.length 0), (5, .int .i64 (backW c 0 (l.holds.take k))), (9, .slice (l.holds.map Hold.d) .no), (10, .int .i64 (l.holds.length : Int)), (11, .int .i64 (k : Int))])
    (fun _ => [.row l.cs]) (fun k => k ≤ l.holds.length) (fun k => l.holds.length - k) 0 trivial (Nat.zero_le _) ?_ ?_
  · refine ⟨1, by simp, by simp [tokSts], ?_⟩
    simp -implicitDefEqProofs only [Int.natCast_add, Int.cast_ofNat_Int, List.length_nil, Nat.le_refl, WeakTo, tokSts, tokOks, List.append_cancel_left_eq, exists_eq_left', exists_eq_left, List.append_cancel_left_eq, List.take_length, ObCl, and_true, true_and, push_cast, Nat.reduceEqDiff, Nat.reduceBEq, Nat.reduceBNe, Nat.reduceAdd, Nat.reduceMul, Nat.reduceLT, Nat.reduceLeDiff, Nat.reduceSub, reduceCtorEq, Int.reduceToNat, ↓reduceIte]
    simp [backW]
  · intro k hk
    simp -implicitDefEqProofs only [push_cast, Nat.reduceEqDiff, Nat.reduceBEq, Nat.reduceBNe, Nat.reduceAdd, Nat.reduceMul, Nat.reduceLT, Nat.reduceLeDiff, Nat.reduceSub, reduceCtorEq, Int.reduceToNat, ↓reduceIte]
    refine ⟨fun hlt => ⟨⟨by omega, hlt⟩, fun hc => round_mk (k + 1) (by omega) (by omega) ?_, fun hc => round_mk (k + 1) (by omega) (by omega) ?_⟩, fun hge => ?_⟩
    · simp -implicitDefEqProofs only [Int.natCast_add, Int.cast_ofNat_Int, List.length_nil, Nat.le_refl, WeakTo, tokSts, tokOks, List.append_cancel_left_eq, exists_eq_left', exists_eq_left, List.append_cancel_left_eq, List.take_length, ObCl, and_true, true_and, push_cast, Nat.reduceEqDiff, Nat.reduceBEq, Nat.reduceBNe, Nat.reduceAdd, Nat.reduceMul, Nat.reduceLT, Nat.reduceLeDiff, Nat.reduceSub, reduceCtorEq, Int.reduceToNat, ↓reduceIte]
      rw [backW_succ _ _ _ (by omega), if_pos hc]
      exact ⟨rfl, wrap_id (by omega) (by omega)⟩
    · simp -implicitDefEqProofs only [Int.natCast_add, Int.cast_ofNat_Int, List.length_nil, Nat.le_refl, WeakTo, tokSts, tokOks, List.append_cancel_left_eq, exists_eq_left', exists_eq_left, List.append_cancel_left_eq, List.take_length, ObCl, and_true, true_and, push_cast, Nat.reduceEqDiff, Nat.reduceBEq, Nat.reduceBNe, Nat.reduceAdd, Nat.reduceMul, Nat.reduceLT, Nat.reduceLeDiff, Nat.reduceSub, reduceCtorEq, Int.reduceToNat, ↓reduceIte]
      rw [backW_succ _ _ _ (by omega), if_neg (fun e => by have := hc e.1; omega)]
      exact ⟨rfl, wrap_id (by omega) (by omega)⟩
    · obtain rfl : k = l.holds.length := by omega
      rw [List.take_length, backV]

theorem specBack_gives (l : Leg) (c : Int) (h : Hp) : Gives Try.prog 64 [l.d, .int .i64 c] h (.int .i64 (backV l c)) := by
  refine meets_of [] mixed Try.func64 rfl (by kernel_rfl) (by kernel_rfl) (by rw [Try.ntmps64]; simp only [List.length_cons, List.length_nil]; omega) (fun hf => ?_)
  rw [Try.results64]
  obtain ⟨_, _, _, _, hf1, _, hf2⟩ := Leg.fit (hf l.d (by simp))
  clear hf
  simp -implicitDefEqProofs only [push_cast, Nat.reduceEqDiff, Nat.reduceBEq, Nat.reduceBNe, Nat.reduceAdd, Nat.reduceMul, Nat.reduceLT, Nat.reduceLeDiff, Nat.reduceSub, reduceCtorEq, Int.reduceToNat, ↓reduceIte]
  refine ev_loop [] (fun k : Nat => [(1, .int .i64 c), (2, .ptr h.length 0), (5, .int .i64 (backW c 0 (l.holds.take k))), (6, .int .i64 (k : Int))])
    (fun _ => [.row l.cs]) (fun k => k ≤ l.holds.length) (fun k => l.holds.length - k) 0 trivial (Nat.zero_le _) ?_ ?_
  · refine ⟨1, by simp, by simp [tokSts], ?_⟩
    simp -implicitDefEqProofs only [Int.natCast_add, Int.cast_ofNat_Int, List.length_nil, Nat.le_refl, WeakTo, tokSts, tokOks, List.append_cancel_left_eq, exists_eq_left', exists_eq_left, List.append_cancel_left_eq, List.take_length, ObCl, and_true, true_and, push_cast, Nat.reduceEqDiff, Nat.reduceBEq, Nat.reduceBNe, Nat.reduceAdd, Nat.reduceMul, Nat.reduceLT, Nat.reduceLeDiff, Nat.reduceSub, reduceCtorEq, Int.reduceToNat, ↓reduceIte]
    simp [backW]
  · intro k hk
    simp -implicitDefEqProofs only [push_cast, Nat.reduceEqDiff, Nat.reduceBEq, Nat.reduceBNe, Nat.reduceAdd, Nat.reduceMul, Nat.reduceLT, Nat.reduceLeDiff, Nat.reduceSub, reduceCtorEq, Int.reduceToNat, ↓reduceIte]
    refine ⟨fun hlt => ⟨⟨by omega, hlt⟩, fun e => ⟨e, e, by omega, hlt⟩, fun hc => ⟨⟨by omega, hlt⟩, round_mk (k + 1) (by omega) (by omega) ?_⟩, fun hc => round_mk (k + 1) (by omega) (by omega) ?_⟩, fun hge => ?_⟩
    · simp -implicitDefEqProofs only [Int.natCast_add, Int.cast_ofNat_Int, List.length_nil, Nat.le_refl, WeakTo, tokSts, tokOks, List.append_cancel_left_eq, exists_eq_left', exists_eq_left, List.append_cancel_left_eq, List.take_length, ObCl, and_true, true_and, push_cast, Nat.reduceEqDiff, Nat.reduceBEq, Nat.reduceBNe, Nat.reduceAdd, Nat.reduceMul, Nat.reduceLT, Nat.reduceLeDiff, Nat.reduceSub, reduceCtorEq, Int.reduceToNat, ↓reduceIte]
      rw [backW_succ _ _ _ (by omega), if_pos hc]
      exact ⟨rfl, wrap_id (by omega) (by omega)⟩
    · simp -implicitDefEqProofs only [Int.natCast_add, Int.cast_ofNat_Int, List.length_nil, Nat.le_refl, WeakTo, tokSts, tokOks, List.append_cancel_left_eq, exists_eq_left', exists_eq_left, List.append_cancel_left_eq, List.take_length, ObCl, and_true, true_and, push_cast, Nat.reduceEqDiff, Nat.reduceBEq, Nat.reduceBNe, Nat.reduceAdd, Nat.reduceMul, Nat.reduceLT, Nat.reduceLeDiff, Nat.reduceSub, reduceCtorEq, Int.reduceToNat, ↓reduceIte]
      rw [backW_succ _ _ _ (by omega), if_neg (fun e => by have := hc e.1; omega)]
      exact ⟨rfl, wrap_id (by omega) (by omega)⟩
    · obtain rfl : k = l.holds.length := by omega
      rw [List.take_length, backV]

theorem specUsed_gives (l : Leg) (c : Int) (h : Hp) (h0 : 0 ≤ c) (h1 : c ≤ 3) (h3 : l.sold.length = 3) : Gives Try.prog 63 [l.d, .int .i64 c] h (.int .i64 (usedV l c)) := by
  refine meets_of [] mixed Try.func63 rfl (by kernel_rfl) (by kernel_rfl) (by rw [Try.ntmps63]; simp only [List.length_cons, List.length_nil]; omega) (fun hf => ?_)
  rw [Try.results63]
  obtain ⟨_, _, _, _, hf1, _, hf2⟩ := Leg.fit (hf l.d (by simp))
  clear hf
  simp -implicitDefEqProofs only [push_cast, Nat.reduceEqDiff, Nat.reduceBEq, Nat.reduceBNe, Nat.reduceAdd, Nat.reduceMul, Nat.reduceLT, Nat.reduceLeDiff, Nat.reduceSub, reduceCtorEq, Int.reduceToNat, ↓reduceIte]
  refine ev_loop [] (fun k : Nat => [(1, .int .i64 c), (2, .ptr h.length 0), (5, .int .i64 (sumW 0 ((l.sold.drop c.toNat).take k))), (6, .int .i64 (c + k))])
    (fun _ => [.row l.cs]) (fun k => k ≤ 3 - c.toNat) (fun k => 3 - c.toNat - k) 0 trivial (Nat.zero_le _) ?_ ?_
  · refine ⟨1, by simp, by simp [tokSts], ?_⟩
    simp -implicitDefEqProofs only [Int.natCast_add, Int.cast_ofNat_Int, List.length_nil, Nat.le_refl, WeakTo, tokSts, tokOks, List.append_cancel_left_eq, exists_eq_left', exists_eq_left, List.append_cancel_left_eq, List.take_length, ObCl, and_true, true_and, push_cast, Nat.reduceEqDiff, Nat.reduceBEq, Nat.reduceBNe, Nat.reduceAdd, Nat.reduceMul, Nat.reduceLT, Nat.reduceLeDiff, Nat.reduceSub, reduceCtorEq, Int.reduceToNat, ↓reduceIte]
    simp [sumW]
  · intro k hk
    simp -implicitDefEqProofs only [push_cast, Nat.reduceEqDiff, Nat.reduceBEq, Nat.reduceBNe, Nat.reduceAdd, Nat.reduceMul, Nat.reduceLT, Nat.reduceLeDiff, Nat.reduceSub, reduceCtorEq, Int.reduceToNat, ↓reduceIte]
    refine ⟨fun hlt => ⟨⟨by omega, by omega⟩, round_mk (k + 1) (by omega) (by omega) ?_⟩, fun hge => ?_⟩
    · simp -implicitDefEqProofs only [Int.natCast_add, Int.cast_ofNat_Int, List.length_nil, Nat.le_refl, WeakTo, tokSts, tokOks, List.append_cancel_left_eq, exists_eq_left', exists_eq_left, List.append_cancel_left_eq, List.take_length, ObCl, and_true, true_and, push_cast, Nat.reduceEqDiff, Nat.reduceBEq, Nat.reduceBNe, Nat.reduceAdd, Nat.reduceMul, Nat.reduceLT, Nat.reduceLeDiff, Nat.reduceSub, reduceCtorEq, Int.reduceToNat, ↓reduceIte]
      refine ⟨?_, by rw [wrap_id (by omega) (by omega)]; omega⟩
      rw [sumW_succ 0 _ (by simp; omega), getD_drop0, show (c + (k : Int)).toNat = c.toNat + k by omega]
    · obtain rfl : k = 3 - c.toNat := by omega
      rw [List.take_of_length_le (l := l.sold.drop c.toNat) (by simp; omega)]
      refine ev_loop [] (fun k : Nat => [(1, .int .i64 c), (2, .ptr h.length 0), (5, .int .i64 (usedW c (sumW 0 (l.sold.drop c.toNat)) (l.holds.take k))), (7, .int .i64 (k : Int))])
        (fun _ => [.row l.cs]) (fun k => k ≤ l.holds.length) (fun k => l.holds.length - k) 0 trivial (Nat.zero_le _) ?_ ?_
      · refine ⟨1, by simp, by simp [tokSts], ?_⟩
        simp -implicitDefEqProofs only [Int.natCast_add, Int.cast_ofNat_Int, List.length_nil, Nat.le_refl, WeakTo, tokSts, tokOks, List.append_cancel_left_eq, exists_eq_left', exists_eq_left, List.append_cancel_left_eq, List.take_length, ObCl, and_true, true_and, push_cast, Nat.reduceEqDiff, Nat.reduceBEq, Nat.reduceBNe, Nat.reduceAdd, Nat.reduceMul, Nat.reduceLT, Nat.reduceLeDiff, Nat.reduceSub, reduceCtorEq, Int.reduceToNat, ↓reduceIte]
        simp [usedW]
      · intro k hk
        simp -implicitDefEqProofs only [push_cast, Nat.reduceEqDiff, Nat.reduceBEq, Nat.reduceBNe, Nat.reduceAdd, Nat.reduceMul, Nat.reduceLT, Nat.reduceLeDiff, Nat.reduceSub, reduceCtorEq, Int.reduceToNat, ↓reduceIte]
        refine ⟨fun hlt => ⟨⟨by omega, hlt⟩, fun e => ⟨e, e, by omega, hlt⟩, fun hc => ⟨⟨by omega, hlt⟩, round_mk (k + 1) (by omega) (by omega) ?_⟩, fun hc => round_mk (k + 1) (by omega) (by omega) ?_⟩, fun hge => ?_⟩
        · simp -implicitDefEqProofs only [Int.natCast_add, Int.cast_ofNat_Int, List.length_nil, Nat.le_refl, WeakTo, tokSts, tokOks, List.append_cancel_left_eq, exists_eq_left', exists_eq_left, List.append_cancel_left_eq, List.take_length, ObCl, and_true, true_and, push_cast, Nat.reduceEqDiff, Nat.reduceBEq, Nat.reduceBNe, Nat.reduceAdd, Nat.reduceMul, Nat.reduceLT, Nat.reduceLeDiff, Nat.reduceSub, reduceCtorEq, Int.reduceToNat, ↓reduceIte]
          rw [usedW_succ _ _ _ (by omega), if_pos hc]
          exact ⟨rfl, wrap_id (by omega) (by omega)⟩
        · simp -implicitDefEqProofs only [Int.natCast_add, Int.cast_ofNat_Int, List.length_nil, Nat.le_refl, WeakTo, tokSts, tokOks, List.append_cancel_left_eq, exists_eq_left', exists_eq_left, List.append_cancel_left_eq, List.take_length, ObCl, and_true, true_and, push_cast, Nat.reduceEqDiff, Nat.reduceBEq, Nat.reduceBNe, Nat.reduceAdd, Nat.reduceMul, Nat.reduceLT, Nat.reduceLeDiff, Nat.reduceSub, reduceCtorEq, Int.reduceToNat, ↓reduceIte]
          rw [usedW_succ _ _ _ (by omega), if_neg (fun e => by have := hc e.1; omega)]
          exact ⟨rfl, wrap_id (by omega) (by omega)⟩
        · obtain rfl : k = l.holds.length := by omega
          rw [List.take_length, usedV]
end Go.Proofs.Ytcmpcpigchlhpaa

namespace Go.Proofs.Ytcmpcpigchlhpaa
set_option linter.unusedSectionVars false
open Go.Av
variable [Av.Start]
set_option maxRecDepth 10000
set_option linter.unusedSimpArgs false
set_option linter.unusedVariables false

def fallAt (xs : List Int) (hi : Int) (i : Nat) : Bool := inB (xs.getD i 0) 0 hi && (decide (i = 0) || decide (xs.getD i 0 ≤ xs.getD (i - 1) 0))
def fallB (xs : List Int) (hi : Int) : Bool := allB xs.length (fallAt xs hi)

theorem falling_gives (xs : List Int) (hi : Int) (h : Hp) : Gives Try.prog 56 [.slice (xs.map (.int .i64)) .no, .int .i64 hi] h (.bool (fallB xs hi)) := by
  refine meets_of [] mixed Try.func56 rfl (by kernel_rfl) (by kernel_rfl) (by rw [Try.ntmps56]; simp only [List.length_cons, List.length_nil]; omega) (fun hf => ?_)
  rw [Try.results56]
  have hl : xs.length ≤ 1073741824 := by simpa [fitsD, flen, lenMax] using hf
  clear hf
  simp -implicitDefEqProofs only [push_cast, Nat.reduceEqDiff, Nat.reduceBEq, Nat.reduceBNe, Nat.reduceAdd, Nat.reduceMul, Nat.reduceLT, Nat.reduceLeDiff, Nat.reduceSub, reduceCtorEq, Int.reduceToNat, ↓reduceIte]
  refine ev_loop0 [] (fun k : Nat => [(0, .slice (xs.map (.int .i64)) .no), (1, .int .i64 hi), (7, .slice (xs.map (.int .i64)) .no), (8, .int .i64 xs.length), (9, .int .i64 k)]) (fun k => k ≤ xs.length ∧ ∀ i, i < k → fallAt xs hi i = true) (fun k => xs.length - k) 0 trivial ⟨Nat.zero_le _, fun i hi => absurd hi (Nat.not_lt_zero i)⟩ ?_ ?_
  · exact ⟨rfl, [], by simp -implicitDefEqProofs only [Int.natCast_add, Int.cast_ofNat_Int, List.length_nil, Nat.le_refl, WeakTo, tokSts, tokOks, List.append_cancel_left_eq, exists_eq_left', exists_eq_left, List.append_cancel_left_eq, List.take_length, ObCl, and_true, true_and, push_cast, Nat.reduceEqDiff, Nat.reduceBEq, Nat.reduceBNe, Nat.reduceAdd, Nat.reduceMul, Nat.reduceLT, Nat.reduceLeDiff, Nat.reduceSub, reduceCtorEq, Int.reduceToNat, ↓reduceIte, List.length_nil, Nat.le_refl]⟩
  · intro k hk
    have hw : IntKind.i64.wrap ((k : Int) + 1) = k + 1 := wrap_id (by omega) (by omega)
    have hw1 : IntKind.i64.wrap ((k : Int) - 1) = k - 1 := wrap_id (by omega) (by omega)
    have hp : ((k : Int) - 1).toNat = k - 1 := by omega
    try simp -implicitDefEqProofs only [hw, hw1, hp, push_cast, Nat.reduceEqDiff, Nat.reduceBEq, Nat.reduceBNe, Nat.reduceAdd, Nat.reduceMul, Nat.reduceLT, Nat.reduceLeDiff, Nat.reduceSub, reduceCtorEq, Int.reduceToNat, ↓reduceIte]
    repeat'
      (first
       | (refine uYes ?_; first | exact List.mem_cons_self | (simp only [List.mem_cons, List.not_mem_nil, or_false, true_or, or_true]; done))
       | (refine uNo (by kernel_rfl))
       | (refine flatMk ?_; kernel_rfl)
       | (refine And.intro ?_ ?_)
       | (intro hx)
       | ((first
           | (refine callGF ?_)
           | (refine callQGF ?_)
           | (refine skipG ?_)
           | (refine callS (in_gives ..) ?_)
           | (refine callQ (in_gives ..) ?_)
           | (refine callG (fun hc => (in_gives ..)) ?_)
           | (refine callQG (fun hc => (in_gives ..)) ?_)); simp -implicitDefEqProofs only [hw, hw1, hp, push_cast, Nat.reduceEqDiff, Nat.reduceBEq, Nat.reduceBNe, Nat.reduceAdd, Nat.reduceMul, Nat.reduceLT, Nat.reduceLeDiff, Nat.reduceSub, reduceCtorEq, Int.reduceToNat, ↓reduceIte]))
    all_goals first
      | omega
      | exact hx
      | exact hx.1
      | (refine round_mk0 (k + 1) ⟨by omega, allB_step hk.2 ?_⟩ (by omega) ⟨[], ?_⟩
         · simp only [fallAt, hx.1, Bool.true_and, Bool.or_eq_true, decide_eq_true_eq]
           by_cases e : k = 0
           · exact .inl e
           · exact .inr (hx.2 (by omega))
         · simp -implicitDefEqProofs only [hw, Int.natCast_add, Int.cast_ofNat_Int, List.length_nil, Nat.le_refl, WeakTo, tokSts, tokOks, List.append_cancel_left_eq, exists_eq_left', exists_eq_left, List.append_cancel_left_eq, List.take_length, ObCl, and_true, true_and, push_cast, Nat.reduceEqDiff, Nat.reduceBEq, Nat.reduceBNe, Nat.reduceAdd, Nat.reduceMul, Nat.reduceLT, Nat.reduceLeDiff, Nat.reduceSub, reduceCtorEq, Int.reduceToNat, ↓reduceIte])
      | (rw [fallB, allB_f k (by omega)]
         simp only [fallAt, Bool.and_eq_false_iff, Bool.or_eq_false_iff, decide_eq_false_iff_not]
         rcases hx with hx | hx
         · exact .inl hx
         · exact .inr ⟨by omega, by omega⟩)
      | (obtain rfl : k = xs.length := by omega
         rw [fallB, allB_t hk.2])

omit [Av.Start] in
theorem findIdx_at {p : Int → Bool} : ∀ (xs : List Int) (k : Nat), k < xs.length → (∀ i, i < k → p (xs.getD i 0) = false) → p (xs.getD k 0) = true → xs.findIdx p = k
  | [], k, h, _, _ => absurd h (Nat.not_lt_zero k)
  | x :: xs, 0, _, _, h => by
    have : p x = true := h
    simp [List.findIdx_cons, this]
  | x :: xs, k + 1, h, ha, hb => by
    have h0 : p x = false := ha 0 (by omega)
    have := findIdx_at xs k (by simpa using h) (fun i hi => ha (i + 1) (by omega)) hb
    simp [List.findIdx_cons, h0, this]
theorem index_gives (xs : List Int) (f : FuncId) (caps : List D) (h : Hp) (p : Int → Bool) (hp : ∀ x, Gives Try.prog f (.int .i64 x :: caps) h (.bool (p x))) (hc : ∀ c, c ∈ caps → Cl h.length c) :
    Gives Try.prog 86 [.slice (xs.map (.int .i64)) .no, .fn f caps] h (.int .i64 (if allB xs.length (fun i => !p (xs.getD i 0)) then -1 else (xs.findIdx p : Nat))) := by
  refine meets_of [] mixed Try.func86 rfl (by kernel_rfl) (by kernel_rfl) (by rw [Try.ntmps86]; simp only [List.length_cons, List.length_nil]; omega) (fun hf => ?_)
  rw [Try.results86]
  have hl : xs.length ≤ 1073741824 := by
    have := hf (.slice (xs.map (.int .i64)) .no) (by simp)
    simpa [fitsD, flen, lenMax] using this
  clear hf
  simp -implicitDefEqProofs only [push_cast, Nat.reduceEqDiff, Nat.reduceBEq, Nat.reduceBNe, Nat.reduceAdd, Nat.reduceMul, Nat.reduceLT, Nat.reduceLeDiff, Nat.reduceSub, reduceCtorEq, Int.reduceToNat, ↓reduceIte]
  refine ev_loop0 [] (fun k : Nat => [(0, .slice (xs.map (.int .i64)) .no), (1, .fn f caps), (7, .int .i64 xs.length), (8, .int .i64 k)]) (fun k => k ≤ xs.length ∧ ∀ i, i < k → p (xs.getD i 0) = false) (fun k => xs.length - k) 0 trivial ⟨Nat.zero_le _, fun i hi => absurd hi (Nat.not_lt_zero i)⟩ ?_ ?_
  · refine ⟨rfl, [], ?_⟩
    simp -implicitDefEqProofs only [Int.natCast_add, Int.cast_ofNat_Int, List.length_nil, Nat.le_refl, WeakTo, tokSts, tokOks, List.append_cancel_left_eq, exists_eq_left', exists_eq_left, List.append_cancel_left_eq, List.take_length, ObCl, and_true, true_and, push_cast, Nat.reduceEqDiff, Nat.reduceBEq, Nat.reduceBNe, Nat.reduceAdd, Nat.reduceMul, Nat.reduceLT, Nat.reduceLeDiff, Nat.reduceSub, reduceCtorEq, Int.reduceToNat, ↓reduceIte]
    exact hc
  · intro k hk
    have hw : IntKind.i64.wrap ((k : Int) + 1) = k + 1 := wrap_id (by omega) (by omega)
    try simp -implicitDefEqProofs only [hw, push_cast, Nat.reduceEqDiff, Nat.reduceBEq, Nat.reduceBNe, Nat.reduceAdd, Nat.reduceMul, Nat.reduceLT, Nat.reduceLeDiff, Nat.reduceSub, reduceCtorEq, Int.reduceToNat, ↓reduceIte]
    repeat'
      (first
       | (refine uYes ?_; first | exact List.mem_cons_self | (simp only [List.mem_cons, List.not_mem_nil, or_false, true_or, or_true]; done))
       | (refine uNo (by kernel_rfl))
       | (refine flatMk ?_; kernel_rfl)
       | (refine And.intro ?_ ?_)
       | (intro hx)
       | ((first
           | (refine callGF ?_)
           | (refine callQGF ?_)
           | (refine skipG ?_)
           | (refine callS (hp _) ?_)
           | (refine callQ (hp _) ?_)
           | (refine callG (fun hc => (hp _)) ?_)
           | (refine callQG (fun hc => (hp _)) ?_)); simp -implicitDefEqProofs only [hw, push_cast, Nat.reduceEqDiff, Nat.reduceBEq, Nat.reduceBNe, Nat.reduceAdd, Nat.reduceMul, Nat.reduceLT, Nat.reduceLeDiff, Nat.reduceSub, reduceCtorEq, Int.reduceToNat, ↓reduceIte]))
    all_goals first
      | omega
      | (refine round_mk0 (k + 1) ⟨by omega, fun i hi => ?_⟩ (by omega) ⟨[], ?_⟩
         · by_cases e : i = k
           · exact e ▸ hx
           · exact hk.2 i (by omega)
         · simp -implicitDefEqProofs only [hw, Int.natCast_add, Int.cast_ofNat_Int, List.length_nil, Nat.le_refl, WeakTo, tokSts, tokOks, List.append_cancel_left_eq, exists_eq_left', exists_eq_left, List.append_cancel_left_eq, List.take_length, ObCl, and_true, true_and, push_cast, Nat.reduceEqDiff, Nat.reduceBEq, Nat.reduceBNe, Nat.reduceAdd, Nat.reduceMul, Nat.reduceLT, Nat.reduceLeDiff, Nat.reduceSub, reduceCtorEq, Int.reduceToNat, ↓reduceIte]
           exact hc)
      | (rw [allB_f k (by omega) (by rw [hx]; rfl), findIdx_at xs k (by omega) hk.2 hx]
         rfl)
      | (obtain rfl : k = xs.length := by omega
         rw [allB_t (fun i hi => by rw [hk.2 i hi]; rfl)]
         rfl)
def anyB (xs : List Int) (p : Int → Bool) : Bool := !allB xs.length (fun i => !p (xs.getD i 0))
theorem contains_gives (xs : List Int) (f : FuncId) (caps : List D) (h : Hp) (p : Int → Bool) (hp : ∀ x, Gives Try.prog f (.int .i64 x :: caps) h (.bool (p x))) (hc : ∀ c, c ∈ caps → Cl h.length c) :
    Gives Try.prog 57 [.slice (xs.map (.int .i64)) .no, .fn f caps] h (.bool (anyB xs p)) := by
  refine meets_of [] mixed Try.func57 rfl (by kernel_rfl) (by kernel_rfl) (by rw [Try.ntmps57]; simp only [List.length_cons, List.length_nil]; omega) (fun hf => ?_)
  rw [Try.results57]
  try simp -implicitDefEqProofs only [push_cast, Nat.reduceEqDiff, Nat.reduceBEq, Nat.reduceBNe, Nat.reduceAdd, Nat.reduceMul, Nat.reduceLT, Nat.reduceLeDiff, Nat.reduceSub, reduceCtorEq, Int.reduceToNat, ↓reduceIte]
  repeat'
    (first
     | (refine uYes ?_; first | exact List.mem_cons_self | (simp only [List.mem_cons, List.not_mem_nil, or_false, true_or, or_true]; done))
     | (refine uNo (by kernel_rfl))
     | (refine flatMk ?_; kernel_rfl)
     | (refine And.intro ?_ ?_)
     | (intro hx)
     | ((first
         | (refine callGF ?_)
         | (refine callQGF ?_)
         | (refine skipG ?_)
         | (refine callS (index_gives _ _ _ _ _ hp hc) ?_)
         | (refine callQ (index_gives _ _ _ _ _ hp hc) ?_)
         | (refine callG (fun hc => (index_gives _ _ _ _ _ hp hc)) ?_)
         | (refine callQG (fun hc => (index_gives _ _ _ _ _ hp hc)) ?_)); simp -implicitDefEqProofs only [push_cast, Nat.reduceEqDiff, Nat.reduceBEq, Nat.reduceBNe, Nat.reduceAdd, Nat.reduceMul, Nat.reduceLT, Nat.reduceLeDiff, Nat.reduceSub, reduceCtorEq, Int.reduceToNat, ↓reduceIte]))
  cases e : allB xs.length (fun i => !p (xs.getD i 0)) <;> simp only [anyB, e] <;> rfl

theorem legOk1_gives (l : Leg) (x : Int) (r : Nat) (h : Hp) (hr : ob h r = .row l.cs) : Gives Try.prog 58 [.int .i64 x, .ptr r 0] h (.bool (!inB x 0 l.cap)) := by
  refine meets_of [] mixed Try.func58 rfl (by kernel_rfl) (by kernel_rfl) (by rw [Try.ntmps58]; simp only [List.length_cons, List.length_nil]; omega) (fun hf => ?_)
  rw [Try.results58]
  try simp -implicitDefEqProofs only [hr, push_cast, Nat.reduceEqDiff, Nat.reduceBEq, Nat.reduceBNe, Nat.reduceAdd, Nat.reduceMul, Nat.reduceLT, Nat.reduceLeDiff, Nat.reduceSub, reduceCtorEq, Int.reduceToNat, ↓reduceIte]
  repeat'
    (first
     | (refine uYes ?_; first | exact List.mem_cons_self | (simp only [List.mem_cons, List.not_mem_nil, or_false, true_or, or_true]; done))
     | (refine uNo (by kernel_rfl))
     | (refine flatMk ?_; kernel_rfl)
     | (refine And.intro ?_ ?_)
     | (intro hx)
     | ((first
         | (refine callGF ?_)
         | (refine callQGF ?_)
         | (refine skipG ?_)
         | (refine callS (in_gives ..) ?_)
         | (refine callQ (in_gives ..) ?_)
         | (refine callG (fun hc => (in_gives ..)) ?_)
         | (refine callQG (fun hc => (in_gives ..)) ?_)); simp -implicitDefEqProofs only [hr, push_cast, Nat.reduceEqDiff, Nat.reduceBEq, Nat.reduceBNe, Nat.reduceAdd, Nat.reduceMul, Nat.reduceLT, Nat.reduceLeDiff, Nat.reduceSub, reduceCtorEq, Int.reduceToNat, ↓reduceIte]))

def holdAt (l : Leg) (i : Nat) : Bool := mayB l (l.holds.getD i default) && (decide (i = 0) || decide ((l.holds.getD (i - 1) default).txn < (l.holds.getD i default).txn))
def clsAt (l : Leg) (i : Nat) : Bool := decide (usedV l i ≤ l.limits.getD i 0) && decide (backV l i ≤ l.sold.getD i 0)
def holdsB (l : Leg) : Bool := allB l.holds.length (holdAt l) && allB 3 (clsAt l) && decide (l.holds.length ≤ 6)
theorem holdsOk_gives (l : Leg) (h : Hp) (h1 : l.limits.length = 3) (h2 : l.sold.length = 3) : Gives Try.prog 59 [l.d] h (.bool (holdsB l)) := by
  refine meets_of [] mixed Try.func59 rfl (by kernel_rfl) (by kernel_rfl) (by rw [Try.ntmps59]; simp only [List.length_cons, List.length_nil]; omega) (fun hf => ?_)
  rw [Try.results59]
  obtain ⟨_, _, _, _, hf1, _, hf2⟩ := Leg.fit (hf l.d (by simp))
  clear hf
  simp -implicitDefEqProofs only [push_cast, Nat.reduceEqDiff, Nat.reduceBEq, Nat.reduceBNe, Nat.reduceAdd, Nat.reduceMul, Nat.reduceLT, Nat.reduceLeDiff, Nat.reduceSub, reduceCtorEq, Int.reduceToNat, ↓reduceIte]
  refine ev_loop [] (fun k : Nat => [(1, .ptr h.length 0), (7, .slice (l.holds.map Hold.d) .no), (8, .int .i64 l.holds.length), (9, .int .i64 k)])
    (fun _ => [.row l.cs]) (fun k => k ≤ l.holds.length ∧ ∀ i, i < k → holdAt l i = true) (fun k => l.holds.length - k) 0 trivial ⟨Nat.zero_le _, fun i hi => absurd hi (Nat.not_lt_zero i)⟩ ?_ ?_
  · refine ⟨1, by simp, by simp [tokSts], ?_⟩
    simp -implicitDefEqProofs only [Int.natCast_add, Int.cast_ofNat_Int, List.length_nil, Nat.le_refl, WeakTo, tokSts, tokOks, List.append_cancel_left_eq, exists_eq_left', exists_eq_left, List.append_cancel_left_eq, List.take_length, ObCl, and_true, true_and, push_cast, Nat.reduceEqDiff, Nat.reduceBEq, Nat.reduceBNe, Nat.reduceAdd, Nat.reduceMul, Nat.reduceLT, Nat.reduceLeDiff, Nat.reduceSub, reduceCtorEq, Int.reduceToNat, ↓reduceIte]
  · intro k hk
    have hw : IntKind.i64.wrap ((k : Int) + 1) = k + 1 := wrap_id (by omega) (by omega)
    have hw1 : IntKind.i64.wrap ((k : Int) - 1) = k - 1 := wrap_id (by omega) (by omega)
    have hp : ((k : Int) - 1).toNat = k - 1 := by omega
    try simp -implicitDefEqProofs only [hw, hw1, hp, push_cast, Nat.reduceEqDiff, Nat.reduceBEq, Nat.reduceBNe, Nat.reduceAdd, Nat.reduceMul, Nat.reduceLT, Nat.reduceLeDiff, Nat.reduceSub, reduceCtorEq, Int.reduceToNat, ↓reduceIte]
    repeat'
      (first
       | (refine uYes ?_; first | exact List.mem_cons_self | (simp only [List.mem_cons, List.not_mem_nil, or_false, true_or, or_true]; done))
       | (refine uNo (by kernel_rfl))
       | (refine flatMk ?_; kernel_rfl)
       | (refine And.intro ?_ ?_)
       | (intro hx)
       | ((first
           | (refine callGF ?_)
           | (refine callQGF ?_)
           | (refine skipG ?_)
           | (refine callS (may_gives l (l.holds.getD k default) _) ?_)
           | (refine callQ (may_gives l (l.holds.getD k default) _) ?_)
           | (refine callG (fun hc => (may_gives l (l.holds.getD k default) _)) ?_)
           | (refine callQG (fun hc => (may_gives l (l.holds.getD k default) _)) ?_)); simp -implicitDefEqProofs only [hw, hw1, hp, push_cast, Nat.reduceEqDiff, Nat.reduceBEq, Nat.reduceBNe, Nat.reduceAdd, Nat.reduceMul, Nat.reduceLT, Nat.reduceLeDiff, Nat.reduceSub, reduceCtorEq, Int.reduceToNat, ↓reduceIte]))
    all_goals first
      | omega
      | exact hx
      | exact hx.1
      | assumption
      | (refine round_mk (k + 1) ⟨by omega, allB_step hk.2 ?_⟩ (by omega) ?_
         · simp only [holdAt, hx.1, Bool.true_and, Bool.or_eq_true, decide_eq_true_eq]
           by_cases e : k = 0
           · exact .inl e
           · exact .inr (hx.2 (by omega))
         · simp -implicitDefEqProofs only [hw, Int.natCast_add, Int.cast_ofNat_Int, List.length_nil, Nat.le_refl, WeakTo, tokSts, tokOks, List.append_cancel_left_eq, exists_eq_left', exists_eq_left, List.append_cancel_left_eq, List.take_length, ObCl, and_true, true_and, push_cast, Nat.reduceEqDiff, Nat.reduceBEq, Nat.reduceBNe, Nat.reduceAdd, Nat.reduceMul, Nat.reduceLT, Nat.reduceLeDiff, Nat.reduceSub, reduceCtorEq, Int.reduceToNat, ↓reduceIte])
      | (rw [holdsB, allB_f k (by omega)]
         · rfl
         · simp only [holdAt, Bool.and_eq_false_iff, Bool.or_eq_false_iff, decide_eq_false_iff_not]
           rcases hx with hx | hx
           · exact .inl hx
           · exact .inr ⟨by omega, by omega⟩)
      | skip
    obtain rfl : k = l.holds.length := by omega
    refine ev_loop [] (fun k : Nat => [(1, .ptr h.length 0), (35, .int .i64 k)])
      (fun _ => [.row l.cs]) (fun k => k ≤ 3 ∧ ∀ i, i < k → clsAt l i = true) (fun k => 3 - k) 0 trivial ⟨Nat.zero_le _, fun i hi => absurd hi (Nat.not_lt_zero i)⟩ ?_ ?_
    · refine ⟨1, by simp, by simp [tokSts], ?_⟩
      simp -implicitDefEqProofs only [Int.natCast_add, Int.cast_ofNat_Int, List.length_nil, Nat.le_refl, WeakTo, tokSts, tokOks, List.append_cancel_left_eq, exists_eq_left', exists_eq_left, List.append_cancel_left_eq, List.take_length, ObCl, and_true, true_and, push_cast, Nat.reduceEqDiff, Nat.reduceBEq, Nat.reduceBNe, Nat.reduceAdd, Nat.reduceMul, Nat.reduceLT, Nat.reduceLeDiff, Nat.reduceSub, reduceCtorEq, Int.reduceToNat, ↓reduceIte]
    · intro m hm
      have hw : IntKind.i64.wrap ((m : Int) + 1) = m + 1 := wrap_id (by omega) (by omega)
      try simp -implicitDefEqProofs only [hw, push_cast, Nat.reduceEqDiff, Nat.reduceBEq, Nat.reduceBNe, Nat.reduceAdd, Nat.reduceMul, Nat.reduceLT, Nat.reduceLeDiff, Nat.reduceSub, reduceCtorEq, Int.reduceToNat, ↓reduceIte]
      repeat'
        (first
         | (refine uYes ?_; first | exact List.mem_cons_self | (simp only [List.mem_cons, List.not_mem_nil, or_false, true_or, or_true]; done))
         | (refine uNo (by kernel_rfl))
         | (refine flatMk ?_; kernel_rfl)
         | (refine And.intro ?_ ?_)
         | (intro hx)
         | ((first
             | (refine callGF ?_)
             | (refine callQGF ?_)
             | (refine skipG ?_)
             | (refine callS (used_gives l _ _ (by omega) (by omega)) ?_)
             | (refine callQ (used_gives l _ _ (by omega) (by omega)) ?_)
             | (refine callG (fun hc => (used_gives l _ _ (by omega) (by omega))) ?_)
             | (refine callQG (fun hc => (used_gives l _ _ (by omega) (by omega))) ?_)
             | (refine callS (back_gives l _ _) ?_)
             | (refine callQ (back_gives l _ _) ?_)
             | (refine callG (fun hc => (back_gives l _ _)) ?_)
             | (refine callQG (fun hc => (back_gives l _ _)) ?_)); simp -implicitDefEqProofs only [hw, push_cast, Nat.reduceEqDiff, Nat.reduceBEq, Nat.reduceBNe, Nat.reduceAdd, Nat.reduceMul, Nat.reduceLT, Nat.reduceLeDiff, Nat.reduceSub, reduceCtorEq, Int.reduceToNat, ↓reduceIte]))
      all_goals first
        | omega
        | exact hx
        | (refine round_mk (m + 1) ⟨by omega, allB_step hm.2 ?_⟩ (by omega) ?_
           · simp only [clsAt, Bool.and_eq_true, decide_eq_true_eq]
             exact hx
           · simp -implicitDefEqProofs only [hw, Int.natCast_add, Int.cast_ofNat_Int, List.length_nil, Nat.le_refl, WeakTo, tokSts, tokOks, List.append_cancel_left_eq, exists_eq_left', exists_eq_left, List.append_cancel_left_eq, List.take_length, ObCl, and_true, true_and, push_cast, Nat.reduceEqDiff, Nat.reduceBEq, Nat.reduceBNe, Nat.reduceAdd, Nat.reduceMul, Nat.reduceLT, Nat.reduceLeDiff, Nat.reduceSub, reduceCtorEq, Int.reduceToNat, ↓reduceIte])
        | (rw [holdsB, allB_t hk.2, allB_f m (by omega)]
           · rfl
           · simp only [clsAt, Bool.and_eq_false_iff, decide_eq_false_iff_not]
             rcases hx with hx | hx
             · exact .inl (by omega)
             · exact .inr (by omega))
        | (obtain rfl : m = 3 := by omega
           rw [holdsB, allB_t hk.2, allB_t hm.2, Bool.true_and, Bool.true_and]
           exact decide_eq_decide.2 ⟨fun e => by omega, fun e => by omega⟩)

end Go.Proofs.Ytcmpcpigchlhpaa
