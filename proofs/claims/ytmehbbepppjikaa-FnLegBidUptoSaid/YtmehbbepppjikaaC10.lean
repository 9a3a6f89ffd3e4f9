/- Contracts of functions of the program (C10). -/
import Derived.Test.YtmehbbepppjikaaC6

namespace Go.Proofs.Ytmehbbepppjikaa
open Go.Av
set_option maxRecDepth 10000
set_option linter.unusedSimpArgs false
set_option linter.unusedVariables false

/-- how many seats a class and all better ones leave -/
def roomW (l : Leg) (s : Int) : Nat → Int
  | 0 => s
  | k + 1 => min (roomW l s k) (IntKind.i64.wrap (l.limits.getD k 0 - usedV l k))

theorem room_gives (l : Leg) (c : Int) (h : Hp) (h0 : 0 ≤ c) (h1 : c ≤ 2) (h2 : l.limits.length = 3) (h3 : l.sold.length = 3) : Gives Try.prog 87 [l.d, .int .i64 c] h (.int .i64 (roomW l 9 (c.toNat + 1))) := by
  refine meets_of [] mixed Try.func87 rfl (by kernel_rfl) (by kernel_rfl) (by rw [Try.ntmps87]; simp only [List.length_cons, List.length_nil]; omega) (fun hf => ?_)
  rw [Try.results87]
  clear hf
  simp -implicitDefEqProofs only [push_cast, Nat.reduceEqDiff, Nat.reduceBEq, Nat.reduceBNe, Nat.reduceAdd, Nat.reduceMul, Nat.reduceLT, Nat.reduceLeDiff, Nat.reduceSub, reduceCtorEq, Int.reduceToNat, ↓reduceIte]
  refine ev_loop [] (fun k : Nat => [(1, .int .i64 c), (2, .ptr h.length 0), (5, .int .i64 (roomW l 9 k)), (6, .int .i64 k)])
    (fun _ => [.row l.cs]) (fun k => k ≤ c.toNat + 1) (fun k => c.toNat + 1 - k) 0 trivial (Nat.zero_le _) ?_ ?_
  · refine ⟨1, by simp, by simp [tokSts], ?_⟩
    simp -implicitDefEqProofs only [Int.natCast_add, Int.cast_ofNat_Int, List.length_nil, Nat.le_refl, WeakTo, tokSts, tokOks, List.append_cancel_left_eq, exists_eq_left', exists_eq_left, List.append_cancel_left_eq, List.take_length, ObCl, and_true, true_and, push_cast, Nat.reduceEqDiff, Nat.reduceBEq, Nat.reduceBNe, Nat.reduceAdd, Nat.reduceMul, Nat.reduceLT, Nat.reduceLeDiff, Nat.reduceSub, reduceCtorEq, Int.reduceToNat, ↓reduceIte]
    simp [roomW]
  · intro k hk
    have hw : IntKind.i64.wrap ((k : Int) + 1) = k + 1 := wrap_id (by omega) (by omega)
    try simp -implicitDefEqProofs only [hw, push_cast, Nat.reduceEqDiff, Nat.reduceBEq, Nat.reduceBNe, Nat.reduceAdd, Nat.reduceMul, Nat.reduceLT, Nat.reduceLeDiff, Nat.reduceSub, reduceCtorEq, Int.reduceToNat, ↓reduceIte]
    repeat'
      (first
       | (refine uYes ?_; first | exact List.mem_cons_self | (simp only [List.mem_cons, List.not_mem_nil, or_false, true_or, or_true]; done))
       | (refine uNo (by kernel_rfl))
       | (refine flatMk ?_; kernel_rfl)
       | (refine And.intro ?_ ?_)
       | (intro hx)
       | ((first
           | (refine callGF ?_)
           | (refine callQGF ?_)
           | (refine skipG ?_)
           | (refine callS (used_gives l k _ (by omega) (by omega)) ?_)
           | (refine callQ (used_gives l k _ (by omega) (by omega)) ?_)
           | (refine callG (fun hc => (used_gives l k _ (by omega) (by omega))) ?_)
           | (refine callQG (fun hc => (used_gives l k _ (by omega) (by omega))) ?_)); simp -implicitDefEqProofs only [hw, push_cast, Nat.reduceEqDiff, Nat.reduceBEq, Nat.reduceBNe, Nat.reduceAdd, Nat.reduceMul, Nat.reduceLT, Nat.reduceLeDiff, Nat.reduceSub, reduceCtorEq, Int.reduceToNat, ↓reduceIte]))
    all_goals first
      | omega
      | (refine round_mk (k + 1) (by omega) (by omega) ?_
         simp -implicitDefEqProofs only [hw, roomW, Int.natCast_add, Int.cast_ofNat_Int, List.length_nil, Nat.le_refl, WeakTo, tokSts, tokOks, List.append_cancel_left_eq, exists_eq_left', exists_eq_left, List.append_cancel_left_eq, List.take_length, ObCl, and_true, true_and, push_cast, Nat.reduceEqDiff, Nat.reduceBEq, Nat.reduceBNe, Nat.reduceAdd, Nat.reduceMul, Nat.reduceLT, Nat.reduceLeDiff, Nat.reduceSub, reduceCtorEq, Int.reduceToNat, ↓reduceIte]
         try omega)
      | (obtain rfl : k = c.toNat + 1 := by omega
         rfl)
theorem specRoom_gives (l : Leg) (c : Int) (h : Hp) (h0 : 0 ≤ c) (h1 : c ≤ 2) (h2 : l.limits.length = 3) (h3 : l.sold.length = 3) : Gives Try.prog 88 [l.d, .int .i64 c] h (.int .i64 (roomW l l.cap (c.toNat + 1))) := by
  refine meets_of [] mixed Try.func88 rfl (by kernel_rfl) (by kernel_rfl) (by rw [Try.ntmps88]; simp only [List.length_cons, List.length_nil]; omega) (fun hf => ?_)
  rw [Try.results88]
  clear hf
  simp -implicitDefEqProofs only [push_cast, Nat.reduceEqDiff, Nat.reduceBEq, Nat.reduceBNe, Nat.reduceAdd, Nat.reduceMul, Nat.reduceLT, Nat.reduceLeDiff, Nat.reduceSub, reduceCtorEq, Int.reduceToNat, ↓reduceIte]
  refine ev_loop [] (fun k : Nat => [(1, .int .i64 c), (2, .ptr h.length 0), (5, .int .i64 (roomW l l.cap k)), (6, .int .i64 k)])
    (fun _ => [.row l.cs]) (fun k => k ≤ c.toNat + 1) (fun k => c.toNat + 1 - k) 0 trivial (Nat.zero_le _) ?_ ?_
  · refine ⟨1, by simp, by simp [tokSts], ?_⟩
    simp -implicitDefEqProofs only [Int.natCast_add, Int.cast_ofNat_Int, List.length_nil, Nat.le_refl, WeakTo, tokSts, tokOks, List.append_cancel_left_eq, exists_eq_left', exists_eq_left, List.append_cancel_left_eq, List.take_length, ObCl, and_true, true_and, push_cast, Nat.reduceEqDiff, Nat.reduceBEq, Nat.reduceBNe, Nat.reduceAdd, Nat.reduceMul, Nat.reduceLT, Nat.reduceLeDiff, Nat.reduceSub, reduceCtorEq, Int.reduceToNat, ↓reduceIte]
    simp [roomW]
  · intro k hk
    have hw : IntKind.i64.wrap ((k : Int) + 1) = k + 1 := wrap_id (by omega) (by omega)
    try simp -implicitDefEqProofs only [hw, push_cast, Nat.reduceEqDiff, Nat.reduceBEq, Nat.reduceBNe, Nat.reduceAdd, Nat.reduceMul, Nat.reduceLT, Nat.reduceLeDiff, Nat.reduceSub, reduceCtorEq, Int.reduceToNat, ↓reduceIte]
    repeat'
      (first
       | (refine uYes ?_; first | exact List.mem_cons_self | (simp only [List.mem_cons, List.not_mem_nil, or_false, true_or, or_true]; done))
       | (refine uNo (by kernel_rfl))
       | (refine flatMk ?_; kernel_rfl)
       | (refine And.intro ?_ ?_)
       | (intro hx)
       | ((first
           | (refine callGF ?_)
           | (refine callQGF ?_)
           | (refine skipG ?_)
           | (refine callS (specUsed_gives l k _ (by omega) (by omega) h3) ?_)
           | (refine callQ (specUsed_gives l k _ (by omega) (by omega) h3) ?_)
           | (refine callG (fun hc => (specUsed_gives l k _ (by omega) (by omega) h3)) ?_)
           | (refine callQG (fun hc => (specUsed_gives l k _ (by omega) (by omega) h3)) ?_)); simp -implicitDefEqProofs only [hw, push_cast, Nat.reduceEqDiff, Nat.reduceBEq, Nat.reduceBNe, Nat.reduceAdd, Nat.reduceMul, Nat.reduceLT, Nat.reduceLeDiff, Nat.reduceSub, reduceCtorEq, Int.reduceToNat, ↓reduceIte]))
    all_goals first
      | omega
      | (refine round_mk (k + 1) (by omega) (by omega) ?_
         simp -implicitDefEqProofs only [hw, roomW, Int.natCast_add, Int.cast_ofNat_Int, List.length_nil, Nat.le_refl, WeakTo, tokSts, tokOks, List.append_cancel_left_eq, exists_eq_left', exists_eq_left, List.append_cancel_left_eq, List.take_length, ObCl, and_true, true_and, push_cast, Nat.reduceEqDiff, Nat.reduceBEq, Nat.reduceBNe, Nat.reduceAdd, Nat.reduceMul, Nat.reduceLT, Nat.reduceLeDiff, Nat.reduceSub, reduceCtorEq, Int.reduceToNat, ↓reduceIte]
         try omega)
      | (obtain rfl : k = c.toNat + 1 := by omega
         rfl)

/-- the same without wrapping: small numbers -/
def usedI (l : Leg) (c : Int) : Int := (l.sold.drop c.toNat).sum + (l.holds.map fun o => if c ≤ o.cls ∧ 0 < o.seats then o.seats else 0).sum
theorem sumW_small : ∀ (xs : List Int) (n : Int), (∀ x, x ∈ xs → 0 ≤ x ∧ x ≤ 9) → 0 ≤ n → n + 9 * xs.length ≤ 1000000 → sumW n xs = n + xs.sum ∧ n ≤ sumW n xs ∧ sumW n xs ≤ n + 9 * xs.length
  | [], n, _, _, _ => by simp [sumW]
  | x :: xs, n, h, hn, hl => by
    obtain ⟨h1, h2⟩ := h x List.mem_cons_self
    simp only [List.length_cons] at hl
    obtain ⟨i1, i2, i3⟩ := sumW_small xs (n + x) (fun y hy => h y (List.mem_cons_of_mem _ hy)) (by omega) (by omega)
    have e : sumW n (x :: xs) = sumW (n + x) xs := by simp only [sumW, List.foldl_cons]; rw [wrap_id (by omega) (by omega)]
    rw [e, List.sum_cons, List.length_cons]
    omega
theorem usedW_small (c : Int) : ∀ (xs : List Hold) (n : Int), (∀ x, x ∈ xs → x.seats ≤ 9) → 0 ≤ n → n + 9 * xs.length ≤ 1000000 →
    usedW c n xs = n + (xs.map fun o => if c ≤ o.cls ∧ 0 < o.seats then o.seats else 0).sum ∧ n ≤ usedW c n xs ∧ usedW c n xs ≤ n + 9 * xs.length
  | [], n, _, _, _ => by simp [usedW]
  | x :: xs, n, h, hn, hl => by
    have h1 := h x List.mem_cons_self
    simp only [List.length_cons] at hl
    rw [List.map_cons, List.sum_cons, List.length_cons]
    by_cases hc : c ≤ x.cls ∧ 0 < x.seats
    · obtain ⟨i1, i2, i3⟩ := usedW_small c xs (n + x.seats) (fun y hy => h y (List.mem_cons_of_mem _ hy)) (by omega) (by omega)
      have e : usedW c n (x :: xs) = usedW c (n + x.seats) xs := by simp only [usedW, List.foldl_cons]; rw [if_pos hc, wrap_id (by omega) (by omega)]
      rw [e, if_pos hc]
      omega
    · obtain ⟨i1, i2, i3⟩ := usedW_small c xs n (fun y hy => h y (List.mem_cons_of_mem _ hy)) (by omega) (by omega)
      have e : usedW c n (x :: xs) = usedW c n xs := by simp only [usedW, List.foldl_cons]; rw [if_neg hc]
      rw [e, if_neg hc]
      omega
theorem backW_small (c : Int) : ∀ (xs : List Hold) (n : Int), (∀ x, x ∈ xs → -9 ≤ x.seats) → 0 ≤ n → n + 9 * xs.length ≤ 1000000 →
    backW c n xs = n + (xs.map fun o => if o.cls = c ∧ o.seats < 0 then -o.seats else 0).sum ∧ n ≤ backW c n xs ∧ backW c n xs ≤ n + 9 * xs.length
  | [], n, _, _, _ => by simp [backW]
  | x :: xs, n, h, hn, hl => by
    have h1 := h x List.mem_cons_self
    simp only [List.length_cons] at hl
    rw [List.map_cons, List.sum_cons, List.length_cons]
    by_cases hc : x.cls = c ∧ x.seats < 0
    · obtain ⟨i1, i2, i3⟩ := backW_small c xs (n - x.seats) (fun y hy => h y (List.mem_cons_of_mem _ hy)) (by omega) (by omega)
      have e : backW c n (x :: xs) = backW c (n - x.seats) xs := by simp only [backW, List.foldl_cons]; rw [if_pos hc, wrap_id (by omega) (by omega)]
      rw [e, if_pos hc]
      omega
    · obtain ⟨i1, i2, i3⟩ := backW_small c xs n (fun y hy => h y (List.mem_cons_of_mem _ hy)) (by omega) (by omega)
      have e : backW c n (x :: xs) = backW c n xs := by simp only [backW, List.foldl_cons]; rw [if_neg hc]
      rw [e, if_neg hc]
      omega
def backI (l : Leg) (c : Int) : Int := (l.holds.map fun o => if o.cls = c ∧ o.seats < 0 then -o.seats else 0).sum

theorem inB_iff {n lo hi : Int} : inB n lo hi = true ↔ lo ≤ n ∧ n ≤ hi := by simp [inB]
theorem all_getD {α : Type} {d : α} {p : α → Prop} {xs : List α} : (∀ i, i < xs.length → p (xs.getD i d)) ↔ ∀ x, x ∈ xs → p x := by
  constructor
  · intro h x hx
    obtain ⟨i, hi, rfl⟩ := List.mem_iff_getElem.1 hx
    have := h i hi
    rwa [List.getD_eq_getElem?_getD, List.getElem?_eq_getElem hi] at this
  · intro h i hi
    rw [List.getD_eq_getElem?_getD, List.getElem?_eq_getElem hi]
    exact h _ (List.getElem_mem hi)

/-- what a leg that is ok is, in plain words -/
structure LegP (l : Leg) : Prop where
  name : nameB l.name = true
  src : nameB l.src = true
  dst : nameB l.dst = true
  ne : l.src ≠ l.dst
  dep : 0 ≤ l.dep ∧ l.dep ≤ 9999
  arr : l.dep + 1 ≤ l.arr ∧ l.arr ≤ 9999
  cap : 1 ≤ l.cap ∧ l.cap ≤ 9
  limits : l.limits.length = 3
  lim : ∀ i, i < 3 → 0 ≤ l.limits.getD i 0 ∧ l.limits.getD i 0 ≤ l.cap
  fall : ∀ i, i < 3 → i ≠ 0 → l.limits.getD i 0 ≤ l.limits.getD (i - 1) 0
  lim0 : l.limits.getD 0 0 = l.cap
  sold : l.sold.length = 3
  sol : ∀ x, x ∈ l.sold → 0 ≤ x ∧ x ≤ l.cap
  bids : 1 ≤ l.bids.length ∧ l.bids.length ≤ 4
  bid : ∀ i, i < l.bids.length → 0 ≤ l.bids.getD i 0 ∧ l.bids.getD i 0 ≤ 1000000000
  bfall : ∀ i, i < l.bids.length → i ≠ 0 → l.bids.getD i 0 ≤ l.bids.getD (i - 1) 0
  holds : l.holds.length ≤ 6
  hold : ∀ i, i < l.holds.length → mayB l (l.holds.getD i default) = true
  rise : ∀ i, i < l.holds.length → i ≠ 0 → (l.holds.getD (i - 1) default).txn < (l.holds.getD i default).txn
  used : ∀ i : Nat, i < 3 → usedV l i ≤ l.limits.getD i 0
  back : ∀ i : Nat, i < 3 → backV l i ≤ l.sold.getD i 0
theorem legP_of {l : Leg} (h : legB l = true) : LegP l := by
  simp only [legB, holdsB, anyB, fallB, Bool.and_eq_true, decide_eq_true_eq, Bool.not_not, allB_iff, Bool.not_eq_true', decide_eq_false_iff_not, holdAt, clsAt, fallAt, inB_iff, Bool.or_eq_true] at h
  obtain ⟨⟨⟨⟨⟨⟨⟨⟨⟨⟨⟨⟨⟨⟨a1, a2⟩, a3⟩, a4⟩, a5⟩, a6⟩, a7⟩, a8⟩, a9⟩, a10⟩, a11⟩, a12⟩, a13⟩, a14⟩, ⟨a15, a16⟩, a17⟩ := h
  have e8 : l.limits.length = 3 := by omega
  have e11 : l.sold.length = 3 := by omega
  rw [wrap_id (by omega) (by omega)] at a6
  rw [e8] at a9
  exact ⟨a1, a2, a3, a4, a5, a6, a7, e8, fun i hi => (a9 i hi).1, fun i hi h0 => (a9 i hi).2.resolve_left h0, a10, e11, all_getD.1 a12, by omega, fun i hi => (a14 i hi).1, fun i hi h0 => (a14 i hi).2.resolve_left h0, a17, fun i hi => (a15 i hi).1, fun i hi h0 => (a15 i hi).2.resolve_left h0, fun i hi => (a16 i hi).1, fun i hi => (a16 i hi).2⟩
theorem LegP.mk_leg {l : Leg} (h : LegP l) : legB l = true := by
  obtain ⟨a1, a2, a3, a4, a5, a6, a7, e8, a9, a9', a10, e11, a12, a13, a14, a14', a17, a15, a15', a16, a16'⟩ := h
  simp only [legB, holdsB, anyB, fallB, Bool.and_eq_true, decide_eq_true_eq, Bool.not_not, allB_iff, Bool.not_eq_true', decide_eq_false_iff_not, holdAt, clsAt, fallAt, inB_iff, Bool.or_eq_true]
  rw [wrap_id (by omega) (by omega), e8, e11]
  have dd : ∀ {p : Prop} {i : Nat}, (i ≠ 0 → p) → i = 0 ∨ p := fun {p i} h => by
    by_cases e : i = 0
    · exact .inl e
    · exact .inr (h e)
  exact ⟨⟨⟨⟨⟨⟨⟨⟨⟨⟨⟨⟨⟨⟨a1, a2⟩, a3⟩, a4⟩, a5⟩, a6⟩, a7⟩, by omega⟩, fun i hi => ⟨a9 i hi, dd (a9' i hi)⟩⟩, a10⟩, by omega⟩, by rw [← e11]; exact all_getD.2 a12⟩, by omega⟩, fun i hi => ⟨a14 i hi, dd (a14' i hi)⟩⟩, ⟨fun i hi => ⟨a15 i hi, dd (a15' i hi)⟩, fun i hi => ⟨a16 i hi, a16' i hi⟩⟩, a17⟩
theorem legB_iff {l : Leg} : legB l = true ↔ LegP l := ⟨legP_of, LegP.mk_leg⟩

theorem LegP.seats {l : Leg} (h : LegP l) : ∀ o, o ∈ l.holds → inB o.txn 1 99 = true ∧ inB o.cls 0 2 = true ∧ -l.cap ≤ o.seats ∧ o.seats ≤ l.cap ∧ o.seats ≠ 0 := by
  refine (all_getD (d := default)).1 fun i hi => ?_
  have := h.hold i hi
  have hc := h.cap
  simp only [mayB, Bool.and_eq_true, Bool.not_eq_true', decide_eq_false_iff_not] at this
  rw [wrap_id (by omega) (by omega)] at this
  have h2 := inB_iff.1 this.1.2
  exact ⟨this.1.1.1, this.1.1.2, by omega, h2.2, this.2⟩
theorem LegP.usedI {l : Leg} (h : LegP l) {c : Int} (h0 : 0 ≤ c) : usedV l c = usedI l c ∧ 0 ≤ usedV l c ∧ usedV l c ≤ 81 := by
  have hs := h.sold
  have hc := h.cap
  have hh := h.holds
  obtain ⟨a1, a2, a3⟩ := sumW_small (l.sold.drop c.toNat) 0 (fun x hx => by
    have := h.sol x (List.mem_of_mem_drop hx)
    omega) (by omega) (by simp only [List.length_drop]; omega)
  obtain ⟨b1, b2, b3⟩ := usedW_small c l.holds (sumW 0 (l.sold.drop c.toNat)) (fun x hx => by
    have := h.seats x hx
    omega) (by omega) (by simp only [List.length_drop] at a3; omega)
  simp only [List.length_drop] at a3
  rw [usedV, Go.Proofs.Ytmehbbepppjikaa.usedI]
  omega
theorem LegP.backI {l : Leg} (h : LegP l) (c : Int) : backV l c = backI l c ∧ 0 ≤ backV l c ∧ backV l c ≤ 54 := by
  have hc := h.cap
  have hh := h.holds
  obtain ⟨b1, b2, b3⟩ := backW_small c l.holds 0 (fun x hx => by
    have := h.seats x hx
    omega) (by omega) (by omega)
  rw [backV, Go.Proofs.Ytmehbbepppjikaa.backI]
  omega
theorem LegP.roomW {l : Leg} (h : LegP l) : ∀ {k : Nat}, k < 3 → roomW l 9 (k + 1) = roomW l l.cap (k + 1) ∧ 0 ≤ roomW l 9 (k + 1) ∧ roomW l 9 (k + 1) ≤ l.limits.getD k 0
  | 0, _ => by
    have h1 := h.usedI (c := 0) (by omega)
    have h2 : usedV l 0 ≤ l.limits.getD 0 0 := h.used 0 (by omega)
    have h3 := h.lim0
    have h4 := h.cap
    simp only [Go.Proofs.Ytmehbbepppjikaa.roomW, Int.cast_ofNat_Int]
    rw [wrap_id (by omega) (by omega)]
    omega
  | k + 1, hk => by
    obtain ⟨i1, i2, i3⟩ := LegP.roomW (k := k) h (by omega)
    have h1 := h.usedI (c := (k + 1 : Nat)) (by omega)
    have h2 := h.used (k + 1) (by omega)
    have h3 := h.lim (k + 1) (by omega)
    have h4 := h.cap
    have e : ∀ s, Go.Proofs.Ytmehbbepppjikaa.roomW l s (k + 1 + 1) = min (Go.Proofs.Ytmehbbepppjikaa.roomW l s (k + 1)) (IntKind.i64.wrap (l.limits.getD (k + 1) 0 - usedV l (k + 1 : Nat))) := fun _ => rfl
    rw [e, e, i1, wrap_id (by omega) (by omega)]
    rw [i1] at i2
    omega

/-- what the next seat is worth -/
def bidV (l : Leg) : Int := l.bids.getD (min (roomW l 9 1) (l.bids.length - 1)).toNat 0
theorem bid_gives (l : Leg) (h : Hp) (hl : legB l = true) : Gives Try.prog 90 [l.d] h (.int .i64 (bidV l)) := by
  have hp := legP_of hl
  have e2 := hp.limits
  have e3 := hp.sold
  have e4 := hp.bids
  obtain ⟨-, e5, -⟩ := hp.roomW (k := 0) (by omega)
  have e6 : IntKind.i64.wrap ((l.bids.length : Int) - 1) = l.bids.length - 1 := wrap_id (by omega) (by omega)
  refine meets_of [] mixed Try.func90 rfl (by kernel_rfl) (by kernel_rfl) (by rw [Try.ntmps90]; simp only [List.length_cons, List.length_nil]; omega) (fun hf => ?_)
  rw [Try.results90]
  clear hf
  try simp -implicitDefEqProofs only [e6, push_cast, Nat.reduceEqDiff, Nat.reduceBEq, Nat.reduceBNe, Nat.reduceAdd, Nat.reduceMul, Nat.reduceLT, Nat.reduceLeDiff, Nat.reduceSub, reduceCtorEq, Int.reduceToNat, ↓reduceIte]
  repeat'
    (first
     | (refine uYes ?_; first | exact List.mem_cons_self | (simp only [List.mem_cons, List.not_mem_nil, or_false, true_or, or_true]; done))
     | (refine uNo (by kernel_rfl))
     | (refine flatMk ?_; kernel_rfl)
     | (refine And.intro ?_ ?_)
     | (intro hx)
     | ((first
         | (refine callGF ?_)
         | (refine callQGF ?_)
         | (refine skipG ?_)
         | (refine callS (room_gives l 0 _ (by omega) (by omega) e2 e3) ?_)
         | (refine callQ (room_gives l 0 _ (by omega) (by omega) e2 e3) ?_)
         | (refine callG (fun hc => (room_gives l 0 _ (by omega) (by omega) e2 e3)) ?_)
         | (refine callQG (fun hc => (room_gives l 0 _ (by omega) (by omega) e2 e3)) ?_)); simp -implicitDefEqProofs only [e6, push_cast, Nat.reduceEqDiff, Nat.reduceBEq, Nat.reduceBNe, Nat.reduceAdd, Nat.reduceMul, Nat.reduceLT, Nat.reduceLeDiff, Nat.reduceSub, reduceCtorEq, Int.reduceToNat, ↓reduceIte]))
  all_goals simp only [Nat.zero_add] at e5
  all_goals first | omega | (simp only [bidV]; congr 2; omega)
theorem specBid_gives (l : Leg) (h : Hp) (hl : legB l = true) : Gives Try.prog 89 [l.d] h (.int .i64 (bidV l)) := by
  have hp := legP_of hl
  have e2 := hp.limits
  have e3 := hp.sold
  have e4 := hp.bids
  obtain ⟨e5, e6, -⟩ := hp.roomW (k := 0) (by omega)
  refine meets_of [] mixed Try.func89 rfl (by kernel_rfl) (by kernel_rfl) (by rw [Try.ntmps89]; simp only [List.length_cons, List.length_nil]; omega) (fun hf => ?_)
  rw [Try.results89]
  clear hf
  have e7 : IntKind.i64.wrap ((l.bids.length : Int) - 1) = l.bids.length - 1 := wrap_id (by omega) (by omega)
  try simp -implicitDefEqProofs only [e7, push_cast, Nat.reduceEqDiff, Nat.reduceBEq, Nat.reduceBNe, Nat.reduceAdd, Nat.reduceMul, Nat.reduceLT, Nat.reduceLeDiff, Nat.reduceSub, reduceCtorEq, Int.reduceToNat, ↓reduceIte]
  repeat'
    (first
     | (refine uYes ?_; first | exact List.mem_cons_self | (simp only [List.mem_cons, List.not_mem_nil, or_false, true_or, or_true]; done))
     | (refine uNo (by kernel_rfl))
     | (refine flatMk ?_; kernel_rfl)
     | (refine And.intro ?_ ?_)
     | (intro hx)
     | ((first
         | (refine callGF ?_)
         | (refine callQGF ?_)
         | (refine skipG ?_)
         | (refine callS (specRoom_gives l 0 _ (by omega) (by omega) e2 e3) ?_)
         | (refine callQ (specRoom_gives l 0 _ (by omega) (by omega) e2 e3) ?_)
         | (refine callG (fun hc => (specRoom_gives l 0 _ (by omega) (by omega) e2 e3)) ?_)
         | (refine callQG (fun hc => (specRoom_gives l 0 _ (by omega) (by omega) e2 e3)) ?_)); simp -implicitDefEqProofs only [e7, push_cast, Nat.reduceEqDiff, Nat.reduceBEq, Nat.reduceBNe, Nat.reduceAdd, Nat.reduceMul, Nat.reduceLT, Nat.reduceLeDiff, Nat.reduceSub, reduceCtorEq, Int.reduceToNat, ↓reduceIte]))
  all_goals simp only [Nat.zero_add] at e5 e6
  all_goals rw [e5] at e6
  all_goals first | omega | (simp only [bidV, e5]; congr 2; omega)
end Go.Proofs.Ytmehbbepppjikaa
